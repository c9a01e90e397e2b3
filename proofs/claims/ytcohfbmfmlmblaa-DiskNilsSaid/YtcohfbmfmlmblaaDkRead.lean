/- What is read of a disk. -/
import Derived.Test.YtcohfbmfmlmblaaDkBack
import Derived.Deep.QuietTactic
set_option linter.unusedVariables false
set_option linter.unusedSimpArgs false
namespace Go.Proofs.Ytcohfbmfmlmblaa
open Go.RowKit Go.Proofs.YtcohfbmfmlmblaaW.PrintWords Go.Proofs.Ytcohfbmfmlmblaa.PDiskPlays Go.Proofs.YtcohfbmfmlmblaaW.PrintLast
attribute [local go_sem] Oper.semAt_some
theorem results_cells {P : Program} {fn : Func} {p q : Tmp} {t1 t2 : TypeId} (h : fn.results = #[.cell p t1, .cell q t2]) (tmps : Array Value) (w : World) {g1 g2 : Nat} {v1 v2 : Value}
    (h1 : tmps.getD p undef = .pointer (some ⟨g1, 0, none⟩)) (h2 : tmps.getD q undef = .pointer (some ⟨g2, 0, none⟩))
    (l1 : (loadVar t1 ⟨g1, 0, none⟩).run P w = .ok v1 w) (l2 : (loadVar t2 ⟨g2, 0, none⟩).run P w = .ok v2 w) : (results fn tmps).run P w = .ok (.tuple #[v1, v2]) w := by
  have h1' : tmps[p]?.getD undef = .pointer (some ⟨g1, 0, none⟩) := by rw [← h1]; simp [Array.getD_eq_getD_getElem?]
  have h2' : tmps[q]?.getD undef = .pointer (some ⟨g2, 0, none⟩) := by rw [← h2]; simp [Array.getD_eq_getD_getElem?]
  simp only [results, h]
  simp [Sem.run_bind, Result.andThen, h1', h2', asAddr, l1, l2]
theorem load_str (w : World) (g : Nat) (s : ByteArray) (h : w.cell? ⟨g, 0, none⟩ = some (.string s)) : (loadVar 9 ⟨g, 0, none⟩).run Try.prog w = .ok (.string s) w := by
  have hu := Try.underlying9
  go_simp
theorem load_err (w : World) (g : Nat) (x : Int) (h : w.cell? ⟨g, 0, none⟩ = some (.int .i64 x)) : (loadVar 31 ⟨g, 0, none⟩).run Try.prog w = .ok (.int .i64 x) w := by
  have hu := Try.underlying31
  go_simp
theorem boxes3 (w : World) (i : Int) : ∃ W0, W0 = ((w.alloc (.cells #[.int .i64 i] 3)).alloc (.cells #[.string ⟨#[]⟩] 9)).alloc (.cells #[.int .i64 0] 31) ∧ Mod [] w W0 ∧ W0.heap.size = w.heap.size + 3 ∧ W0.heap[w.heap.size]? = some (.cells #[.int .i64 i] 3 (0, 0)) ∧ W0.heap[w.heap.size + 1]? = some (.cells #[.string ⟨#[]⟩] 9 (0, 0)) ∧ W0.heap[w.heap.size + 1 + 1]? = some (.cells #[.int .i64 0] 31 (0, 0)) := by
  refine ⟨_, rfl, (((Mod.refl [] w).alloc _).alloc _).alloc _, by simp, blk_old (blk_old (blk_new w _) _) _, ?_, ?_⟩
  · have := blk_old (blk_new (w.alloc (.cells #[.int .i64 i] 3)) (.cells #[.string ⟨#[]⟩] 9)) (.cells #[.int .i64 0] 31)
    rwa [World.size_alloc] at this
  · have := blk_new ((w.alloc (.cells #[.int .i64 i] 3)).alloc (.cells #[.string ⟨#[]⟩] 9)) (.cells #[.int .i64 0] 31)
    rwa [World.size_alloc, World.size_alloc] at this
theorem boxes_set {W0 : World} {b : Nat} {v4 v5 : Value} (B4 : W0.heap[b + 1]? = some (.cells #[v4] 9 (0, 0))) (B5 : W0.heap[b + 1 + 1]? = some (.cells #[v5] 31 (0, 0))) (u4 u5 : Value) :
    ((W0.setCell ⟨b + 1, 0, none⟩ u4).setCell ⟨b + 1 + 1, 0, none⟩ u5).cell? ⟨b + 1, 0, none⟩ = some u4 ∧ ((W0.setCell ⟨b + 1, 0, none⟩ u4).setCell ⟨b + 1 + 1, 0, none⟩ u5).cell? ⟨b + 1 + 1, 0, none⟩ = some u5 := by
  have h1 := blk_put B4 0 u4 rfl
  have h2 : (W0.setCell ⟨b + 1, 0, none⟩ u4).heap[b + 1 + 1]? = some (.cells #[v5] 31 (0, 0)) := (Below.heap_setCell W0 _ _ (b + 1 + 1) (by simp)).trans B5
  have h3 := blk_put h2 0 u5 rfl
  have h4 : ((W0.setCell ⟨b + 1, 0, none⟩ u4).setCell ⟨b + 1 + 1, 0, none⟩ u5).heap[b + 1]? = _ := (Below.heap_setCell _ _ _ (b + 1) (by simp)).trans h1
  exact ⟨(blk_cell h4 0).trans rfl, (blk_cell h3 0).trans rfl⟩
theorem cells_kept {W W' : World} {row : Option Nat} {B : Nat} {cs : Array Value} {t : TypeId} (h : W.heap[B]? = some (.cells cs t (0, 0))) (hg : W.grownBy W' row) (hr : ∀ r, row = some r → ∃ o : Obj, W.heap[r]? = some o ∧ o.isCells = false) : W'.heap[B]? = some (.cells cs t (0, 0)) := by
  refine (hg.block B (blk_lt h) (fun e => ?_)).trans h
  obtain ⟨o, h1, h2⟩ := hr B e.symm
  rw [h] at h1
  cases h1
  cases h2
theorem find_stop (row : List S65) (i : Int) (m : Nat) (pre' : List El) (x : El) (hm : m ≤ row.length) (e2 : sol row m = pre' ++ [x]) (e3 : ∀ y ∈ pre', y.2.f0 ≠ i) (e4 : x.2.f0 = i) : row.reverse.find? (fun y => y.f0 == i) = some x.2 := by
  have h := sol_snd row m hm
  rw [e2, List.map_append] at h
  rw [← List.take_append_drop m row.reverse, ← h, List.find?_append, List.find?_append]
  have h0 : (pre'.map (·.2)).find? (fun y => y.f0 == i) = none := List.find?_eq_none.2 (fun z hz => by
    obtain ⟨y, hy, rfl⟩ := List.mem_map.1 hz
    simpa using e3 y hy)
  rw [h0]
  simp [e4]
theorem find_done (row : List S65) (i : Int) (h : ∀ y ∈ sol row row.length, y.2.f0 ≠ i) : row.reverse.find? (fun y => y.f0 == i) = none := by
  have h1 := sol_snd row row.length (Nat.le_refl _)
  rw [List.take_of_length_le (by simp)] at h1
  rw [← h1]
  refine List.find?_eq_none.2 (fun z hz => ?_)
  obtain ⟨y, hy, rfl⟩ := List.mem_map.1 hz
  simpa using h y hy
theorem canE_ok {D : DK} {i : Int} (h : canE D i = 0) : 0 ≤ i ∧ i < D.l.length := by
  unfold canE at h
  split at h
  · cases h
  · split at h
    · cases h
    · omega
theorem fin_mod {w w2 W : World} {b D2 : Nat} {o : Obj} (h : Mod [] w w2) (hb : w.heap.size = b) (hB : Below b w2 W) (hD : b ≤ D2) : Mod [] w (W.putObj D2 o) :=
  ⟨hB.os.trans h.os, hB.tape.trans h.tape, hB.output.trans h.output, by rw [World.putObj_size]; exact Nat.le_trans h.size hB.size, fun k hk hs =>
    ((World.putObj_heap_other (by omega)).trans (hB.block k (by omega))).trans (h.block k hk hs)⟩
/-- What is read. -/
def readS (D : DK) (i : Int) : ByteArray := if canE D i = 0 then (match D.row.reverse.find? (fun x => x.f0 == i) with | some x => x.f1 | none => D.l.getD i.toNat ⟨#[]⟩) else ⟨#[]⟩
set_option maxRecDepth 100000 in
set_option maxHeartbeats 2000000 in
theorem read_any (w : World) (fp : Nat → Prop) (g : Nat) (D : DK) (i : Int) (h : Dsk w fp g D) (hl : D.row.length ≤ 1000) :
    Calls Try.prog 11 #[.pointer (some ⟨g, 0, none⟩), .int .i64 i] w fun e w' => e = .returned (.tuple #[.string (readS D i), .int .i64 (canE D i)]) ∧ Mod [] w w' := by
  obtain ⟨W0, hW0, hm3, hs3, b3, b4, b5⟩ := boxes3 w i
  obtain ⟨b, hb⟩ : ∃ b, w.heap.size = b := ⟨_, rfl⟩
  have hcc := can_any W0 fp g D i (h.mod hm3)
  have c3 := (blk_cell b3 0).trans rfl
  have c4 := (blk_cell b4 0).trans rfl
  have c5 := (blk_cell b5 0).trans rfl
  have f4 := blk_frozen b4 0
  have f5 := blk_frozen b5 0
  rw [hb] at hs3 b3 b4 b5 c3 c4 c5 f4 f5
  by_cases hc : canE D i = 0
  · have hD := h.mod hm3
    obtain ⟨L, R, h1, h2, h3, h4, h5⟩ := hD
    obtain ⟨A, cap, rfl, hcap, hrC⟩ := Kd.R_reads h3
    rw [hc] at hcc ⊢
    refine (callsIn_wide (n := 4)).1 ?_
    refine callsIn_of_wp_marks Try.func11 rfl trivial ?_ rfl
    simp only [Try.ntmps11, List.size_toArray, List.length_cons, List.length_nil, Nat.reduceAdd, Nat.reduceSub, Array.replicate_succ, Array.replicate_zero, List.push_toArray, List.append_toArray, List.nil_append, List.cons_append]
    have B3 := Lib.hid b3
    have B4 := Lib.hid b4
    have B5 := Lib.hid b5
    have HM3 := Lib.hid hm3
    have HB := Lib.hid hb
    have HS3 := Lib.hid hs3
    have H1 := Lib.hid h1
    have H5 := Lib.hid h5
    have x0 := (blk_cell h1 0).trans rfl
    have x1 := (blk_cell h1 1).trans rfl
    clear b3 b4 b5 hm3 hs3 h1 hrC h
    gi_wp2_with fail
    refine ⟨trivial, ?_⟩
    rw [← hW0]
    refine (callsIn_wide.2 hcc).mono ?_
    rintro e w1 ⟨rfl, rfl⟩
    clear hcc hW0 hb
    have hbk := back_any A D.row.length cap W0
    gi_wp2_with fail
    refine ⟨trivial, ?_⟩
    refine (callsIn_wide.2 hbk).mono ?_
    rintro e w2 ⟨rfl, rfl⟩
    clear hbk
    have BX := Lib.hid (blk_new W0 (.cells #[.slice A D.row.length cap] 63))
    have B31 := Lib.hid (blk_old B3.out (.cells #[.slice A D.row.length cap] 63))
    have B41 := Lib.hid (blk_old B4.out (.cells #[.slice A D.row.length cap] 63))
    have B51 := Lib.hid (blk_old B5.out (.cells #[.slice A D.row.length cap] 63))
    have H11 := Lib.hid (blk_old H1.out (.cells #[.slice A D.row.length cap] 63))
    have h21 := Kd.R_alloc h2 (.cells #[.slice A D.row.length cap] 63)
    have h31 := Kd.R_alloc h3 (.cells #[.slice A D.row.length cap] 63)
    have HM31 := Lib.hid (HM3.out.alloc (.cells #[.slice A D.row.length cap] 63))
    have HSW := Lib.hid (World.size_alloc W0 (.cells #[.slice A D.row.length cap] 63))
    clear h2 h3 x0 x1 B3 B4 B5 HM3 c3 c4 c5 f4 f5
    generalize W0.alloc _ = w2 at *
    generalize W0.heap.size = Bp at *
    gi_wp2_with fail
    have hK : ∀ k, (fp k ∨ k = Bp) → k < w2.heap.size := fun k h => h.elim (fun h => by have := H5.out k h; rw [HSW.out]; omega) (fun h => by rw [HSW.out]; omega)
    have hb2 : b + 3 = Bp := HS3.out.symm
    have hsz := HSW.out
    refine wpIn_rangeFunc_ownH rfl (by omega) (gf := 40) (lb := #[.pointer (some ⟨Bp, 0, none⟩)]) rfl trivial (enters_of Try.func40 (by kernel_rfl) rfl)
      (back_stops 3 Bp (.slice A D.row.length cap) fp (fun k => fp k ∨ k = Bp) D.row hl (by omega) (fun k h => .inl h) (.inr rfl) w2 hK BX.out h31)
      Keep.trans (fun W y o o' hl _ _ _ => Keep.put (w := w2) hK W y o o' hl) (Below.refl _ _) (fun _ => rfl)
      (fun pre W => (∀ y ∈ pre, y.2.f0 ≠ i) ∧ Below w2.heap.size w2 W)
      (fun c pre W => (c = .ret ∧ ∃ pre' x, pre = pre' ++ [x] ∧ (∀ y ∈ pre', y.2.f0 ≠ i) ∧ x.2.f0 = i ∧ W.heap[b + 1]? = some (.cells #[.string x.2.f1] 9 (0, 0)) ∧ W.heap[b + 1 + 1]? = some (.cells #[.int .i64 0] 31 (0, 0))) ∧ Below b w2 W)
      (OwnFrom.and (ownFrom_pure _ _) (ownFrom_below (Nat.le_refl _) (Nat.le_refl _)))
      (fun c => OwnFrom.and (Own.from (fun s X Y row hs hg hr => by
        obtain ⟨e1, pre', x, e2, e3, e4, e5, e6⟩ := hs
        exact ⟨e1, pre', x, e2, e3, e4, cells_kept e5 hg hr, cells_kept e6 hg hr⟩) _) (ownFrom_below (by omega) (by omega)))
      ⟨fun y hy => absurd hy (by simp), Below.refl _ _⟩
      (fun x a' W => ∃ p, a' = { tmps := #[.pointer (some ⟨g, 0, none⟩), .int .i64 i, undef, .pointer (some ⟨b, 0, none⟩), .pointer (some ⟨b + 1, 0, none⟩), .pointer (some ⟨b + 1 + 1, 0, none⟩), .int .i64 0, undef, .pointer (some ⟨p, 0, none⟩), .pointer (some ⟨g, 0, none⟩), .int .i64 i, .int .i64 0, .int .i64 0, .bool false, undef, .pointer (some ⟨g, 0, none⟩), .pointer (some ⟨g, 0, none⟩), .pointer (some ⟨g, 1, none⟩), .slice A D.row.length cap, .func (.func 40) #[] #[.pointer (some ⟨Bp, 0, none⟩)], .int .i64 (x.1 : Int), .agg #[.int .i64 x.2.f0, .string x.2.f1], undef, undef, undef, undef, undef, undef, undef, undef, undef, undef, undef, undef, undef], defers := [] } ∧ W.heap[p]? = some (.cells #[.int .i64 x.2.f0, .string x.2.f1] 65 (0, 0)))
      (fun x a' => Own.from (fun s X Y row hs hg hr => by
        obtain ⟨p, e1, e2⟩ := hs
        exact ⟨p, e1, cells_kept e2 hg hr⟩) _)
      ?assign ?body ?done ?stop
    case assign =>
      intro l pre x W K hI hK2
      simp only [encs]
      gi_wp2
      refine hK2 _ _ ((KeepsOthers.alloc W _).from _) ⟨by simp, fun k hk => Below.heap_alloc W _ k (Nat.lt_of_lt_of_le (hK k hk) hI.2.size)⟩ ⟨hI.1, hI.2.alloc hI.2.size _⟩ ⟨W.heap.size, rfl, blk_new W _⟩
    case body =>
      rintro l pre x a' W hl1 _ ⟨hI1, hI2⟩ ⟨p, rfl, hp⟩ hlen
      have y3 := (blk_cell ((hI2.block b (by omega)).trans B31.out) 0).trans rfl
      have y4 := (hI2.block (b + 1) (by omega)).trans B41.out
      have y5 := (hI2.block (b + 1 + 1) (by omega)).trans B51.out
      have z4 := (blk_cell y4 0).trans rfl
      have z5 := (blk_cell y5 0).trans rfl
      have g4 := blk_frozen y4 0
      have g5 := blk_frozen y5 0
      have p0 := (blk_cell hp 0).trans rfl
      have p1 := (blk_cell hp 1).trans rfl
      have HI1 := Lib.hid hI1
      have HI2 := Lib.hid hI2
      have Y4 := Lib.hid y4
      have Y5 := Lib.hid y5
      clear hI1 hI2 y4 y5 hp hK h21 h31 H11 H1 HM31
      by_cases hx : x.2.f0 = i
      · have hxb : (x.2.f0 == i) = true := by simpa using hx
        have q5 := (Below.heap_setCell W ⟨b + 1, 0, none⟩ (.string x.2.f1) (b + 1 + 1) (by simp)).trans Y5.out
        have z5a := (blk_cell q5 0).trans rfl
        have g5a := blk_frozen q5 0
        have HX := Lib.hid hx
        clear hx
        gi_wp2
        refine ⟨((KeepsOthers.setCell _ _ _).trans (KeepsOthers.setCell _ _ _)).from _, ⟨rfl, pre, x, rfl, HI1.out, HX.out, ?_, blk_put q5 0 (.int .i64 0) rfl⟩, ?_⟩
        · exact (Below.heap_setCell _ _ _ (b + 1) (by simp)).trans (blk_put Y4.out 0 (.string x.2.f1) rfl)
        · have hbb : Below b w2 W := HI2.out.mono (by omega)
          exact (hbb.setCell (p := ⟨b + 1, 0, none⟩) (by simp) _).setCell (p := ⟨b + 1 + 1, 0, none⟩) (by simp; omega) _
      · have hxb : (x.2.f0 == i) = false := by simpa using hx
        gi_wp2
        refine ⟨KeepsFrom.refl _ _, Keep.refl _ _, fun y hy => ?_, HI2.out⟩
        rcases List.mem_append.1 hy with hy | hy
        · exact HI1.out y hy
        · rw [List.mem_singleton.1 hy]; exact hx
    case done =>
      rintro D2 xs W hD1 rfl ⟨hI1, hI2⟩ hD2
      have hnone := find_done D.row i hI1
      have HRS := Lib.hid (show readS D i = rdOf ByteArray.empty D.l i by rw [readS, if_pos hc, hnone]; rfl)
      obtain ⟨i0, i1⟩ := canE_ok hc
      obtain ⟨AL, cl, rfl, hcl, hrL⟩ := Kd.R_reads h21
      obtain ⟨ad, rfl, ue0⟩ := Kd.at_string hrL i i0 i1
      have hm2 : Mod [] w2 W := Mod.of_below hI2
      have ue := hm2.cell ue0 (by simp)
      have u0 := (blk_cell (hm2.blk H11.out (by simp)) 0).trans rfl
      have y3 := (blk_cell (hm2.blk B31.out (by simp)) 0).trans rfl
      have y4 := hm2.blk B41.out (by simp)
      have y5 := hm2.blk B51.out (by simp)
      have z4 := (blk_cell y4 0).trans rfl
      have g4 := blk_frozen y4 0
      have z5 := (blk_cell y5 0).trans rfl
      have g5 := blk_frozen y5 0
      obtain ⟨l4, l5⟩ := boxes_set y4 y5 (.string (rdOf ByteArray.empty D.l i)) (.int .i64 0)
      have hlD : b + 1 + 1 < D2 := by omega
      have hD3 : ((W.setCell ⟨b + 1, 0, none⟩ (.string (rdOf ByteArray.empty D.l i))).setCell ⟨b + 1 + 1, 0, none⟩ (.int .i64 0)).heap[D2]? = some (.deferred (some [])) := ((Below.heap_setCell _ _ _ D2 (by simp; omega)).trans (Below.heap_setCell _ _ _ D2 (by simp; omega))).trans hD2
      have HMW := Lib.hid (show Mod [] w ((W.setCell ⟨b + 1, 0, none⟩ (.string (rdOf ByteArray.empty D.l i))).setCell ⟨b + 1 + 1, 0, none⟩ (.int .i64 0)) from Mod.setCell (p := ⟨b + 1 + 1, 0, none⟩) (Mod.setCell (p := ⟨b + 1, 0, none⟩) (HM31.out.trans0 hm2) (.inr (by rw [HB.out]; simp)) _) (.inr (by rw [HB.out]; simp; omega)) _)
      have HD3 := Lib.hid hD3
      have HL4 := Lib.hid l4
      have HL5 := Lib.hid l5
      clear hnone hcl hrL ue0 h21 h31 hm2 y4 y5 hD2 hD3 hI1 hI2 l4 l5 hK
      gi_wp2_with fail
      refine wpIn_wide.2 ?_
      refine wp_region_noPanic ?_
      refine start_ (n := 9) (S := fun w' => w'.cell? ⟨g, 0, none⟩ = some (.slice (some ad) D.l.length cl) ∧ w'.cell? ⟨b, 0, none⟩ = some (.int .i64 i) ∧ w'.cell? (ad.add i.toNat) = some (.string (rdOf ByteArray.empty D.l i))) (ds := [7, 8]) #[false, false, false, false, false, false, false, false, false] (by kernel_rfl) rfl rfl ⟨u0, y3, ue⟩ (fun hHeld => ?_)
      refine pure_ (i := 0) (N := some 28) (v := ?_) (a' := ?_) #[true, false, false, false, false, false, false, false, false] rfl rfl (by kernel_rfl) (fun _ _ _ h => h) (Or.inl ⟨by rfl, ?_⟩) ?_ ?_
      rotate_left
      · intro w'
        go_simp
        with_reducible rfl
      rotate_left
      · simp only [Act.put, List.setIfInBounds_toArray, List.set_cons_zero, List.set_cons_succ, i64_w, i32_w]
        rfl
      refine pure_ (i := 1) (N := some 29) (v := ?_) (a' := ?_) #[true, true, false, false, false, false, false, false, false] rfl rfl (by kernel_rfl) (fun _ _ _ h => h) (Or.inl ⟨by rfl, ?_⟩) ?_ ?_
      rotate_left
      · intro w'
        go_simp
        with_reducible rfl
      rotate_left
      · simp only [Act.put, List.setIfInBounds_toArray, List.set_cons_zero, List.set_cons_succ, i64_w, i32_w]
        rfl
      refine pure_ (i := 2) (N := some 30) (v := ?_) (a' := ?_) #[true, true, true, false, false, false, false, false, false] rfl rfl (by kernel_rfl) (fun _ _ _ h => h) (Or.inl ⟨by rfl, ?_⟩) ?_ ?_
      rotate_left
      · intro w'
        go_simp
        with_reducible rfl
      rotate_left
      · simp only [Act.put, List.setIfInBounds_toArray, List.set_cons_zero, List.set_cons_succ, i64_w, i32_w]
        rfl
      refine take_ (i := 3) (N := some 31) (v := ?_) (a' := ?_) #[true, true, true, true, false, false, false, false, false] rfl rfl (by kernel_rfl) (fun _ _ _ h => h) (Or.inl ⟨by rfl, ?_⟩) hHeld ?_ ?_
      rotate_left
      · rintro w' ⟨s0, s1, s2⟩
        go_simp
        with_reducible rfl
      rotate_left
      · simp only [Act.put, List.setIfInBounds_toArray, List.set_cons_zero, List.set_cons_succ, i64_w, i32_w]
        rfl
      refine take_ (i := 4) (N := some 32) (v := ?_) (a' := ?_) #[true, true, true, true, true, false, false, false, false] rfl rfl (by kernel_rfl) (fun _ _ _ h => h) (Or.inl ⟨by rfl, ?_⟩) hHeld ?_ ?_
      rotate_left
      · rintro w' ⟨s0, s1, s2⟩
        go_simp
        with_reducible rfl
      rotate_left
      · simp only [Act.put, List.setIfInBounds_toArray, List.set_cons_zero, List.set_cons_succ, i64_w, i32_w]
        rfl
      refine pure_ (i := 5) (N := some 33) (v := ?_) (a' := ?_) #[true, true, true, true, true, true, false, false, false] rfl rfl (by kernel_rfl) (fun _ _ _ h => h) (Or.inl ⟨by rfl, ?_⟩) ?_ ?_
      rotate_left
      · intro w'
        go_simp
        with_reducible rfl
      rotate_left
      · simp only [Act.put, List.setIfInBounds_toArray, List.set_cons_zero, List.set_cons_succ, i64_w, i32_w]
        rfl
      refine take_ (i := 6) (N := some 34) (v := ?_) (a' := ?_) #[true, true, true, true, true, true, true, false, false] rfl rfl (by kernel_rfl) (fun _ _ _ h => h) (Or.inl ⟨by rfl, ?_⟩) hHeld ?_ ?_
      rotate_left
      · rintro w' ⟨s0, s1, s2⟩
        go_simp
        with_reducible rfl
      rotate_left
      · simp only [Act.put, List.setIfInBounds_toArray, List.set_cons_zero, List.set_cons_succ, i64_w, i32_w]
        rfl
      refine last_ (i := 7) (N := none) #[true, true, true, true, true, true, true, true, false] rfl rfl (by kernel_rfl) (by decide) (fun K hK => ?_)
      refine skip_ (w1 := ?_) (by rfl) rfl ?_ ?_
      rotate_left
      · go_simp
        rfl
      refine hK.out _ _ ?_
      clear hK K
      refine last_ (i := 8) (N := none) #[true, true, true, true, true, true, true, true, true] rfl rfl (by kernel_rfl) (by decide) (fun K hK => ?_)
      refine skip_ (w1 := ?_) (by rfl) rfl ?_ ?_
      rotate_left
      · go_simp
        rfl
      refine hK.out _ _ ?_
      clear hK K
      refine done_ (by kernel_rfl) ?_
      refine NoPanic.normal ?_
      gi_wp2
      refine ⟨by simp, .inl ⟨D2, _, rfl, run_takeDeferred (w := World.drew _) HD3.out, ?_⟩⟩
      refine ⟨_, results_cells (P := Try.prog) rfl _ _ rfl rfl (load_str _ _ (rdOf ByteArray.empty D.l i) ?_) (load_err _ _ 0 ?_), ?_, ?_⟩
      · exact (World.cell?_of_block (a := ⟨b + 1, 0, none⟩) (World.putObj_heap_other (by simp; omega))).trans HL4.out
      · exact (World.cell?_of_block (a := ⟨b + 1 + 1, 0, none⟩) (World.putObj_heap_other (by simp; omega))).trans HL5.out
      · rw [HRS.out]
      · exact fin_mod HMW.out.drew rfl (Below.refl _ _) (by have := HM31.out.size; omega)
    case stop =>
      rintro D2 c pre W hD1 ⟨m, hm, rfl⟩ ⟨⟨rfl, pre', x, e2, e3, e4, e5, e6⟩, hB⟩ hD2
      have HRS := Lib.hid (show readS D i = x.2.f1 by rw [readS, if_pos hc, find_stop D.row i m pre' x hm e2 e3 e4])
      gi_wp2
      refine ⟨by simp, .inl ⟨D2, _, rfl, run_takeDeferred hD2, ?_⟩⟩
      refine ⟨_, results_cells (P := Try.prog) rfl _ _ rfl rfl (load_str _ _ x.2.f1 ?_) (load_err _ _ 0 ?_), ?_, ?_⟩
      · exact (World.cell?_of_block (a := ⟨b + 1, 0, none⟩) (World.putObj_heap_other (by simp; omega))).trans ((blk_cell e5 0).trans rfl)
      · exact (World.cell?_of_block (a := ⟨b + 1 + 1, 0, none⟩) (World.putObj_heap_other (by simp; omega))).trans ((blk_cell e6 0).trans rfl)
      · rw [HRS.out]
      · exact fin_mod HM31.out HB.out hB (by have := HM31.out.size; omega)
  · have HRS := Lib.hid (show readS D i = ⟨#[]⟩ from if_neg hc)
    rw [HRS.out]
    have hcb : (canE D i == 0) = false := by simpa using hc
    have hcb2 : (canE D i != 0) = true := by simp [hc]
    clear hl h
    generalize canE D i = E at *
    have B4 := Lib.hid b4
    have B5 := Lib.hid b5
    have HM3 := Lib.hid hm3
    have HB := Lib.hid hb
    have c5a := (blk_cell (show (W0.setCell ⟨b + 1, 0, none⟩ (.string ⟨#[]⟩)).heap[b + 1 + 1]? = some (.cells #[.int .i64 0] 31 (0, 0)) from (Below.heap_setCell W0 _ _ (b + 1 + 1) (by simp)).trans b5) 0).trans rfl
    have f5a := blk_frozen (show (W0.setCell ⟨b + 1, 0, none⟩ (.string ⟨#[]⟩)).heap[b + 1 + 1]? = some (.cells #[.int .i64 0] 31 (0, 0)) from (Below.heap_setCell W0 _ _ (b + 1 + 1) (by simp)).trans b5) 0
    clear hc b3 b4 b5 hm3 c3
    go_enter Try.func11, Try.ntmps11
    go_wp2_with fail
    rw [← hW0]
    refine hcc.mono ?_
    rintro e w1 ⟨rfl, rfl⟩
    clear hcc hW0 hb
    go_wp2
    obtain ⟨l4, l5⟩ := boxes_set B4.out B5.out (.string ⟨#[]⟩) (.int .i64 E)
    refine bodyPost_ret (results_cells rfl _ _ rfl rfl (load_str _ _ _ l4) (load_err _ _ _ l5)) rfl ⟨rfl, ?_⟩
    exact (HM3.out.setCell (p := ⟨b + 1, 0, none⟩) (.inr (by rw [HB.out]; simp)) _).setCell (p := ⟨b + 1 + 1, 0, none⟩) (.inr (by rw [HB.out]; simp; omega)) _
end Go.Proofs.Ytcohfbmfmlmblaa
