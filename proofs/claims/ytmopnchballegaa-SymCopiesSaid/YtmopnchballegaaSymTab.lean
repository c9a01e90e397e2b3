/- The table of names in memory; what its functions tell. -/
import Derived.Test.YtmopnchballegaaSymMath
import Derived.Test.YtmopnchballegaaOwn
import Derived.StillTailTactics
import Derived.StringKeys
set_option linter.unusedVariables false
set_option linter.unusedSimpArgs false
namespace Go.Proofs.Ytmopnchballegaa
open Go.RowKit Go.WideMaps Go.Proofs.YtmopnchballegaaW.PrintWords Go.Proofs.Ytmopnchballegaa.PSymPlays
def keyS (s : ByteArray) : Lit := .string s.data.toList
def iD (i : Nat) : DataW Unit := .lit (.int .i64 (i : Int))
def tabF (xs : List ByteArray) : Lit → Option (DataW Unit)
  | .string l => (idx xs ⟨l.toArray⟩).map iD
  | _ => none
theorem tabF_key (xs : List ByteArray) (s : ByteArray) : tabF xs (keyS s) = (idx xs s).map iD := by
  show (idx xs ⟨s.data.toList.toArray⟩).map _ = _
  rw [Array.toArray_toList]
theorem isKey_str (l : List UInt8) : WideAt.IsKeyLit (.string l) := trivial
open Classical in
theorem tabF_snoc {xs : List ByteArray} {s : ByteArray} (h : idx xs s = none) (k : Lit) : (if k = keyS s then some (iD xs.length) else tabF xs k) = tabF (xs ++ [s]) k := by
  by_cases e : k = keyS s
  · rw [if_pos e, e, tabF_key, idx_snoc, h]; simp
  · rw [if_neg e]
    cases k <;> try rfl
    rename_i l
    show _ = (idx (xs ++ [s]) ⟨l.toArray⟩).map _
    rw [idx_snoc]
    have hne : ¬ s = ⟨l.toArray⟩ := fun h' => e (by rw [h']; rfl)
    show (idx xs ⟨l.toArray⟩).map _ = _
    cases idx xs ⟨l.toArray⟩ <;> simp [hne]
/-- A table at block g: its names xs; its blocks are fp's. -/
def Tab (w : World) (fp : Nat → Prop) (g : Nat) (xs : List ByteArray) : Prop :=
  ∃ r v D, w.heap[g]? = some (.cells #[v, .map (some r)] 49 (0, 0)) ∧ Kd.R Kd.string 9 w 0 (fun k => fp k ∧ k ≠ g ∧ k ≠ r) v xs ∧
    w.ownsMap Try.prog 9 (plainElem (H := Unit) Try.prog 3) r xs.length D ∧ Reads D (tabF xs) ∧ g ≠ r ∧ fp g ∧ fp r ∧ ∀ k, fp k → k < w.heap.size
theorem Tab.keep {w w' : World} {fp : Nat → Prop} {g : Nat} {xs : List ByteArray} (h : Tab w fp g xs) (hs : w.heap.size ≤ w'.heap.size) (hk : ∀ k, fp k → w'.heap[k]? = w.heap[k]?) : Tab w' fp g xs := by
  obtain ⟨r, v, D, h1, h2, h3, h4, h5, h6, h7, h8⟩ := h
  exact ⟨r, v, D, (hk g h6).trans h1, Kd.R_move h2 (fun k ok => hk k ok.1), map_keep h3 (hk r h7), h4, h5, h6, h7, fun k hk' => Nat.lt_of_lt_of_le (h8 k hk') hs⟩
theorem Tab.fr {F : Nat → Prop} {w w' : World} {fp : Nat → Prop} {g : Nat} {xs : List ByteArray} (h : Tab w fp g xs) (hf : Fr F w w') (hF : ∀ k, fp k → ¬ F k) : Tab w' fp g xs :=
  h.keep hf.size (fun k hk => hf.block k (by obtain ⟨r, v, D, _, _, _, _, _, _, _, h8⟩ := h; exact h8 k hk) (hF k hk))
theorem Tab.mod {w w' : World} {fp : Nat → Prop} {g : Nat} {xs : List ByteArray} (h : Tab w fp g xs) (hm : Mod [] w w') : Tab w' fp g xs := h.fr (Fr.of_mod0 (F := nobody) hm) (fun _ _ h => h)
theorem Tab.lt {w : World} {fp : Nat → Prop} {g : Nat} {xs : List ByteArray} (h : Tab w fp g xs) : ∀ k, fp k → k < w.heap.size := by
  obtain ⟨r, v, D, _, _, _, _, _, _, _, h8⟩ := h; exact h8
theorem keyed9 : Maps.Keyed Try.prog 9 := Maps.string_keyed Try.underlying9
theorem zero3 (w : World) : (zeroValue 3).run Try.prog w = .ok (.int .i64 0) w := by kernel_rfl
theorem key9 {s : ByteArray} (h : s.size ≤ maxLen) : keyOf Try.prog 9 (.string s) = some (keyS s) := keyOf_string_mk Try.underlying9 h
/-- What a look-up tells. -/
theorem Tab.look {w : World} {xs : List ByteArray} {r n : Nat} {D : DataW Unit} (h3 : w.ownsMap Try.prog 9 (plainElem (H := Unit) Try.prog 3) r n D) (h4 : Reads D (tabF xs)) {s : ByteArray} (hs : s.size ≤ maxLen) :
    (Instr.lookup 47 (.map (some r)) (.string s) true).run Try.prog w = .ok (.tuple #[.int .i64 (((idx xs s).getD 0 : Nat) : Int), .bool (idx xs s).isSome]) w := by
  obtain ⟨v, ps, hrun, hv⟩ := h3.look_ok keyed9 Try.underlying47 (zero3 w) (plainElem_int Try.underlying3 (by decide)) (key9 hs)
  rw [(h4.2 (keyS s)).1, tabF_key] at hrun
  rw [(h4.2 (keyS s)).2, tabF_key] at hv
  obtain ⟨c, rfl, hc, hw⟩ := plainElem_int_inv Try.underlying3 hv
  simp only [Prod.mk.injEq] at hc
  have : c = (((idx xs s).getD 0 : Nat) : Int) := by
    cases e : idx xs s with
    | none => rw [e] at hc; simp at hc; simpa using hc.1.symm
    | some i => rw [e] at hc; simp [iD] at hc; simpa using hc.1.symm
  rw [hrun, this]
  cases idx xs s <;> rfl
theorem new_any (w : World) : Calls Try.prog 9 #[] w fun e w' => e = .returned (.pointer (some ⟨w.heap.size + 1, 0, none⟩)) ∧ Mod [] w w' ∧ Tab w' (fun k => k = w.heap.size ∨ k = w.heap.size + 1) (w.heap.size + 1) [] := by
  have hmm := @run_makeMap Try.prog
  go_enter Try.func9, Try.ntmps9
  go_wp2
  go_ret
  refine ⟨rfl, ((Mod.refl [] w).alloc _).alloc _, w.heap.size, .slice none 0 0, .map [], ?_, Kd.R_nil _ _ _ _ _, (World.ownsMap_made w _ _ _).alloc _, Reads.empty.congr (fun k => by cases k <;> rfl), by omega, .inr rfl, .inl rfl, fun k hk => by simp; omega⟩
  have := blk_new (w.alloc (Obj.map #[] 0)) (Obj.cells #[Value.slice none 0 0, Value.map (some w.heap.size)] 49)
  simpa only [World.size_alloc] using this
theorem len_any (w : World) (fp : Nat → Prop) (g : Nat) (xs : List ByteArray) (h : Tab w fp g xs) :
    Calls Try.prog 19 #[.pointer (some ⟨g, 0, none⟩)] w fun e w' => e = .returned (.int .i64 (xs.length : Int)) ∧ w = w' := by
  obtain ⟨r, v, D, h1, h2, h3, h4, h5, h6, h7, h8⟩ := h
  obtain ⟨A, c, rfl, hc, hr⟩ := Kd.R_reads h2
  have c0 : w.cell? ⟨g, 0, none⟩ = some (.slice A xs.length c) := (blk_cell h1 0).trans rfl
  go_enter Try.func19, Try.ntmps19
  go_wp2
  go_ret
  exact ⟨rfl, rfl⟩
theorem len_nil (w : World) : Calls Try.prog 19 #[.pointer none] w fun e w' => e = .returned (.int .i64 0) ∧ w = w' := by
  go_enter Try.func19, Try.ntmps19
  go_wp2
  go_ret
  exact ⟨rfl, rfl⟩
/-- A number's name. -/
def nameS (xs : List ByteArray) (i : Int) : ByteArray := if 0 ≤ i then xs.getD i.toNat (⟨#[]⟩ : ByteArray) else ⟨#[]⟩
theorem name_any (w : World) (fp : Nat → Prop) (g : Nat) (xs : List ByteArray) (i : Int) (h : Tab w fp g xs) :
    Calls Try.prog 16 #[.pointer (some ⟨g, 0, none⟩), .int .i64 i] w fun e w' => e = .returned (.string (nameS xs i)) ∧ w = w' := by
  have hl := len_any w fp g xs h
  obtain ⟨r, v, D, h1, h2, h3, h4, h5, h6, h7, h8⟩ := h
  obtain ⟨A, c, rfl, hc, hr⟩ := Kd.R_reads h2
  have c0 : w.cell? ⟨g, 0, none⟩ = some (.slice A xs.length c) := (blk_cell h1 0).trans rfl
  by_cases hi : i < 0
  · have E := Lib.hid (show nameS xs i = ⟨#[]⟩ by unfold nameS; rw [if_neg (by omega)])
    go_enter Try.func16, Try.ntmps16
    go_wp2
    go_ret
    exact ⟨by rw [E.out]; rfl, rfl⟩
  · obtain ⟨i, rfl⟩ := Int.eq_ofNat_of_zero_le (show 0 ≤ i by omega)
    by_cases hlt : i < xs.length
    · have E := Lib.hid (show nameS xs (i : Int) = xs.getD i (⟨#[]⟩ : ByteArray) by unfold nameS; rw [if_pos (by omega)]; rfl)
      obtain ⟨ad, u, rfl, _, hK, hcell⟩ := Kd.C_get hr (⟨#[]⟩ : ByteArray) (i : Int) (by omega) (by omega)
      have hcell' := hcell 0 _ (by rw [show u = [Value.string (xs.getD i (⟨#[]⟩ : ByteArray))] from hK]; rfl)
      rw [show (i : Int).toNat * Kd.string.sz + 0 = i by show i * 1 + 0 = i; omega] at hcell'
      clear hi hcell hK
      go_enter Try.func16, Try.ntmps16
      go_wp2_with (go_at_call 19; refine hl.mono ?_; rintro e w1 ⟨rfl, rfl⟩)
      go_ret
      exact ⟨by rw [E.out]; simp [List.getD_eq_getElem?_getD, hlt], rfl⟩
    · have E := Lib.hid (show nameS xs (i : Int) = ⟨#[]⟩ by unfold nameS; rw [if_pos (by omega), List.getD_eq_getElem?_getD, List.getElem?_eq_none (by simp; omega)]; rfl)
      go_enter Try.func16, Try.ntmps16
      go_wp2_with (go_at_call 19; refine hl.mono ?_; rintro e w1 ⟨rfl, rfl⟩)
      go_ret
      exact ⟨by rw [E.out]; rfl, rfl⟩
theorem find_any (w : World) (fp : Nat → Prop) (g : Nat) (xs : List ByteArray) (s : ByteArray) (h : Tab w fp g xs) (hs : s.size ≤ maxLen) :
    Calls Try.prog 15 #[.pointer (some ⟨g, 0, none⟩), .string s] w fun e w' => e = .returned (.tuple #[.int .i64 (((idx xs s).getD 0 : Nat) : Int), .bool (idx xs s).isSome]) ∧ w = w' := by
  obtain ⟨r, v, D, h1, h2, h3, h4, h5, h6, h7, h8⟩ := h
  have c1 : w.cell? ⟨g, 1, none⟩ = some (.map (some r)) := (blk_cell h1 1).trans rfl
  have hk := Tab.look h3 h4 hs
  generalize (idx xs s).isSome = b at *
  generalize (idx xs s).getD 0 = n at *
  clear hs h4 h3 h2
  go_enter Try.func15, Try.ntmps15
  go_wp2
  go_ret2
  exact ⟨rfl, rfl⟩
theorem info9 : (Try.prog.info? 9).map (fun i => (i.zero, i.size, i.bytes)) = some (some (.string (⟨#[]⟩ : ByteArray)), 1, 16) := by kernel_rfl
def NumPost (w : World) (fp : Nat → Prop) (g : Nat) (n : Int) (er : Int) (ys : List ByteArray) (e : Ending) (w' : World) : Prop :=
  e = .returned (.tuple #[.int .i64 n, .int .i64 er]) ∧ Fr fp w w' ∧ Tab w' (grow fp w w') g ys
theorem Tab.grow {w w' : World} {fp : Nat → Prop} {g : Nat} {xs : List ByteArray} (h : Tab w fp g xs) (hm : Mod [] w w') : Tab w' (grow fp w w') g xs := by
  have hl := h.lt
  obtain ⟨r, v, D, h1, h2, h3, h4, h5, h6, h7, h8⟩ := h.mod hm
  exact ⟨r, v, D, h1, Kd.R_mono h2 (fun k hk => ⟨grow_old hk.1 (h8 k hk.1), hk.2⟩), h3, h4, h5, grow_old h6 (h8 g h6), grow_old h7 (h8 r h7), fun k hk => hk.2⟩
theorem number_bad (w : World) (fp : Nat → Prop) (g : Nat) (xs : List ByteArray) (s : ByteArray) (h : Tab w fp g xs) (hs : s.size ≤ maxLen) (hm : mayB s = false) :
    Calls Try.prog 14 #[.pointer (some ⟨g, 0, none⟩), .string s] w (NumPost w fp g 0 1 xs) := by
  have HM := may_any s w
  rw [hm] at HM
  clear hm hs
  go_enter Try.func14, Try.ntmps14
  go_wp2_with (go_at_call 11; refine HM.mono ?_; rintro e w1 ⟨rfl, hm⟩)
  go_ret2
  exact ⟨rfl, Fr.of_mod0 hm, h.grow hm⟩
theorem number_old (w : World) (fp : Nat → Prop) (g : Nat) (xs : List ByteArray) (s : ByteArray) (h : Tab w fp g xs) (hs : s.size ≤ maxLen) (hm : mayB s = true) (i : Nat) (hi : idx xs s = some i) :
    Calls Try.prog 14 #[.pointer (some ⟨g, 0, none⟩), .string s] w (NumPost w fp g i 0 xs) := by
  have HM := may_any s w
  rw [hm] at HM
  have HS := Lib.hid hs
  have HI := Lib.hid hi
  clear hm hs hi
  go_enter Try.func14, Try.ntmps14
  go_wp2_with fail
  refine HM.mono ?_
  rintro e w1 ⟨rfl, hm⟩
  have h9 := h.mod hm
  obtain ⟨r, v, D, h1, h2, h3, h4, h5, h6, h7, h8⟩ := h9
  have c1 : w1.cell? ⟨g, 1, none⟩ = some (.map (some r)) := (blk_cell h1 1).trans rfl
  have hk := Tab.look h3 h4 HS.out
  rw [HI.out] at hk
  simp only [Option.getD_some, Option.isSome_some] at hk
  clear h1 h2 h3 h4 h5 h6 h7 h8
  go_wp2
  go_ret2
  exact ⟨rfl, Fr.of_mod0 hm, h.grow hm⟩
set_option maxRecDepth 100000 in
set_option maxHeartbeats 1000000 in
theorem number_new (w : World) (fp : Nat → Prop) (g : Nat) (xs : List ByteArray) (s : ByteArray) (h : Tab w fp g xs) (hs : s.size ≤ maxLen) (hm : mayB s = true) (hi : idx xs s = none) (hl : xs.length ≤ 16000) :
    Calls Try.prog 14 #[.pointer (some ⟨g, 0, none⟩), .string s] w (NumPost w fp g xs.length 0 (xs ++ [s])) := by
  have HM := may_any s w
  rw [hm] at HM
  have HS := Lib.hid hs
  have HI := Lib.hid hi
  clear hm hs hi
  have t1 : ((xs.length : Int) == 16384) = false := by simp; omega
  have t2 : (xs.length == 16384) = false := by simp; omega
  have hlt := h.lt
  go_enter Try.func14, Try.ntmps14
  go_wp2_with fail
  refine HM.mono ?_
  rintro e w1 ⟨rfl, hm⟩
  have h9 := h.mod hm
  have hsz := hm.size
  obtain ⟨r, v, D, h1, h2, h3, h4, h5, h6, h7, h8⟩ := h9
  have c1 : w1.cell? ⟨g, 1, none⟩ = some (.map (some r)) := (blk_cell h1 1).trans rfl
  obtain ⟨A, c, rfl, hc, hr⟩ := Kd.R_reads h2
  have c0 : w1.cell? ⟨g, 0, none⟩ = some (.slice A xs.length c) := (blk_cell h1 0).trans rfl
  have hk := Tab.look h3 h4 HS.out
  rw [HI.out] at hk
  simp only [Option.getD_none, Option.isSome_none] at hk
  have H1 := Lib.hid h1
  have H2 := Lib.hid h2
  have H3 := Lib.hid h3
  have H4 := Lib.hid h4
  have f0 := blk_frozen h1 0
  clear h1 h2 h3 h4
  obtain ⟨okT, hok⟩ : ∃ okT : Nat → Prop, okT = fun k => (fp k ∨ w1.heap.size ≤ k) ∧ k ≠ g ∧ k ≠ r := ⟨_, rfl⟩
  have HO := Lib.hid (show Kd.R Kd.string 9 w1 0 okT (.slice A xs.length c) xs by subst hok; exact Kd.R_mono H2.out (fun k hk => ⟨.inl hk.1, hk.2⟩))
  have hfresh : ∀ k, w1.heap.size ≤ k → okT k := fun k hk => by subst hok; exact ⟨.inr hk, by have := h8 g h6; omega, by have := h8 r h7; omega⟩
  have OK := Lib.hid hok
  have hgl := h8 g h6
  have hrl := h8 r h7
  have hl16 : (xs.length + 1) * 16 ≤ 140737488355328 := by omega
  have hne : ∀ k, (Value.slice A xs.length c).ownBlock = some k → okT k := fun k hk => HO.out.1 k hk
  clear hok
  go_upto_region 8 with fail
  go_upto_region 9 with (at_builtin; refine Kd.R_append Kd.string (w0 := w1) 0 rfl (.tmp 36) (.tmp 38) 27 9 (.string (⟨#[]⟩ : ByteArray)) 16 rfl Try.underlying27 info9 rfl (by decide) (by decide) (.slice A xs.length c) xs s [.string s] okT (fun _ => False) rfl rfl rfl (fun _ hk => hk.elim) hfresh HO.out ((Below.refl 0 w1)) (Nat.zero_le _) hl16 ?_; intro v1 w2 hown1 hb1 hgr hat; obtain ⟨A1, k1, rfl⟩ : ∃ A1 k1, v1 = .slice A1 (xs.length + 1) k1 := (by obtain ⟨A1, k1, e1, _⟩ := Kd.R_reads hown1; exact ⟨A1, k1, by rw [e1]; simp⟩); have hgo : w2.heap[g]? = w1.heap[g]? := hgr.block g hgl (fun e => by have := hne g e.symm; rw [OK.out] at this; exact this.2.1 rfl); have hro : w2.heap[r]? = w1.heap[r]? := hgr.block r hrl (fun e => by have := hne r e.symm; rw [OK.out] at this; exact this.2.2 rfl); have hg2 := hgo.trans H1.out; have d1 := (blk_cell hg2 1).trans rfl; have d0 := (blk_cell hg2 0).trans rfl; have df := blk_frozen hg2 0; have HO1 := Lib.hid hown1; have HR1 := Lib.hid (map_keep H3.out hro); have HG := Lib.hid hgr; have HA := Lib.hid hat; have HG2 := Lib.hid hg2; clear hgo hro hown1 hb1 hgr hat hg2)
  have hg3 : (w2.setCell ⟨g, 0, none⟩ (.slice A1 (xs.length + 1) k1)).heap[g]? = some (.cells #[.slice A1 (xs.length + 1) k1, .map (some r)] 49 (0, 0)) := blk_put HG2.out 0 _ rfl
  have hm3 := (Mod.refl [g] w2).setCell (p := ⟨g, 0, none⟩) (by simp) (.slice A1 (xs.length + 1) k1)
  have HR3 := Lib.hid (map_keep HR1.out (hm3.block r HR1.out.lt (by simp; exact fun e => h5 e.symm)))
  have HO3 := Lib.hid (Kd.R_move HO1.out (w1 := w2.setCell ⟨g, 0, none⟩ (.slice A1 (xs.length + 1) k1)) (fun k hk => Below.heap_setCell w2 _ _ k (fun e => by have hk' := hk; rw [OK.out] at hk'; exact hk'.2.1 (by simpa using e))))
  have HM3 := Lib.hid hm3
  have e1 := (blk_cell hg3 1).trans rfl
  have e0 := (blk_cell hg3 0).trans rfl
  have HG3 := Lib.hid hg3
  clear d1 d0 df hg3 hm3 c0 c1 f0
  generalize w2.setCell ⟨g, 0, none⟩ (.slice A1 (xs.length + 1) k1) = w3 at *
  have q1 : IntKind.i64.wrap (xs.length : Int) = (xs.length : Int) := IntWalk.i64_in _ (by omega)
  go_still_tail 11, (by kernel_rfl)
  change wpList _ _ _ _ _ w3.drew
  have HR4 := Lib.hid (HR3.out.drew)
  have HM4 := Lib.hid (HM3.out.drew)
  have HO4 := Lib.hid (Kd.R_move HO3.out (w1 := w3.drew) (fun k _ => rfl))
  have e2 : w3.drew.heap[g]? = some (.cells #[.slice A1 (xs.length + 1) k1, .map (some r)] 49 (0, 0)) := HG3.out
  have E2 := Lib.hid e2
  have hz3 := HM3.out.size
  have hz2 := HG.out.size
  have hwf : plainElem (H := Unit) Try.prog 3 (.int .i64 (xs.length : Int)) = some (iD xs.length, []) := plainElem_int Try.underlying3 (WalkArith.wf_i64 (by omega))
  have WF := Lib.hid hwf
  have hgr : g ≠ r := h5
  have hlm : xs.length < maxLen := by unfold maxLen; omega
  have hz4 : w3.heap.size = w3.drew.heap.size := rfl
  clear e2 hwf q1
  generalize w3.drew = w4 at *
  go_wp2_with (at_mapUpdate; go_loud (refine wpList_mapUpdate_own _ rfl (.tmp 45) (.tmp 46) (.tmp 52) 47 rfl 9 3 keyed9 Try.underlying47 _ r xs.length D rfl HR4.out hlm (.string s) (.int .i64 (xs.length : Int)) (keyS s) rfl rfl (key9 HS.out) (iD xs.length) [] WF.out ?_); intro w5 hown5 hg5; have hg6 := (hg5.block g (blk_lt E2.out) (fun e => hgr (Option.some.inj e))).trans E2.out; have i0 := (blk_cell hg6 0).trans rfl; have HG6 := Lib.hid hg6; have HO5 := Lib.hid hown5; have HG5 := Lib.hid hg5; clear hg6 hown5 hg5)
  go_ret2
  have F01 : Fr fp w w1 := Fr.of_mod0 hm
  have F12 : Fr okT w1 w2 := ((Fr.of_grown HG.out).weak (fun k hk => .inl (hne k hk.symm)))
  have F24 : Fr fp w2 w4 := (Fr.of_mod HM4.out).weak (fun k hk => Or.inl (by rw [show k = g from List.mem_singleton.1 hk]; exact h6))
  have F45 : Fr fp w4 w5 := (Fr.of_grown HG5.out).weak (fun k hk => Or.inl (by rw [Option.some.inj hk]; exact h7))
  have hz5 := HG5.out.size
  have hz24 := HM4.out.size
  have F02 : Fr fp w w2 := F01.trans F12 (fun k hk => by
    rw [OK.out] at hk
    rcases hk.1 with h | h
    · exact .inl h
    · exact .inr (by omega))
  refine ⟨rfl, (F02.trans_ F24).trans_ F45, r, .slice A1 (xs.length + 1) k1, D.put (keyS s) (iD xs.length), HG6.out, ?_, by simpa using HO5.out, ?_, h5, grow_old h6 (by omega), grow_old h7 (by omega), fun k hk => hk.2⟩
  · refine Kd.R_mono (Kd.R_bound (Kd.R_step HO4.out (w1 := w5) (fun k hk hkl => ?_))) (fun k hk => ?_)
    · have hk' := hk
      rw [OK.out] at hk'
      exact HG5.out.block k hkl (fun e => hk'.2.2 (Option.some.inj e))
    · have hk' := hk.1
      rw [OK.out] at hk'
      exact ⟨⟨hk'.1.elim .inl (fun h => .inr (by omega)), hk.2.2.1⟩, hk'.2⟩
  · exact (H4.out.put (isKey_str _) _).congr (fun k => tabF_snoc HI.out k)
end Go.Proofs.Ytmopnchballegaa
