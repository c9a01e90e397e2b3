/- Turn: other numbers for what a record refers to. -/
import Derived.Test.YtopfaafgfgjfaaaObClone
import Derived.Test.YtopfaafgfgjfaaaWLast
set_option linter.unusedVariables false
set_option linter.unusedSimpArgs false
namespace Go.Proofs.Ytopfaafgfgjfaaa
open Go.RowKit Go.Proofs.YtopfaafgfgjfaaaW.PrintWords Go.Proofs.Ytopfaafgfgjfaaa.PObjLinks Go.Proofs.YtopfaafgfgjfaaaW.PrintLast
theorem turn12 (n by' : Int) (b5 : Nat) (w : World) (h : w.cell? ⟨b5, 0, none⟩ = some (.int .i64 by')) : Calls Try.prog 12 #[.int .i64 n, .pointer (some ⟨b5, 0, none⟩)] w fun e w' => e = .returned (.int .i64 (Go.bits .xor .i64 n by')) ∧ w = w' := by
  go_enter Try.func12, Try.ntmps12
  go_wp2
  go_ret
  exact ⟨rfl, rfl⟩
def turnP (by' : Int) (p : S54) : S54 := if p.f0 = 8 then ⟨p.f0, Go.bits .xor .i64 p.f1 by', p.f2⟩ else p
/-- Behind i rounds. -/
def mixL (by' : Int) (l : List S54) (i : Nat) : List S54 := (l.take i).map (turnP by') ++ l.drop i
theorem mix_len (by' : Int) (l : List S54) (i : Nat) : (mixL by' l i).length = l.length := by unfold mixL; simp; omega
theorem mix_0 (by' : Int) (l : List S54) : mixL by' l 0 = l := by simp [mixL]
theorem mix_all (by' : Int) (l : List S54) : mixL by' l l.length = l.map (turnP by') := by simp [mixL]
theorem mix_at (by' : Int) (l : List S54) (i : Nat) (h : i < l.length) : rd_T54 (mixL by' l i) (i : Int) = l[i] := by
  unfold rd_T54 mixL
  rw [Int.toNat_natCast, List.getD_eq_getElem?_getD, List.getElem?_append_right (by simp; omega)]
  simp [Nat.min_eq_left (Nat.le_of_lt h), h]
theorem mix_set (by' : Int) (l : List S54) (i : Nat) (h : i < l.length) : (mixL by' l i).set i (turnP by' l[i]) = mixL by' l (i + 1) := by
  unfold mixL
  rw [List.set_append_right _ _ (by simp; omega), List.take_add_one, List.getElem?_eq_getElem h, List.map_append, List.append_assoc]
  congr 1
  simp only [List.length_map, List.length_take, Nat.min_eq_left (Nat.le_of_lt h), Nat.sub_self]
  rw [List.drop_eq_getElem_cons h]
  rfl
theorem mix_same (by' : Int) (l : List S54) (i : Nat) (h : i < l.length) (h8 : l[i].f0 ≠ 8) : mixL by' l (i + 1) = mixL by' l i := by
  rw [← mix_set by' l i h]
  have e : turnP by' l[i] = l[i] := if_neg h8
  rw [e]
  apply List.ext_getElem?
  intro j
  by_cases hj : j = i
  · subst hj
    rw [List.getElem?_set_self (by rw [mix_len]; exact h)]
    have := mix_at by' l j h
    unfold rd_T54 at this
    rw [Int.toNat_natCast, List.getD_eq_getElem?_getD] at this
    rw [List.getElem?_eq_getElem (by rw [mix_len]; exact h)] at this ⊢
    simpa using this.symm
  · rw [List.getElem?_set_ne (by omega)]
section
variable {P : Program} {ops : Array Oper} {Q : Exit → Act → World → Prop}
/-- A call of a closure in a region that draws. -/
theorem goesC_ {oi : Oper} {N : Option Tmp} {a : Act} {w : World} {K : Act → World → Prop} {f : FuncId} {fn : Func} {asx : Array Operand} {ts : Array TypeId} {t : Tmp} {c : Array Value} (hf : P.funcs[f]? = some fn) (hname : (fn.name == "runtime.NumGoroutine") = false) (hb : fn.body.isSome = true) (args all : Array Value) (hall : args ++ c = all)
    (hw : Region.wanted oi (yielded ops a.tmps) = true) (hN : oi.dst = N) (hop : oi.op = .call { callee := .value (.tmp t), args := asx, argTypes := ts }) (ht : a.eval (.tmp t) = .func (.func f) #[] c) (hargs : asx.map a.eval = args)
    (h : Calls P f all w fun e w' => ∃ v, e = .returned v ∧ K (a.put N v) w') : if Region.wanted oi (yielded ops a.tmps) = true then Oper.wp P oi a w K Q else K (a.put N undef) w := by
  subst hall
  refine call_ f (args ++ c) hw hN ?_ h
  have he := enters_ hf hname hb (args ++ c) w
  unfold execOp
  simp [hop, resolve, Deferred.ofValue, invoke, ht, hargs, he]
end
theorem own_addr (g j : Nat) : (⟨g, 0, none⟩ : Addr).add j = ⟨g, j, none⟩ := by
  unfold Addr.add
  split
  · subst_vars; rfl
  · simp
structure TurnI (w wr : World) (bb : Nat) (a : Int) (s : ByteArray) (A1 : Option Addr) (n c1 : Nat) (L : List S54) : Prop where
  md : Mod [] w wr
  lt : bb + 2 ≤ wr.heap.size
  b2 : wr.heap[bb]? = some (.cells #[.int .i64 a, .slice A1 n c1, .string s] 32 (0, 0))
  b4 : wr.heap[bb + 1]? = some (.cells #[.int .i64 0, .slice none 0 0, .string ⟨#[]⟩] 32 (0, 0))
  row : Kd.R k54 54 wr 0 (fun k => bb + 2 ≤ k ∧ k < wr.heap.size) (.slice A1 n c1) L
theorem TurnI.mod {w wr wx : World} {bb : Nat} {a : Int} {s : ByteArray} {A1 : Option Addr} {n c1 : Nat} {L : List S54} (h : TurnI w wr bb a s A1 n c1 L) (hm : Mod [] wr wx) : TurnI w wx bb a s A1 n c1 L :=
  ⟨h.md.trans0 hm, Nat.le_trans h.lt hm.size, hm.blk h.b2 (by simp), hm.blk h.b4 (by simp), Kd.R_mono (Kd.R_step h.row (fun k _ hk => hm.block k hk (by simp))) (fun k hk => ⟨hk.1, Nat.lt_of_lt_of_le hk.2 hm.size⟩)⟩
theorem set_cells (W : World) (g k : Nat) (v : Value) : W.setCells g k [v] = W.setCell ⟨g, k, none⟩ v := rfl
/-- The number of one part is turned. -/
theorem turn_put {w wr : World} {bb g : Nat} {a : Int} {s : ByteArray} {c1 : Nat} {l : List S54} {by' : Int} {i : Nat} (h : TurnI w wr bb a s (some ⟨g, 0, none⟩) l.length c1 (mixL by' l i)) (hi : i < l.length) (h8 : l[i].f0 = 8) (hw : w.heap.size = bb) :
    wr.cell? ⟨g, i * 3 + 1, none⟩ = some (.int .i64 l[i].f1) ∧ wr.frozen? ⟨g, i * 3 + 1, none⟩ = false ∧ TurnI w (wr.setCell ⟨g, i * 3 + 1, none⟩ (.int .i64 (Go.bits .xor .i64 l[i].f1 by'))) bb a s (some ⟨g, 0, none⟩) l.length c1 (mixL by' l (i + 1)) := by
  obtain ⟨c, hcl, hM, hcc, hfr⟩ := Kd.R_elem h.row z54 (i : Int) (by omega) (by omega)
  have hgg := h.row.1 g (by simp [Value.ownBlock])
  have hx : (mixL by' l i).getD i z54 = l[i] := by
    have := mix_at by' l i hi
    unfold rd_T54 at this
    rwa [Int.toNat_natCast] at this
  rw [Int.toNat_natCast] at hcc hfr hM
  rw [hx] at hM
  obtain rfl := k54_openM hM
  have hsz : k54.sz = 3 := rfl
  refine ⟨hcc 1 _ rfl, hfr 1, ?_⟩
  have hs := Kd.R_seg h.row (i : Int) (by omega) (by omega) (seg := [.int .i64 (Go.bits .xor .i64 l[i].f1 by')]) (j := 1) (okp := fun k => (bb + 2 ≤ k ∧ k < wr.heap.size) ∧ k ≠ g) hcl (by rw [Int.toNat_natCast]; exact hcc) (by rw [hsz]; simp) (x' := turnP by' l[i]) (by
    have e : turnP by' l[i] = ⟨l[i].f0, Go.bits .xor .i64 l[i].f1 by', l[i].f2⟩ := if_pos h8
    rw [e]
    exact k54_mkM _ _ _ _) (fun k hk => hk)
  rw [Int.toNat_natCast, hsz, set_cells, mix_set by' l i hi] at hs
  refine ⟨h.md.setCell (.inr (by rw [hw]; show bb ≤ g; omega)) _, by simpa using h.lt, (Below.heap_setCell wr _ _ bb (by show bb ≠ g; omega)).trans h.b2, (Below.heap_setCell wr _ _ (bb + 1) (by show bb + 1 ≠ g; omega)).trans h.b4, ?_⟩
  exact Kd.R_mono hs.1 (fun k hk => ⟨hk.1, by simpa using hk.2⟩)
theorem turn_end {w wr : World} {bb : Nat} {a : Int} {s : ByteArray} {A1 : Option Addr} {n c1 : Nat} {L : List S54} (h : TurnI w wr bb a s A1 n c1 L) (hw : w.heap.size = bb) :
    n ≤ c1 ∧ Kd.C k54 (((wr.setCell ⟨bb + 1, 0, none⟩ (.int .i64 a)).setCell ⟨bb + 1, 1, none⟩ (.slice A1 n c1)).setCell ⟨bb + 1, 2, none⟩ (.string s)) A1 n L ∧ Mod [] w (((wr.setCell ⟨bb + 1, 0, none⟩ (.int .i64 a)).setCell ⟨bb + 1, 1, none⟩ (.slice A1 n c1)).setCell ⟨bb + 1, 2, none⟩ (.string s)) := by
  have hr := Kd.R_reads' h.row
  obtain ⟨hn, hc, hC⟩ := hr
  subst hn
  have hR2 : Kd.R k54 54 (((wr.setCell ⟨bb + 1, 0, none⟩ (.int .i64 a)).setCell ⟨bb + 1, 1, none⟩ (.slice A1 L.length c1)).setCell ⟨bb + 1, 2, none⟩ (.string s)) 0 (fun k => bb + 2 ≤ k ∧ k < wr.heap.size) (.slice A1 L.length c1) L :=
    Kd.R_move h.row (fun k hk => by
      have hne : k ≠ bb + 1 := by omega
      rw [Below.heap_setCell _ _ _ k hne, Below.heap_setCell _ _ _ k hne, Below.heap_setCell _ _ _ k hne])
  obtain ⟨_, _, hC2⟩ := Kd.R_reads' hR2
  refine ⟨hc, hC2, ((h.md.setCell (.inr ?_) _).setCell (.inr ?_) _).setCell (.inr ?_) _⟩ <;> (rw [hw]; exact Nat.le_succ bb)
set_option maxRecDepth 100000 in
set_option maxHeartbeats 2000000 in
theorem turn_any (a : Int) (A : Option Addr) (c : Nat) (l : List S54) (s : ByteArray) (by' : Int) (b5 : Nat) (w : World) (hr : Kd.C k54 w A l.length l) (hc : l.length ≤ c) (hl : l.length ≤ 10000) (hb : w.cell? ⟨b5, 0, none⟩ = some (.int .i64 by')) :
    Calls Try.prog 11 #[.agg #[.int .i64 a, .slice A l.length c, .string s], .func (.func 12) #[] #[.pointer (some ⟨b5, 0, none⟩)]] w fun e w' => ∃ A1 c1, e = .returned (.agg #[.int .i64 a, .slice A1 l.length c1, .string s]) ∧ l.length ≤ c1 ∧ Kd.C k54 w' A1 l.length (l.map (turnP by')) ∧ Mod [] w w' := by
  have hm0 := ((Mod.refl [] w).alloc (.cells #[.int .i64 a, .slice A l.length c, .string s] 32)).alloc (.cells #[.int .i64 0, .slice none 0 0, .string ⟨#[]⟩] 32)
  have k2 := blk_old (blk_new w (.cells #[.int .i64 a, .slice A l.length c, .string s] 32)) (.cells #[.int .i64 0, .slice none 0 0, .string ⟨#[]⟩] 32)
  have k4 := blk_new (w.alloc (.cells #[.int .i64 a, .slice A l.length c, .string s] 32)) (.cells #[.int .i64 0, .slice none 0 0, .string ⟨#[]⟩] 32)
  rw [World.size_alloc] at k4
  have hz : ((w.alloc (.cells #[.int .i64 a, .slice A l.length c, .string s] 32)).alloc (.cells #[.int .i64 0, .slice none 0 0, .string ⟨#[]⟩] 32)).heap.size = w.heap.size + 2 := by simp
  have HM0 := Lib.hid hm0
  have HK2 := Lib.hid k2
  have HK4 := Lib.hid k4
  have HZ := Lib.hid hz
  have HBB := Lib.hid (Nat.le_refl w.heap.size)
  clear hm0 k2 k4 hz
  go_enter Try.func11, Try.ntmps11
  have y1 := (blk_cell HK2.out 1).trans rfl
  have g1 := blk_frozen HK2.out 1
  go_wp2_with fail
  have hcl := clone21 ((w.alloc (.cells #[.int .i64 a, .slice A l.length c, .string s] 32)).alloc (.cells #[.int .i64 0, .slice none 0 0, .string ⟨#[]⟩] 32)) A c l (Kd.C_below hr HM0.out.below0) hc hl
  refine hcl.mono ?_
  rintro e w1 ⟨v, rfl, hm1, hR⟩
  clear hcl y1 g1
  rw [HZ.out] at hR
  obtain ⟨A1, c1, rfl⟩ := Kd.R_slice hR
  have hc1 := (Kd.R_reads' hR).2.1
  have HMX := Lib.hid (HM0.out.trans0 hm1)
  have HZ1 := Lib.hid hm1.size
  have HB2 := Lib.hid (hm1.blk HK2.out (by simp))
  have HB4 := Lib.hid (hm1.blk HK4.out (by simp))
  have HR := Lib.hid hR
  clear hm1 hR
  generalize ((w.alloc _).alloc _).heap.size = z1 at *
  clear HM0 HK2 HK4
  have y1 := (blk_cell HB2.out 1).trans rfl
  have g1 := blk_frozen HB2.out 1
  generalize hws : w.heap.size = bb at *
  have HWS := Lib.hid hws
  clear hws
  have HI := Lib.hid (show TurnI w (w1.setCell ⟨bb, 1, none⟩ (.slice A1 l.length c1)) bb a s A1 l.length c1 (mixL by' l 0) from
    ⟨HMX.out.setCell (.inr (Nat.le_of_eq HWS.out)) _, by have := HZ1.out; have := HZ.out; simp; omega, blk_put HB2.out 1 _ rfl, (Below.heap_setCell w1 ⟨bb, 1, none⟩ _ (bb + 1) (by simp)).trans HB4.out, by
      rw [mix_0]
      exact Kd.R_mono (Kd.R_step HR.out (fun k hk _ => Below.heap_setCell w1 ⟨bb, 1, none⟩ _ k (by show k ≠ bb; omega))) (fun k hk => ⟨hk.1, by simpa using hk.2⟩)⟩)
  clear HB2 HB4 HR
  have y1s := (blk_cell HI.out.b2 1).trans rfl
  go_wp2_with fail
  clear y1 g1 y1s
  generalize w1.setCell ⟨bb, 1, none⟩ (.slice A1 l.length c1) = w2 at *
  go_loopw [14] (fun iv wr => ∃ i : Nat, iv = .int .i64 (i : Int) ∧ i ≤ l.length ∧ TurnI w wr bb a s A1 l.length c1 (mixL by' l i)) (fun iv _ => l.length - (intOf iv).toNat)
  case atStart => exact ⟨0, rfl, Nat.zero_le _, HI.out⟩
  clear HI
  case round =>
    obtain ⟨i, rfl, hi, hI⟩ := hrel
    have HI := Lib.hid hI
    clear hI
    by_cases hlt : i < l.length
    · have hi0 : (0 : Int) ≤ (i : Int) := by omega
      have hlt2 : (i : Int) < (l.length : Int) := by omega
      obtain ⟨g, cap, hv, _, hg2, cells, hcells⟩ := Kd.R_form HI.out.row (by rw [mix_len]; omega)
      rw [mix_len] at hv
      injection hv with hv1 hv2 hv3
      subst hv1
      subst hv3
      clear hv2
      have hgg := HI.out.row.1 g (by simp [Value.ownBlock])
      have HG := Lib.hid hgg
      have hC := (Kd.R_reads' HI.out.row).2.2
      rw [mix_len] at hC
      obtain ⟨ad, had, e0, e1, e2⟩ := at_T54 hC (i : Int) hi0 hlt2
      injection had with had
      subst had
      rw [mix_at by' l i hlt, Int.toNat_natCast, own_addr] at e0 e1 e2
      have HN8 := Lib.hid (fun h8 : l[i].f0 ≠ 8 => mix_same by' l i hlt h8)
      have HSET := Lib.hid (mix_set by' l i hlt)
      obtain ⟨x, hxx⟩ : ∃ x, l[i] = x := ⟨_, rfl⟩
      have HXE := Lib.hid hxx
      rw [hxx] at e0 e1 e2
      clear hxx
      have HB6 := Lib.hid (blk_new wr (.cells #[.int .i64 x.f0, .int .i64 x.f1, .string x.f2] 54))
      have HIB := Lib.hid (HI.out.mod ((Mod.refl [] wr).alloc (.cells #[.int .i64 x.f0, .int .i64 x.f1, .string x.f2] 54)))
      have HLT6 := Lib.hid HI.out.lt
      have z0 := (blk_cell HB6.out 0).trans rfl
      clear hC hcells cells hgg hg2
      by_cases h8 : x.f0 = 8
      · have n8 : (x.f0 == 8) = true := by simp [h8]
        have H8 := Lib.hid h8
        clear h8
        go_upto_region 6 with fail
        have HDR := Lib.hid ((HIB.out).mod (Mod.refl [] _).drew)
        generalize wr.alloc (.cells #[.int .i64 x.f0, .int .i64 x.f1, .string x.f2] 54) = wy at *
        generalize wr.heap.size = b6 at *
        have s0x := (blk_cell HIB.out.b2 1).trans rfl
        have s1x := (blk_cell HB6.out 1).trans rfl
        have HBY := Lib.hid (show wy.drew.cell? ⟨b5, 0, none⟩ = some (.int .i64 by') from HDR.out.md.cell hb (by simp))
        obtain ⟨eg, fg, hnx⟩ := turn_put HDR.out hlt (by rw [HXE.out]; exact H8.out) HWS.out
        rw [HXE.out] at eg hnx
        have HNX := Lib.hid hnx
        clear e0 e1 e2 z0 hnx
        refine start_ (n := 10) (S := fun w' => w'.cell? ⟨bb, 1, none⟩ = some (.slice (some ⟨g, 0, none⟩) l.length c1) ∧ w'.cell? ⟨b6, 1, none⟩ = some (.int .i64 x.f1)) (ds := [9]) #[false, false, false, false, false, false, false, false, false, false] (by kernel_rfl) rfl rfl ⟨s0x, s1x⟩ (fun hHeld => ?_)
        refine pure_ (i := 0) (N := some 22) (v := ?_) (a' := ?_) #[true, false, false, false, false, false, false, false, false, false] rfl rfl (by kernel_rfl) (fun _ _ _ h => h) (Or.inl ⟨by rfl, ?_⟩) ?_ ?_
        rotate_left
        · intro w'
          go_simp
          with_reducible rfl
        rotate_left
        · simp only [Act.put, List.setIfInBounds_toArray, List.set_cons_zero, List.set_cons_succ, i64_w, i32_w]
          rfl
        refine pure_ (i := 2) (N := some 24) (v := ?_) (a' := ?_) #[true, false, true, false, false, false, false, false, false, false] rfl rfl (by kernel_rfl) (fun _ _ _ h => h) (Or.inl ⟨by rfl, ?_⟩) ?_ ?_
        rotate_left
        · intro w'
          go_simp
          with_reducible rfl
        rotate_left
        · simp only [Act.put, List.setIfInBounds_toArray, List.set_cons_zero, List.set_cons_succ, i64_w, i32_w]
          rfl
        refine pure_ (i := 3) (N := some 25) (v := ?_) (a' := ?_) #[true, false, true, true, false, false, false, false, false, false] rfl rfl (by kernel_rfl) (fun _ _ _ h => h) (Or.inl ⟨by rfl, ?_⟩) ?_ ?_
        rotate_left
        · intro w'
          go_simp
          with_reducible rfl
        rotate_left
        · simp only [Act.put, List.setIfInBounds_toArray, List.set_cons_zero, List.set_cons_succ, i64_w, i32_w]
          rfl
        refine pure_ (i := 4) (N := some 26) (v := ?_) (a' := ?_) #[true, false, true, true, true, false, false, false, false, false] rfl rfl (by kernel_rfl) (fun _ _ _ h => h) (Or.inl ⟨by rfl, ?_⟩) ?_ ?_
        rotate_left
        · intro w'
          go_simp
          with_reducible rfl
        rotate_left
        · simp only [Act.put, List.setIfInBounds_toArray, List.set_cons_zero, List.set_cons_succ, i64_w, i32_w]
          rfl
        refine take_ (i := 1) (N := some 23) (v := ?_) (a' := ?_) #[true, true, true, true, true, false, false, false, false, false] rfl rfl (by kernel_rfl) (fun _ _ _ h => h) (Or.inl ⟨by rfl, ?_⟩) hHeld ?_ ?_
        rotate_left
        · rintro w' ⟨s0, s1⟩
          go_simp
          with_reducible rfl
        rotate_left
        · simp only [Act.put, List.setIfInBounds_toArray, List.set_cons_zero, List.set_cons_succ, i64_w, i32_w]
          rfl
        refine take_ (i := 5) (N := some 27) (v := ?_) (a' := ?_) #[true, true, true, true, true, true, false, false, false, false] rfl rfl (by kernel_rfl) (fun _ _ _ h => h) (Or.inl ⟨by rfl, ?_⟩) hHeld ?_ ?_
        rotate_left
        · rintro w' ⟨s0, s1⟩
          go_simp
          with_reducible rfl
        rotate_left
        · simp only [Act.put, List.setIfInBounds_toArray, List.set_cons_zero, List.set_cons_succ, i64_w, i32_w]
          rfl
        refine one_ (i := 6) (N := some 28) #[true, true, true, true, true, true, true, false, false, false] rfl rfl (by kernel_rfl) (by decide) (fun K hK => ?_)
        refine goesC_ Try.func12 (by kernel_rfl) rfl #[.int .i64 x.f1] #[.int .i64 x.f1, .pointer (some ⟨b5, 0, none⟩)] rfl (by rfl) rfl rfl rfl (by simp only [List.map_toArray, List.map_cons, List.map_nil]; rfl) ?_
        with_reducible refine (turn12 x.f1 by' b5 wy.drew HBY.out).mono ?_
        rintro e w3 ⟨rfl, rfl⟩
        refine ⟨_, rfl, ?_⟩
        refine hK.out _ _ ⟨hHeld.1, hHeld.2⟩ (fun hHeld => ?_)
        clear hK K
        refine norm_ (a' := ?_) ?_ ?_
        rotate_left
        · show Act.put _ (some 28) _ = _
          simp only [Act.put, List.setIfInBounds_toArray, List.set_cons_zero, List.set_cons_succ, i64_w, i32_w]
          rfl
        refine pure_ (i := 7) (N := some 29) (v := ?_) (a' := ?_) #[true, true, true, true, true, true, true, true, false, false] rfl rfl (by kernel_rfl) (fun _ _ _ h => h) (Or.inl ⟨by rfl, ?_⟩) ?_ ?_
        rotate_left
        · intro w'
          go_simp
          with_reducible rfl
        rotate_left
        · simp only [Act.put, List.setIfInBounds_toArray, List.set_cons_zero, List.set_cons_succ, i64_w, i32_w]
          rfl
        refine pure_ (i := 8) (N := some 30) (v := ?_) (a' := ?_) #[true, true, true, true, true, true, true, true, true, false] rfl rfl (by kernel_rfl) (fun _ _ _ h => h) (Or.inl ⟨by rfl, ?_⟩) ?_ ?_
        rotate_left
        · intro w'
          go_simp
          with_reducible rfl
        rotate_left
        · simp only [Act.put, List.setIfInBounds_toArray, List.set_cons_zero, List.set_cons_succ, i64_w, i32_w]
          rfl
        refine last_ (i := 9) (N := none) #[true, true, true, true, true, true, true, true, true, true] rfl rfl (by kernel_rfl) (by decide) (fun K hK => ?_)
        refine skip_ (w1 := ?_) (by rfl) rfl ?_ ?_
        rotate_left
        · go_simp
          rfl
        refine hK.out _ _ ?_
        clear hK K
        refine done_ (by kernel_rfl) ?_
        go_wp2
        refine ⟨⟨i + 1, by go_num, by omega, HNX.out⟩, ?_⟩
        simp [intOf]; omega
      · have n8 : (x.f0 == 8) = false := by simpa using h8
        have H8 := Lib.hid h8
        clear h8
        go_wp2
        refine ⟨⟨i + 1, by go_num, by omega, ?_⟩, ?_⟩
        · rw [HN8.out (by rw [HXE.out]; exact H8.out)]; exact HIB.out
        · simp [intOf]; omega
    · obtain rfl : i = l.length := by omega
      have hlt2 : ¬ (l.length : Int) < (l.length : Int) := by omega
      rw [mix_all] at HI
      have y0 := (blk_cell HI.out.b2 0).trans rfl
      have y1 := (blk_cell HI.out.b2 1).trans rfl
      have y2 := (blk_cell HI.out.b2 2).trans rfl
      have z0 := (blk_cell HI.out.b4 0).trans rfl
      have z1 := (blk_cell HI.out.b4 1).trans rfl
      have z2 := (blk_cell HI.out.b4 2).trans rfl
      have g0 := blk_frozen HI.out.b4 0
      have g1 := blk_frozen HI.out.b4 1
      have g2 := blk_frozen HI.out.b4 2
      have HFIN := Lib.hid (turn_end HI.out HWS.out)
      have HB4 := Lib.hid HI.out.b4
      clear HI
      go_wp2
      refine bodyPost_ret (results_cell_row rfl _ _ (bb + 1) 32 #[.int .i64 a, .slice A1 l.length c1, .string s] (0, 0) _ rfl (blk_put (blk_put (blk_put HB4.out 0 (.int .i64 a) rfl) 1 (.slice A1 l.length c1) rfl) 2 (.string s) rfl) Try.underlying32 rfl (by kernel_rfl)) rfl ?_
      exact ⟨A1, c1, rfl, HFIN.out.1, HFIN.out.2.1, HFIN.out.2.2⟩
end Go.Proofs.Ytopfaafgfgjfaaa
