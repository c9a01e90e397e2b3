/- A byte, and a part, taken off a reader. -/
import Derived.Test.YtopfaafgfgjfaaaObRd
import Derived.Test.YtopfaafgfgjfaaaObMayR
import Derived.Deep.CutBlock
set_option linter.unusedVariables false
set_option linter.unusedSimpArgs false
namespace Go.Proofs.Ytopfaafgfgjfaaa
open Go.RowKit Go.Proofs.YtopfaafgfgjfaaaW.PrintWords Go.Proofs.Ytopfaafgfgjfaaa.PObjLinks Go.Proofs.YtopfaafgfgjfaaaW.PrintLast
/-- A byte: what, how far, the fault. -/
def rbyte (bs : List Int) (p : Nat) : Int × Nat × Nat := if p < bs.length then (bs.getD p 0, p + 1, 0) else (0, p, 3)
def BytePost (w : World) (g : Nat) (A : Option Addr) (c : Nat) (bs : List Int) (r : Int × Nat × Nat) (e : Ending) (w' : World) : Prop :=
  e = .returned (.int .u8 r.1) ∧ Mod [g] w w' ∧ Rdr w' g A c bs r.2.1 (r.2.2 : Int)
set_option maxRecDepth 100000 in
set_option maxHeartbeats 2000000 in
theorem byte_ready (g : Nat) (A : Option Addr) (c : Nat) (bs : List Int) (p : Nat) (w : World) (h : Rdr w g A c bs p 0) :
    Calls Try.prog 30 #[.pointer (some ⟨g, 0, none⟩)] w (BytePost w g A c bs (rbyte bs p)) := by
  have hrd := ready_any g A c bs p 0 w h
  have hrs := rest_any g A c bs p 0 w h
  unfold rbyte
  by_cases hp : p < bs.length
  · rw [if_pos hp]
    have HR := Lib.hid h
    have hmx := h.max
    have c1 := h.c1
    have f1 := h.fz 1
    have hne : ((bs.length - p : Nat) : Int) ≠ 0 := by omega
    have nb : (((bs.length - p : Nat) : Int) == 0) = false := by simpa using hne
    have nb' : (bs.length - p == 0) = false := by simp; omega
    generalize bs.length - p = left at *
    clear hne
    unfold BytePost
    dsimp only
    go_enter Try.func30, Try.ntmps30
    go_wp2_with fail
    refine hrd.mono ?_
    rintro e w1 ⟨rfl, rfl⟩
    clear hrd
    go_wp2_with fail
    refine hrs.mono ?_
    rintro e w2 ⟨rfl, hm2⟩
    clear hrs
    have HR2 := Lib.hid (HR.out.mod hm2 (by simp) (by simp))
    have HM2 := Lib.hid hm2
    clear hm2 c1 f1 HR h
    have c1 := HR2.out.c1
    have f1 := HR2.out.fz 1
    obtain ⟨ad, hA, hx⟩ := HR2.out.reads.at_ (p : Int) (by omega) (by omega)
    subst hA
    rw [Int.toNat_natCast] at hx
    have HX := Lib.hid (show rd bs (p : Int) = bs.getD p 0 by rw [rd, Int.toNat_natCast])
    obtain ⟨x, hxx⟩ : ∃ x, rd bs (p : Int) = x := ⟨_, rfl⟩
    have HX2 := Lib.hid hxx
    rw [hxx] at hx HX
    clear hxx
    have ep : ((p + 1 : Nat) : Int) = (p : Int) + 1 := by omega
    have EP := Lib.hid ep
    have hmS := (Mod.refl [g] w2).setCell (p := ⟨g, 1, none⟩) (.inl (by simp)) (.int .i64 ((p : Int) + 1))
    have HRS := Lib.hid (HR2.out.set hmS (p + 1) 0 (by omega) (by rw [ep]; exact blk_put HR2.out.blk 1 (.int .i64 ((p : Int) + 1)) rfl))
    have HMS := Lib.hid ((HM2.out.weak (T := [g]) (fun s hs => by cases hs)).trans_ hmS)
    clear ep hmS
    have s2y := (HRS.out.reads.at_ (p : Int) (by omega) (by omega))
    go_upto_region 7 with fail
    clear c1 f1 hx
    generalize w2.setCell ⟨g, 1, none⟩ (.int .i64 ((p : Int) + 1)) = wy at *
    have s0x := HRS.out.c0
    have s1x := HRS.out.c1
    rw [EP.out] at s1x
    obtain ⟨ad', hA', s2x⟩ := s2y
    obtain rfl : ad = ad' := Option.some.inj hA'
    rw [Int.toNat_natCast, HX2.out] at s2x
    clear hA'
    have hwp : wrap64 (p : Int) = (p : Int) := by unfold wrap64; omega
    have hp0 : (0 : Int) ≤ (p : Int) := by omega
    have hp1 : (p : Int) < (bs.length : Int) := by omega
    refine start_ (n := 14) (S := fun w' => w'.cell? ⟨g, 0, none⟩ = some (.slice (some ad) bs.length c) ∧ w'.cell? ⟨g, 1, none⟩ = some (.int .i64 ((p : Int) + 1)) ∧ w'.cell? (ad.add p) = some (.int .u8 x)) (ds := []) #[false, false, false, false, false, false, false, false, false, false, false, false, false, false] (by kernel_rfl) rfl rfl ⟨s0x, s1x, s2x⟩ (fun hHeld => ?_)
    refine pure_ (i := 0) (N := some 24) (v := ?_) (a' := ?_) #[true, false, false, false, false, false, false, false, false, false, false, false, false, false] rfl rfl (by kernel_rfl) (fun _ _ _ h => h) (Or.inl ⟨by rfl, ?_⟩) ?_ ?_
    rotate_left
    · intro w'
      go_simp
      with_reducible rfl
    rotate_left
    · simp only [Act.put, List.setIfInBounds_toArray, List.set_cons_zero, List.set_cons_succ, i64_w, i32_w]
      rfl
    refine pure_ (i := 1) (N := some 25) (v := ?_) (a' := ?_) #[true, true, false, false, false, false, false, false, false, false, false, false, false, false] rfl rfl (by kernel_rfl) (fun _ _ _ h => h) (Or.inl ⟨by rfl, ?_⟩) ?_ ?_
    rotate_left
    · intro w'
      go_simp
      with_reducible rfl
    rotate_left
    · simp only [Act.put, List.setIfInBounds_toArray, List.set_cons_zero, List.set_cons_succ, i64_w, i32_w]
      rfl
    refine pure_ (i := 2) (N := some 26) (v := ?_) (a' := ?_) #[true, true, true, false, false, false, false, false, false, false, false, false, false, false] rfl rfl (by kernel_rfl) (fun _ _ _ h => h) (Or.inl ⟨by rfl, ?_⟩) ?_ ?_
    rotate_left
    · intro w'
      go_simp
      with_reducible rfl
    rotate_left
    · simp only [Act.put, List.setIfInBounds_toArray, List.set_cons_zero, List.set_cons_succ, i64_w, i32_w]
      rfl
    refine pure_ (i := 3) (N := some 27) (v := ?_) (a' := ?_) #[true, true, true, true, false, false, false, false, false, false, false, false, false, false] rfl rfl (by kernel_rfl) (fun _ _ _ h => h) (Or.inl ⟨by rfl, ?_⟩) ?_ ?_
    rotate_left
    · intro w'
      go_simp
      with_reducible rfl
    rotate_left
    · simp only [Act.put, List.setIfInBounds_toArray, List.set_cons_zero, List.set_cons_succ, i64_w, i32_w]
      rfl
    refine pure_ (i := 5) (N := some 29) (v := ?_) (a' := ?_) #[true, true, true, true, false, true, false, false, false, false, false, false, false, false] rfl rfl (by kernel_rfl) (fun _ _ _ h => h) (Or.inl ⟨by rfl, ?_⟩) ?_ ?_
    rotate_left
    · intro w'
      go_simp
      with_reducible rfl
    rotate_left
    · simp only [Act.put, List.setIfInBounds_toArray, List.set_cons_zero, List.set_cons_succ, i64_w, i32_w]
      rfl
    refine pure_ (i := 6) (N := some 30) (v := ?_) (a' := ?_) #[true, true, true, true, false, true, true, false, false, false, false, false, false, false] rfl rfl (by kernel_rfl) (fun _ _ _ h => h) (Or.inl ⟨by rfl, ?_⟩) ?_ ?_
    rotate_left
    · intro w'
      go_simp
      with_reducible rfl
    rotate_left
    · simp only [Act.put, List.setIfInBounds_toArray, List.set_cons_zero, List.set_cons_succ, i64_w, i32_w]
      rfl
    refine pure_ (i := 7) (N := some 31) (v := ?_) (a' := ?_) #[true, true, true, true, false, true, true, true, false, false, false, false, false, false] rfl rfl (by kernel_rfl) (fun _ _ _ h => h) (Or.inl ⟨by rfl, ?_⟩) ?_ ?_
    rotate_left
    · intro w'
      go_simp
      with_reducible rfl
    rotate_left
    · simp only [Act.put, List.setIfInBounds_toArray, List.set_cons_zero, List.set_cons_succ, i64_w, i32_w]
      rfl
    refine pure_ (i := 8) (N := some 32) (v := ?_) (a' := ?_) #[true, true, true, true, false, true, true, true, true, false, false, false, false, false] rfl rfl (by kernel_rfl) (fun _ _ _ h => h) (Or.inl ⟨by rfl, ?_⟩) ?_ ?_
    rotate_left
    · intro w'
      go_simp
      with_reducible rfl
    rotate_left
    · simp only [Act.put, List.setIfInBounds_toArray, List.set_cons_zero, List.set_cons_succ, i64_w, i32_w]
      rfl
    refine take_ (i := 4) (N := some 28) (v := ?_) (a' := ?_) #[true, true, true, true, true, true, true, true, true, false, false, false, false, false] rfl rfl (by kernel_rfl) (fun _ _ _ h => h) (Or.inl ⟨by rfl, ?_⟩) hHeld ?_ ?_
    rotate_left
    · rintro w' ⟨s0, s1, s2⟩
      go_simp
      with_reducible rfl
    rotate_left
    · simp only [Act.put, List.setIfInBounds_toArray, List.set_cons_zero, List.set_cons_succ, i64_w, i32_w]
      rfl
    refine take_ (i := 9) (N := some 33) (v := ?_) (a' := ?_) #[true, true, true, true, true, true, true, true, true, true, false, false, false, false] rfl rfl (by kernel_rfl) (fun _ _ _ h => h) (Or.inl ⟨by rfl, ?_⟩) hHeld ?_ ?_
    rotate_left
    · rintro w' ⟨s0, s1, s2⟩
      go_simp
      with_reducible rfl
    rotate_left
    · simp only [Act.put, List.setIfInBounds_toArray, List.set_cons_zero, List.set_cons_succ, i64_w, i32_w]
      rfl
    refine pure_ (i := 10) (N := some 34) (v := ?_) (a' := ?_) #[true, true, true, true, true, true, true, true, true, true, true, false, false, false] rfl rfl (by kernel_rfl) (fun _ _ _ h => h) (Or.inl ⟨by rfl, ?_⟩) ?_ ?_
    rotate_left
    · intro w'
      go_simp
      with_reducible rfl
    rotate_left
    · simp only [Act.put, List.setIfInBounds_toArray, List.set_cons_zero, List.set_cons_succ, i64_w, i32_w]
      rfl
    refine pure_ (i := 11) (N := some 35) (v := ?_) (a' := ?_) #[true, true, true, true, true, true, true, true, true, true, true, true, false, false] rfl rfl (by kernel_rfl) (fun _ _ _ h => h) (Or.inl ⟨by rfl, ?_⟩) ?_ ?_
    rotate_left
    · intro w'
      go_simp
      with_reducible rfl
    rotate_left
    · simp only [Act.put, List.setIfInBounds_toArray, List.set_cons_zero, List.set_cons_succ, i64_w, i32_w]
      rfl
    refine take_ (i := 12) (N := some 36) (v := ?_) (a' := ?_) #[true, true, true, true, true, true, true, true, true, true, true, true, true, false] rfl rfl (by kernel_rfl) (fun _ _ _ h => h) (Or.inl ⟨by rfl, ?_⟩) hHeld ?_ ?_
    rotate_left
    · rintro w' ⟨s0, s1, s2⟩
      go_simp
      with_reducible rfl
    rotate_left
    · simp only [Act.put, List.setIfInBounds_toArray, List.set_cons_zero, List.set_cons_succ, i64_w, i32_w]
      rfl
    refine pure_ (i := 13) (N := some 2) (v := ?_) (a' := ?_) #[true, true, true, true, true, true, true, true, true, true, true, true, true, true] rfl rfl (by kernel_rfl) (fun _ _ _ h => h) (Or.inl ⟨by rfl, ?_⟩) ?_ ?_
    rotate_left
    · intro w'
      go_simp
      with_reducible rfl
    rotate_left
    · simp only [Act.put, List.setIfInBounds_toArray, List.set_cons_zero, List.set_cons_succ, i64_w, i32_w]
      rfl
    refine done_ (by kernel_rfl) ?_
    go_wp2
    go_ret
    rw [← HX.out]
    exact ⟨rfl, HMS.out.drew, HRS.out.mod (Mod.refl [] wy).drew (by simp) (by simp)⟩
  · rw [if_neg hp]
    have hz : bs.length - p = 0 := by omega
    rw [hz] at hrs
    have HR := Lib.hid h
    unfold BytePost
    dsimp only
    clear hz
    go_enter Try.func30, Try.ntmps30
    go_wp2_with fail
    refine hrd.mono ?_
    rintro e w1 ⟨rfl, rfl⟩
    clear hrd
    go_wp2_with fail
    refine hrs.mono ?_
    rintro e w2 ⟨rfl, hm2⟩
    clear hrs
    have HR2 := Lib.hid (HR.out.mod hm2 (by simp) (by simp))
    have HM2 := Lib.hid hm2
    clear hm2
    have hfl := fail_ok g A c bs p 3 w2 HR2.out
    go_wp2_with fail
    refine hfl.mono ?_
    rintro e w3 ⟨rfl, hm3, hR3⟩
    have HM3 := Lib.hid ((HM2.out.weak (fun s hs => by cases hs)).trans_ hm3)
    have HR3 := Lib.hid hR3
    clear hm3 hR3 hfl
    go_wp2
    go_ret
    exact ⟨rfl, HM3.out, HR3.out⟩
/-- A part: what, how far, the fault. -/
def rpart (bs : List Int) (p : Nat) : S54 × Nat × Nat :=
  if (rbyte bs p).2.2 ≠ 0 then (⟨0, 0, ⟨#[]⟩⟩, (rbyte bs p).2.1, (rbyte bs p).2.2)
  else if (rbyte bs p).1 = 1 ∨ (rbyte bs p).1 = 3 ∨ (rbyte bs p).1 = 5 ∨ (rbyte bs p).1 = 8 then (⟨(rbyte bs p).1, ((rcount bs (rbyte bs p).2.1 16384).1 : Int), ⟨#[]⟩⟩, (rcount bs (rbyte bs p).2.1 16384).2.1, (rcount bs (rbyte bs p).2.1 16384).2.2)
  else if (rbyte bs p).1 = 2 then (⟨2, (rwhole bs (rbyte bs p).2.1).1, ⟨#[]⟩⟩, (rwhole bs (rbyte bs p).2.1).2.1, (rwhole bs (rbyte bs p).2.1).2.2)
  else if (rbyte bs p).1 = 4 then (⟨4, 0, strOfNums (rsized bs (rbyte bs p).2.1 32).1⟩, (rsized bs (rbyte bs p).2.1 32).2.1, (rsized bs (rbyte bs p).2.1 32).2.2)
  else (⟨(rbyte bs p).1, 0, ⟨#[]⟩⟩, (rbyte bs p).2.1, 0)
def okPart (r : S54 × Nat × Nat) : Bool := decide (r.2.2 = 0) && pmB r.1
def PartQ (w : World) (g : Nat) (A : Option Addr) (c : Nat) (bs : List Int) (b2 b4 : Nat) (r : S54 × Nat × Nat) (wx : World) : Prop :=
  Rdr wx g A c bs r.2.1 (r.2.2 : Int) ∧ wx.heap[b2]? = some (.cells #[.int .i64 0, .int .i64 0, .string ⟨#[]⟩] 54 (0, 0)) ∧ wx.heap[b4]? = some (.cells #[.int .i64 r.1.f0, .int .i64 r.1.f1, .string r.1.f2] 54 (0, 0)) ∧ Mod [g] w wx
def PartPost (w : World) (g : Nat) (A : Option Addr) (c : Nat) (bs : List Int) (r : S54 × Nat × Nat) (e : Ending) (w' : World) : Prop :=
  e = .returned (.tuple #[.agg #[.int .i64 r.1.f0, .int .i64 r.1.f1, .string r.1.f2], .bool (okPart r)]) ∧ Mod [g] w w' ∧ Rdr w' g A c bs r.2.1 (r.2.2 : Int)
theorem rbyte_rng {bs : List Int} (hb : Bytes bs) (p : Nat) : 0 ≤ (rbyte bs p).1 ∧ (rbyte bs p).1 ≤ 255 := by
  unfold rbyte
  split
  · exact hb.at_ p
  · show (0 : Int) ≤ 0 ∧ (0 : Int) ≤ 255
    omega
theorem rbyte_two (bs : List Int) (p : Nat) : rbyte bs p = ((rbyte bs p).1, p + 1, 0) ∨ rbyte bs p = (0, p, 3) := by
  unfold rbyte
  split
  · exact .inl rfl
  · exact .inr rfl
theorem rpart_bad {bs : List Int} {p : Nat} (h : rbyte bs p = (0, p, 3)) : rpart bs p = (⟨0, 0, ⟨#[]⟩⟩, p, 3) := by unfold rpart; rw [h]; simp
theorem rpart_count {bs : List Int} {p p1 : Nat} {K : Int} (h : rbyte bs p = (K, p1, 0)) (hK : K = 1 ∨ K = 3 ∨ K = 5 ∨ K = 8) : rpart bs p = (⟨K, ((rcount bs p1 16384).1 : Int), ⟨#[]⟩⟩, (rcount bs p1 16384).2.1, (rcount bs p1 16384).2.2) := by
  unfold rpart; rw [h]; dsimp only; rw [if_neg (by simp), if_pos hK]
theorem rpart_whole {bs : List Int} {p p1 : Nat} (h : rbyte bs p = (2, p1, 0)) : rpart bs p = (⟨2, (rwhole bs p1).1, ⟨#[]⟩⟩, (rwhole bs p1).2.1, (rwhole bs p1).2.2) := by
  unfold rpart; rw [h]; dsimp only; rw [if_neg (by simp), if_neg (by omega), if_pos rfl]
theorem rpart_sym {bs : List Int} {p p1 : Nat} (h : rbyte bs p = (4, p1, 0)) : rpart bs p = (⟨4, 0, strOfNums (rsized bs p1 32).1⟩, (rsized bs p1 32).2.1, (rsized bs p1 32).2.2) := by
  unfold rpart; rw [h]; dsimp only; rw [if_neg (by simp), if_neg (by omega), if_neg (by omega), if_pos rfl]
theorem rpart_other {bs : List Int} {p p1 : Nat} {K : Int} (h : rbyte bs p = (K, p1, 0)) (hK : K ≠ 1 ∧ K ≠ 3 ∧ K ≠ 5 ∧ K ≠ 8 ∧ K ≠ 2 ∧ K ≠ 4) : rpart bs p = (⟨K, 0, ⟨#[]⟩⟩, p1, 0) := by
  unfold rpart; rw [h]; dsimp only; rw [if_neg (by simp), if_neg (by omega), if_neg (by omega), if_neg (by omega)]
theorem results_rowtmp {P : Program} {fn : Func} {p u : Tmp} {ty : TypeId} (h : fn.results = #[.cell p ty, .tmp u]) (tmps : Array Value) (w : World) (g : Nat) (t : TypeId) (cs : Array Value) (fr : Nat × Nat) (d : TypeDesc)
    (hp : tmps.getD p undef = .pointer (some ⟨g, 0, none⟩)) (hg : w.heap[g]? = some (.cells cs t fr))
    (hu : P.underlying ty = some d) (hd : (match d with | .struct _ | .array _ _ => true | _ => false) = true) (hi : (P.info? ty).map (·.size) = some cs.size) :
    (results fn tmps).run P w = .ok (.tuple #[.agg cs, tmps.getD u undef]) w := by
  rw [results_cell_tmp h, hp]
  simp [asAddr, run_loadVar_row w g t ty cs fr d hg hu hd hi]
/-- A store into the part's box, behind the reader's call. -/
theorem partQ_put {w wx w2 : World} {g : Nat} {A : Option Addr} {c : Nat} {bs : List Int} {b2 b4 p2 f i : Nat} {u0 u1 u2 v : Value} {q : S54} (hM : Mod [g] w wx) (hm : Mod [g] wx w2) (hR : Rdr w2 g A c bs p2 (f : Int)) (hk2 : wx.heap[b2]? = some (.cells #[.int .i64 0, .int .i64 0, .string ⟨#[]⟩] 54 (0, 0))) (hk4 : wx.heap[b4]? = some (.cells #[u0, u1, u2] 54 (0, 0)))
    (h4g : b4 ≠ g) (h2g : b2 ≠ g) (h24 : b2 ≠ b4) (hA : ∀ a, A = some a → a.block ≠ b4) (hw : w.heap.size ≤ b4) (hq : #[u0, u1, u2].setIfInBounds i v = #[.int .i64 q.f0, .int .i64 q.f1, .string q.f2]) : PartQ w g A c bs b2 b4 (q, p2, f) (w2.setCell ⟨b4, i, none⟩ v) := by
  refine ⟨hR.mod ((Mod.refl [b4] w2).setCell (.inl (by simp)) v) (by simp; exact h4g.symm) (fun a ha _ => by simp; exact hA a ha), ?_, blk_put (hm.blk hk4 (by simp; exact h4g)) i v hq, (hM.trans_ hm).setCell (.inr hw) v⟩
  exact (Below.heap_setCell w2 _ _ b2 h24).trans (hm.blk hk2 (by simp; exact h2g))
/-- The part's result is laid. -/
theorem part_end {w wx : World} {g : Nat} {A : Option Addr} {c : Nat} {bs : List Int} {b2 p2 f : Nat} {v0 v1 v2 : Value} (hM : Mod [g] w wx) (hR : Rdr wx g A c bs p2 (f : Int)) (h2g : b2 ≠ g) (hA : ∀ a, A = some a → a.block ≠ b2) (hw : w.heap.size ≤ b2) :
    Mod [g] w (((wx.setCell ⟨b2, 0, none⟩ v0).setCell ⟨b2, 1, none⟩ v1).setCell ⟨b2, 2, none⟩ v2) ∧ Rdr (((wx.setCell ⟨b2, 0, none⟩ v0).setCell ⟨b2, 1, none⟩ v1).setCell ⟨b2, 2, none⟩ v2) g A c bs p2 (f : Int) :=
  ⟨((hM.setCell (.inr hw) v0).setCell (.inr hw) v1).setCell (.inr hw) v2, hR.mod ((((Mod.refl [b2] wx).setCell (.inl (by simp)) v0).setCell (.inl (by simp)) v1).setCell (.inl (by simp)) v2) (by simp; exact h2g.symm) (fun a ha _ => by simp; exact hA a ha)⟩
set_option maxRecDepth 100000 in
set_option maxHeartbeats 8000000 in
theorem part_ready (g : Nat) (A : Option Addr) (c : Nat) (bs : List Int) (p : Nat) (w : World) (h : Rdr w g A c bs p 0) (hA : ∀ a, A = some a → a.block < w.heap.size) :
    Calls Try.prog 34 #[.pointer (some ⟨g, 0, none⟩)] w (PartPost w g A c bs (rpart bs p)) := by
  have hg := blk_lt h.blk
  have HG := Lib.hid hg
  have hk2 := blk_new w (.cells #[.int .i64 0, .int .i64 0, .string ⟨#[]⟩] 54)
  have hm0 := (Mod.refl [g] w).alloc (.cells #[.int .i64 0, .int .i64 0, .string ⟨#[]⟩] 54)
  have hR0 := h.mod ((Mod.refl [] w).alloc (.cells #[.int .i64 0, .int .i64 0, .string ⟨#[]⟩] 54)) (by simp) (by simp)
  have hby := byte_ready g A c bs p _ hR0
  have HK2 := Lib.hid hk2
  have HM0 := Lib.hid hm0
  have HBW := Lib.hid (Nat.le_refl w.heap.size)
  have HBY := Lib.hid (rbyte_rng h.bytes p)
  clear hk2 hm0 hR0 h hg
  unfold PartPost
  go_enter Try.func34, Try.ntmps34
  go_wp2_with fail
  refine hby.mono ?_
  rintro e w1 ⟨rfl, hm1, hR1⟩
  clear hby
  have HK2 := Lib.hid (hm1.blk HK2.out (by simp; exact (Nat.ne_of_lt HG.out).symm))
  have HM1 := Lib.hid (HM0.out.trans_ hm1)
  have HR1 := Lib.hid hR1
  clear hm1 hR1 HM0
  obtain ⟨K, hK⟩ : ∃ q, (rbyte bs p).1 = q := ⟨_, rfl⟩
  have HKK := Lib.hid hK
  rw [hK] at HBY ⊢
  clear hK
  obtain ⟨b2, hb2⟩ : ∃ q, w.heap.size = q := ⟨_, rfl⟩
  rw [hb2] at HK2
  have hk4 := blk_new w1 (.cells #[.int .i64 K, .int .i64 0, .string ⟨#[]⟩] 54)
  have HK4 := Lib.hid hk4
  have HM4 := Lib.hid (HM1.out.alloc (.cells #[.int .i64 K, .int .i64 0, .string ⟨#[]⟩] 54))
  have z0 := (blk_cell hk4 0).trans rfl
  have hwk : wrap64 K = K := by have := HBY.out; unfold wrap64; omega
  have HB4 := Lib.hid (show b2 < w1.heap.size from blk_lt HK2.out)
  have HR4 := Lib.hid (HR1.out.mod ((Mod.refl [] w1).alloc (.cells #[.int .i64 K, .int .i64 0, .string ⟨#[]⟩] 54)) (by simp) (by simp))
  have HK2 := Lib.hid (blk_old HK2.out (.cells #[.int .i64 K, .int .i64 0, .string ⟨#[]⟩] 54))
  clear hk4
  go_upto_block 0 with fail
  clear z0 hwk
  generalize w1.alloc (.cells #[.int .i64 K, .int .i64 0, .string ⟨#[]⟩] 54) = wx at *
  generalize w1.heap.size = b4 at *
  go_cut [] (fun wz => PartQ w g A c bs b2 b4 (rpart bs p) wz)
  case first =>
    have H4G := Lib.hid (show b4 ≠ g by have h1 := HB4.out; have h2 := HG.out; omega)
    have H2G := Lib.hid (show b2 ≠ g by have h2 := HG.out; omega)
    have H24 := Lib.hid (show b2 ≠ b4 by have h1 := HB4.out; omega)
    have HWB := Lib.hid (show w.heap.size ≤ b4 by have h1 := HB4.out; omega)
    have HAB := Lib.hid (show ∀ a, A = some a → a.block ≠ b4 from fun a ha => by have := hA a ha; have h1 := HB4.out; omega)
    have HPQ := Lib.hid (fun (hh : rpart bs p = (⟨K, 0, ⟨#[]⟩⟩, (rbyte bs p).2.1, (rbyte bs p).2.2)) => show PartQ w g A c bs b2 b4 (rpart bs p) wx from by rw [hh]; exact ⟨HR4.out, HK2.out, HK4.out, HM4.out⟩)
    clear hb2
    rcases rbyte_two bs p with hb | hb
    · rw [HKK.out] at hb
      have hR4 := HR4.out
      rw [hb] at hR4
      have HB := Lib.hid hb
      rw [hb] at HPQ
      clear hb
      have hcat : K = 1 ∨ K = 3 ∨ K = 5 ∨ K = 8 ∨ K = 2 ∨ K = 4 ∨ K = 0 ∨ K = 6 ∨ K = 7 ∨ ((K == 1) = false ∧ (K == 3) = false ∧ (K == 5) = false ∧ (K == 8) = false ∧ (K == 2) = false ∧ (K == 4) = false ∧ (K == 0) = false ∧ (K == 6) = false ∧ (K == 7) = false) := by
        simp; omega
      rcases hcat with rfl | rfl | rfl | rfl | rfl | rfl | rfl | rfl | rfl | ⟨n1, n3, n5, n8, n2, n4, n0, n6, n7⟩
      · have HRP := Lib.hid (rpart_count HB.out (by omega))
        have hct := count_ready g A c bs (p + 1) 16384 wx hR4 (by omega) (by omega)
        go_wp2_with fail
        refine hct.mono ?_
        rintro e w2 ⟨rfl, hm2, hR2⟩
        clear hct
        have k4 := hm2.blk HK4.out (by simp; exact H4G.out)
        have y1 := (blk_cell k4 1).trans rfl
        have g1 := blk_frozen k4 1
        have HQ := Lib.hid (partQ_put (q := (rpart bs p).1) (i := 1) HM4.out hm2 hR2 HK2.out HK4.out H4G.out H2G.out H24.out HAB.out HWB.out (by rw [HRP.out]; rfl))
        have HQ' := Lib.hid (show PartQ w g A c bs b2 b4 (rpart bs p) _ from by have h := HQ.out; rw [HRP.out] at h ⊢; exact h)
        clear hm2 hR2 k4 HQ
        go_wp2
        go_meet
        exact HQ'.out
      · have HRP := Lib.hid (rpart_count HB.out (by omega))
        have hct := count_ready g A c bs (p + 1) 16384 wx hR4 (by omega) (by omega)
        go_wp2_with fail
        refine hct.mono ?_
        rintro e w2 ⟨rfl, hm2, hR2⟩
        clear hct
        have k4 := hm2.blk HK4.out (by simp; exact H4G.out)
        have y1 := (blk_cell k4 1).trans rfl
        have g1 := blk_frozen k4 1
        have HQ := Lib.hid (partQ_put (q := (rpart bs p).1) (i := 1) HM4.out hm2 hR2 HK2.out HK4.out H4G.out H2G.out H24.out HAB.out HWB.out (by rw [HRP.out]; rfl))
        have HQ' := Lib.hid (show PartQ w g A c bs b2 b4 (rpart bs p) _ from by have h := HQ.out; rw [HRP.out] at h ⊢; exact h)
        clear hm2 hR2 k4 HQ
        go_wp2
        go_meet
        exact HQ'.out
      · have HRP := Lib.hid (rpart_count HB.out (by omega))
        have hct := count_ready g A c bs (p + 1) 16384 wx hR4 (by omega) (by omega)
        go_wp2_with fail
        refine hct.mono ?_
        rintro e w2 ⟨rfl, hm2, hR2⟩
        clear hct
        have k4 := hm2.blk HK4.out (by simp; exact H4G.out)
        have y1 := (blk_cell k4 1).trans rfl
        have g1 := blk_frozen k4 1
        have HQ := Lib.hid (partQ_put (q := (rpart bs p).1) (i := 1) HM4.out hm2 hR2 HK2.out HK4.out H4G.out H2G.out H24.out HAB.out HWB.out (by rw [HRP.out]; rfl))
        have HQ' := Lib.hid (show PartQ w g A c bs b2 b4 (rpart bs p) _ from by have h := HQ.out; rw [HRP.out] at h ⊢; exact h)
        clear hm2 hR2 k4 HQ
        go_wp2
        go_meet
        exact HQ'.out
      · have HRP := Lib.hid (rpart_count HB.out (by omega))
        have hct := count_ready g A c bs (p + 1) 16384 wx hR4 (by omega) (by omega)
        go_wp2_with fail
        refine hct.mono ?_
        rintro e w2 ⟨rfl, hm2, hR2⟩
        clear hct
        have k4 := hm2.blk HK4.out (by simp; exact H4G.out)
        have y1 := (blk_cell k4 1).trans rfl
        have g1 := blk_frozen k4 1
        have HQ := Lib.hid (partQ_put (q := (rpart bs p).1) (i := 1) HM4.out hm2 hR2 HK2.out HK4.out H4G.out H2G.out H24.out HAB.out HWB.out (by rw [HRP.out]; rfl))
        have HQ' := Lib.hid (show PartQ w g A c bs b2 b4 (rpart bs p) _ from by have h := HQ.out; rw [HRP.out] at h ⊢; exact h)
        clear hm2 hR2 k4 HQ
        go_wp2
        go_meet
        exact HQ'.out
      · have HRP := Lib.hid (rpart_whole HB.out)
        have hct := whole_ready g A c bs (p + 1) wx hR4
        go_wp2_with fail
        refine hct.mono ?_
        rintro e w2 ⟨rfl, hm2, hR2⟩
        clear hct
        have k4 := hm2.blk HK4.out (by simp; exact H4G.out)
        have y1 := (blk_cell k4 1).trans rfl
        have g1 := blk_frozen k4 1
        have HQ := Lib.hid (partQ_put (q := (rpart bs p).1) (i := 1) HM4.out hm2 hR2 HK2.out HK4.out H4G.out H2G.out H24.out HAB.out HWB.out (by rw [HRP.out]; rfl))
        have HQ' := Lib.hid (show PartQ w g A c bs b2 b4 (rpart bs p) _ from by have h := HQ.out; rw [HRP.out] at h ⊢; exact h)
        clear hm2 hR2 k4 HQ
        go_wp2
        go_meet
        exact HQ'.out
      · have HRP := Lib.hid (rpart_sym HB.out)
        have hct := sized_ready g A c bs (p + 1) 32 wx hR4 (by omega) (by omega)
        go_wp2_with fail
        refine hct.mono ?_
        rintro e w2 ⟨A2, n2, c2, rfl, hr2, hm2, hR2⟩
        clear hct
        have hcv := string_of_reads (P := Try.prog) (dst := 9) (c := c2) Try.underlying50 Try.underlying5 Try.underlying9 hr2
        have k4 := hm2.blk HK4.out (by simp; exact H4G.out)
        have y2 := (blk_cell k4 2).trans rfl
        have g2 := blk_frozen k4 2
        have HQ := Lib.hid (partQ_put (q := (rpart bs p).1) (i := 2) HM4.out hm2 hR2 HK2.out HK4.out H4G.out H2G.out H24.out HAB.out HWB.out (by rw [HRP.out]; rfl))
        have HQ' := Lib.hid (show PartQ w g A c bs b2 b4 (rpart bs p) _ from by have h := HQ.out; rw [HRP.out] at h ⊢; exact h)
        clear hm2 hR2 k4 HQ hr2
        go_wp2
        go_meet
        exact HQ'.out
      · have HQ := Lib.hid (HPQ.out (rpart_other HB.out (by omega)))
        go_wp2
        go_meet
        exact HQ.out
      · have HQ := Lib.hid (HPQ.out (rpart_other HB.out (by omega)))
        go_wp2
        go_meet
        exact HQ.out
      · have HQ := Lib.hid (HPQ.out (rpart_other HB.out (by omega)))
        go_wp2
        go_meet
        exact HQ.out
      · have HQ := Lib.hid (HPQ.out (rpart_other HB.out ⟨by simpa using n1, by simpa using n3, by simpa using n5, by simpa using n8, by simpa using n2, by simpa using n4⟩))
        go_wp2
        go_meet
        exact HQ.out
    · have hK := HKK.out
      rw [hb] at hK
      dsimp only at hK
      subst hK
      have HQ := Lib.hid (HPQ.out (by rw [rpart_bad hb, hb]))
      clear hb
      go_wp2
      go_meet
      exact HQ.out
  case rest =>
    have hq := hcut
    obtain ⟨⟨q, p2, f⟩, hrr⟩ : ∃ r, rpart bs p = r := ⟨_, rfl⟩
    have HRR := Lib.hid hrr
    rw [hrr] at hq
    clear hrr
    obtain ⟨q1, q2, q3, q4⟩ := hq
    dsimp only at q1 q3
    have H2G := Lib.hid (show b2 ≠ g by have h2 := HG.out; omega)
    have HWB := Lib.hid (show w.heap.size ≤ b2 by omega)
    have HAB := Lib.hid (show ∀ a, A = some a → a.block ≠ b2 from fun a ha => by have := hA a ha; omega)
    have HRD := Lib.hid (q1.mod (Mod.refl [] wc).drew (by simp) (by simp))
    have HMD := Lib.hid q4.drew
    have HMY := Lib.hid q4
    have HRY := Lib.hid q1
    have HK2 := Lib.hid q2
    have HK4 := Lib.hid q3
    have s0x := (blk_cell q3 0).trans rfl
    have s1x := (blk_cell q3 1).trans rfl
    have s2x := (blk_cell q3 2).trans rfl
    clear hcut q1 q2 q3 q4 hb2
    generalize wc = wy at *
    by_cases hf : f = 0
    · have n0 : ((f : Int) == 0) = true := by simp [hf]
      have n0' : (f == 0) = true := by simp [hf]
      have HF := Lib.hid hf
      clear hf
      go_upto_region 15 with fail
      refine start_ (n := 10) (S := fun w' => w'.cell? ⟨b4, 0, none⟩ = some (.int .i64 q.f0) ∧ w'.cell? ⟨b4, 1, none⟩ = some (.int .i64 q.f1) ∧ w'.cell? ⟨b4, 2, none⟩ = some (.string q.f2)) (ds := [8]) #[false, false, false, false, false, false, false, false, false, false] (by kernel_rfl) rfl rfl ⟨s0x, s1x, s2x⟩ (fun hHeld => ?_)
      refine pure_ (i := 1) (N := some 35) (v := ?_) (a' := ?_) #[false, true, false, false, false, false, false, false, false, false] rfl rfl (by kernel_rfl) (fun _ _ _ h => h) (Or.inl ⟨by rfl, ?_⟩) ?_ ?_
      rotate_left
      · intro w'
        go_simp
        with_reducible rfl
      rotate_left
      · simp only [Act.put, List.setIfInBounds_toArray, List.set_cons_zero, List.set_cons_succ, i64_w, i32_w]
        rfl
      refine take_ (i := 0) (N := some 34) (v := ?_) (a' := ?_) #[true, true, false, false, false, false, false, false, false, false] rfl rfl (by kernel_rfl) (fun _ _ _ h => h) (Or.inl ⟨by rfl, ?_⟩) hHeld ?_ ?_
      rotate_left
      · rintro w' ⟨s0, s1, s2⟩
        go_simp
        with_reducible rfl
      rotate_left
      · simp only [Act.put, List.setIfInBounds_toArray, List.set_cons_zero, List.set_cons_succ, i64_w, i32_w]
        rfl
      refine one_ (i := 2) (N := some 36) #[true, true, true, false, false, false, false, false, false, false] rfl rfl (by kernel_rfl) (by decide) (fun K hK => ?_)
      refine goes_ Try.func31 (by kernel_rfl) rfl #[.pointer (some ⟨g, 0, none⟩)] (by rfl) rfl rfl (by simp only [List.map_toArray, List.map_cons, List.map_nil]; rfl) ?_
      with_reducible refine (fault_any g A c bs p2 f wy.drew HRD.out).mono ?_
      rintro e w6 ⟨rfl, rfl⟩
      refine ⟨_, rfl, ?_⟩
      refine hK.out _ _ ⟨hHeld.1, hHeld.2.1, hHeld.2.2⟩ (fun hHeld => ?_)
      clear hK K
      refine norm_ (a' := ?_) ?_ ?_
      rotate_left
      · show Act.put _ (some 36) _ = _
        simp only [Act.put, List.setIfInBounds_toArray, List.set_cons_zero, List.set_cons_succ, i64_w, i32_w]
        rfl
      refine pure_ (i := 3) (N := some 37) (v := ?_) (a' := ?_) #[true, true, true, true, false, false, false, false, false, false] rfl rfl (by kernel_rfl) (fun _ _ _ h => h) (Or.inl ⟨by rfl, ?_⟩) ?_ ?_
      rotate_left
      · intro w'
        go_simp
        with_reducible rfl
      rotate_left
      · simp only [Act.put, List.setIfInBounds_toArray, List.set_cons_zero, List.set_cons_succ, i64_w, i32_w]
        rfl
      refine pure_ (i := 4) (N := some 38) (v := ?_) (a' := ?_) #[true, true, true, true, true, false, false, false, false, false] rfl rfl (by kernel_rfl) (fun _ _ _ h => h) (Or.inl ⟨by rfl, ?_⟩) ?_ ?_
      rotate_left
      · intro w'
        go_simp
        with_reducible rfl
      rotate_left
      · simp only [Act.put, List.setIfInBounds_toArray, List.set_cons_zero, List.set_cons_succ, i64_w, i32_w]
        rfl
      refine take_ (i := 5) (N := some 39) (v := ?_) (a' := ?_) #[true, true, true, true, true, true, false, false, false, false] rfl rfl (by kernel_rfl) (fun _ _ _ h => h) (Or.inl ⟨by rfl, ?_⟩) hHeld ?_ ?_
      rotate_left
      · rintro w' ⟨s0, s1, s2⟩
        go_simp
        with_reducible rfl
      rotate_left
      · simp only [Act.put, List.setIfInBounds_toArray, List.set_cons_zero, List.set_cons_succ, i64_w, i32_w]
        rfl
      refine one_ (i := 6) (N := some 40) #[true, true, true, true, true, true, true, false, false, false] rfl rfl (by kernel_rfl) (by decide) (fun K hK => ?_)
      refine goes_ Try.func28 (by kernel_rfl) rfl #[.agg #[.int .i64 q.f0, .int .i64 q.f1, .string q.f2]] (by rfl) rfl rfl (by simp only [List.map_toArray, List.map_cons, List.map_nil]; rfl) ?_
      with_reducible refine (partMay_any q _).mono ?_
      rintro e w7 ⟨rfl, hm7⟩
      refine ⟨_, rfl, ?_⟩
      have HM7 := Lib.hid hm7
      have k7 := hm7.blk HK4.out (by simp)
      have u7 := hm7.blk HK2.out (by simp)
      have HU7 := Lib.hid u7
      have g0 := blk_frozen u7 0
      have g1 := blk_frozen u7 1
      have g2 := blk_frozen u7 2
      have y0 := (blk_cell u7 0).trans rfl
      have y1 := (blk_cell u7 1).trans rfl
      have y2 := (blk_cell u7 2).trans rfl
      refine hK.out _ _ ⟨(blk_cell k7 0).trans rfl, (blk_cell k7 1).trans rfl, (blk_cell k7 2).trans rfl⟩ (fun hHeld => ?_)
      clear hK K
      refine norm_ (a' := ?_) ?_ ?_
      rotate_left
      · show Act.put _ (some 40) _ = _
        simp only [Act.put, List.setIfInBounds_toArray, List.set_cons_zero, List.set_cons_succ, i64_w, i32_w]
        rfl
      refine pure_ (i := 7) (N := some 41) (v := ?_) (a' := ?_) #[true, true, true, true, true, true, true, true, false, false] rfl rfl (by kernel_rfl) (fun _ _ _ h => h) (Or.inl ⟨by rfl, ?_⟩) ?_ ?_
      rotate_left
      · intro w'
        go_simp
        with_reducible rfl
      rotate_left
      · simp only [Act.put, List.setIfInBounds_toArray, List.set_cons_zero, List.set_cons_succ, i64_w, i32_w]
        rfl
      refine last_ (i := 8) (N := none) #[true, true, true, true, true, true, true, true, true, false] rfl rfl (by kernel_rfl) (by decide) (fun K hK => ?_)
      refine skip_ (w1 := ?_) (by rfl) rfl ?_ ?_
      rotate_left
      · go_simp
        rfl
      refine hK.out _ _ ?_
      clear hK K
      refine pure_ (i := 9) (N := some 3) (v := ?_) (a' := ?_) #[true, true, true, true, true, true, true, true, true, true] rfl rfl (by kernel_rfl) (fun _ _ _ h => h) (Or.inl ⟨by rfl, ?_⟩) ?_ ?_
      rotate_left
      · intro w'
        go_simp
        with_reducible rfl
      rotate_left
      · simp only [Act.put, List.setIfInBounds_toArray, List.set_cons_zero, List.set_cons_succ, i64_w, i32_w]
        rfl
      refine done_ (by kernel_rfl) ?_
      go_wp2
      refine bodyPost_ret (results_rowtmp rfl _ _ b2 54 #[.int .i64 q.f0, .int .i64 q.f1, .string q.f2] (0, 0) _ rfl (blk_put (blk_put (blk_put HU7.out 0 (.int .i64 q.f0) rfl) 1 (.int .i64 q.f1) rfl) 2 (.string q.f2) rfl) Try.underlying54 rfl (by kernel_rfl)) rfl ?_
      obtain ⟨e1, e2⟩ := part_end (v0 := .int .i64 q.f0) (v1 := .int .i64 q.f1) (v2 := .string q.f2) (HMD.out.trans0 HM7.out) (HRD.out.mod HM7.out (by simp) (by simp)) H2G.out HAB.out HWB.out
      rw [HRR.out]
      exact ⟨by unfold okPart; rw [decide_eq_true HF.out]; simp, e1, e2⟩
    · have n0 : ((f : Int) == 0) = false := by simp [hf]
      have n0' : (f == 0) = false := by simp [hf]
      have HF := Lib.hid hf
      clear hf
      have y0 := (blk_cell HK2.out 0).trans rfl
      have y1 := (blk_cell HK2.out 1).trans rfl
      have y2 := (blk_cell HK2.out 2).trans rfl
      have g0 := blk_frozen HK2.out 0
      have g1 := blk_frozen HK2.out 1
      have g2 := blk_frozen HK2.out 2
      go_upto_region 15 with fail
      refine start_ (n := 10) (S := fun w' => w'.cell? ⟨b4, 0, none⟩ = some (.int .i64 q.f0) ∧ w'.cell? ⟨b4, 1, none⟩ = some (.int .i64 q.f1) ∧ w'.cell? ⟨b4, 2, none⟩ = some (.string q.f2)) (ds := [8]) #[false, false, false, false, false, false, false, false, false, false] (by kernel_rfl) rfl rfl ⟨s0x, s1x, s2x⟩ (fun hHeld => ?_)
      refine pure_ (i := 1) (N := some 35) (v := ?_) (a' := ?_) #[false, true, false, false, false, false, false, false, false, false] rfl rfl (by kernel_rfl) (fun _ _ _ h => h) (Or.inl ⟨by rfl, ?_⟩) ?_ ?_
      rotate_left
      · intro w'
        go_simp
        with_reducible rfl
      rotate_left
      · simp only [Act.put, List.setIfInBounds_toArray, List.set_cons_zero, List.set_cons_succ, i64_w, i32_w]
        rfl
      refine take_ (i := 0) (N := some 34) (v := ?_) (a' := ?_) #[true, true, false, false, false, false, false, false, false, false] rfl rfl (by kernel_rfl) (fun _ _ _ h => h) (Or.inl ⟨by rfl, ?_⟩) hHeld ?_ ?_
      rotate_left
      · rintro w' ⟨s0, s1, s2⟩
        go_simp
        with_reducible rfl
      rotate_left
      · simp only [Act.put, List.setIfInBounds_toArray, List.set_cons_zero, List.set_cons_succ, i64_w, i32_w]
        rfl
      refine one_ (i := 2) (N := some 36) #[true, true, true, false, false, false, false, false, false, false] rfl rfl (by kernel_rfl) (by decide) (fun K hK => ?_)
      refine goes_ Try.func31 (by kernel_rfl) rfl #[.pointer (some ⟨g, 0, none⟩)] (by rfl) rfl rfl (by simp only [List.map_toArray, List.map_cons, List.map_nil]; rfl) ?_
      with_reducible refine (fault_any g A c bs p2 f wy.drew HRD.out).mono ?_
      rintro e w6 ⟨rfl, rfl⟩
      refine ⟨_, rfl, ?_⟩
      refine hK.out _ _ ⟨hHeld.1, hHeld.2.1, hHeld.2.2⟩ (fun hHeld => ?_)
      clear hK K
      refine norm_ (a' := ?_) ?_ ?_
      rotate_left
      · show Act.put _ (some 36) _ = _
        simp only [Act.put, List.setIfInBounds_toArray, List.set_cons_zero, List.set_cons_succ, i64_w, i32_w]
        rfl
      refine pure_ (i := 3) (N := some 37) (v := ?_) (a' := ?_) #[true, true, true, true, false, false, false, false, false, false] rfl rfl (by kernel_rfl) (fun _ _ _ h => h) (Or.inl ⟨by rfl, ?_⟩) ?_ ?_
      rotate_left
      · intro w'
        go_simp
        with_reducible rfl
      rotate_left
      · simp only [Act.put, List.setIfInBounds_toArray, List.set_cons_zero, List.set_cons_succ, i64_w, i32_w]
        rfl
      refine pure_ (i := 4) (N := some 38) (v := ?_) (a' := ?_) #[true, true, true, true, true, false, false, false, false, false] rfl rfl (by kernel_rfl) (fun _ _ _ h => h) (Or.inl ⟨by rfl, ?_⟩) ?_ ?_
      rotate_left
      · intro w'
        go_simp
        with_reducible rfl
      rotate_left
      · simp only [Act.put, List.setIfInBounds_toArray, List.set_cons_zero, List.set_cons_succ, i64_w, i32_w]
        rfl
      refine pure_ (i := 5) (N := some 39) (v := undef) (a' := ?_) #[true, true, true, true, true, true, false, false, false, false] rfl rfl (by kernel_rfl) (fun _ _ _ h => h) (Or.inr ⟨by rfl, rfl⟩) ?_ ?_
      rotate_left
      · simp only [Act.put, List.setIfInBounds_toArray, List.set_cons_zero, List.set_cons_succ, i64_w, i32_w]
        rfl
      refine pure_ (i := 6) (N := some 40) (v := undef) (a' := ?_) #[true, true, true, true, true, true, true, false, false, false] rfl rfl (by kernel_rfl) (fun _ _ _ h => h) (Or.inr ⟨by rfl, rfl⟩) ?_ ?_
      rotate_left
      · simp only [Act.put, List.setIfInBounds_toArray, List.set_cons_zero, List.set_cons_succ, i64_w, i32_w]
        rfl
      refine pure_ (i := 7) (N := some 41) (v := ?_) (a' := ?_) #[true, true, true, true, true, true, true, true, false, false] rfl rfl (by kernel_rfl) (fun _ _ _ h => h) (Or.inl ⟨by rfl, ?_⟩) ?_ ?_
      rotate_left
      · intro w'
        go_simp
        with_reducible rfl
      rotate_left
      · simp only [Act.put, List.setIfInBounds_toArray, List.set_cons_zero, List.set_cons_succ, i64_w, i32_w]
        rfl
      refine last_ (i := 8) (N := none) #[true, true, true, true, true, true, true, true, true, false] rfl rfl (by kernel_rfl) (by decide) (fun K hK => ?_)
      refine skip_ (w1 := ?_) (by rfl) rfl ?_ ?_
      rotate_left
      · go_simp
        rfl
      refine hK.out _ _ ?_
      clear hK K
      refine pure_ (i := 9) (N := some 3) (v := ?_) (a' := ?_) #[true, true, true, true, true, true, true, true, true, true] rfl rfl (by kernel_rfl) (fun _ _ _ h => h) (Or.inl ⟨by rfl, ?_⟩) ?_ ?_
      rotate_left
      · intro w'
        go_simp
        with_reducible rfl
      rotate_left
      · simp only [Act.put, List.setIfInBounds_toArray, List.set_cons_zero, List.set_cons_succ, i64_w, i32_w]
        rfl
      refine done_ (by kernel_rfl) ?_
      go_wp2
      refine bodyPost_ret (results_rowtmp rfl _ _ b2 54 #[.int .i64 q.f0, .int .i64 q.f1, .string q.f2] (0, 0) _ rfl (blk_put (blk_put (blk_put HK2.out 0 (.int .i64 q.f0) rfl) 1 (.int .i64 q.f1) rfl) 2 (.string q.f2) rfl) Try.underlying54 rfl (by kernel_rfl)) rfl ?_
      obtain ⟨e1, e2⟩ := part_end (v0 := .int .i64 q.f0) (v1 := .int .i64 q.f1) (v2 := .string q.f2) HMY.out HRY.out H2G.out HAB.out HWB.out
      rw [HRR.out]
      exact ⟨by unfold okPart; rw [decide_eq_false HF.out]; simp, e1.drew, e2.mod (S := []) (Mod.refl [] _).drew (fun h => by cases h) (fun _ _ _ h => by cases h)⟩
end Go.Proofs.Ytopfaafgfgjfaaa
