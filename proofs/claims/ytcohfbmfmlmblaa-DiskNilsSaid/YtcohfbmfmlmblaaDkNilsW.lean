/- The law of nil disks and of clones, walked. -/
import Derived.Test.YtcohfbmfmlmblaaDkNil
import Derived.Test.YtcohfbmfmlmblaaDkPlayed
import Derived.Test.YtcohfbmfmlmblaaDkOpen
import Derived.Test.YtcohfbmfmlmblaaDkClone
import Derived.Test.YtcohfbmfmlmblaaDkKeepM
set_option linter.unusedVariables false
set_option linter.unusedSimpArgs false
namespace Go.Proofs.Ytcohfbmfmlmblaa
open Go.RowKit Go.Proofs.YtcohfbmfmlmblaaW.PrintWords Go.Proofs.Ytcohfbmfmlmblaa.PDiskPlays Go.Proofs.YtcohfbmfmlmblaaW.PrintMore Go.Proofs.YtcohfbmfmlmblaaW.PrintLast
theorem good_le {D : DK} {a : Nat} (h : Good D a) : ∀ k, Good D (a + k)
  | 0 => h
  | k + 1 => (good_le h k).up
/-- The state ahead of a step on a clone: the document's disk lies in the box b. -/
structure RunX (w wr : World) (g b : Nat) (D X : DK) (A5 : Option Addr) (q5 : Nat) (A6 : Option Addr) (q6 : Nat) : Prop where
  bw : w.heap.size ≤ b
  blk : wr.heap[b]? = some (.cells #[.slice A5 X.l.length q5, .slice A6 X.row.length q6, .int .i64 X.fuse, .bool X.down, .int .i64 X.done] 49 (0, 0))
  ps : PS w wr g D (.agg #[.slice A5 X.l.length q5, .slice A6 X.row.length q6, .int .i64 X.fuse, .bool X.down, .int .i64 X.done]) X (fun k => k = b)
theorem RunX.put {w w1 : World} {g b : Nat} {D X : DK} {A5 A6 : Option Addr} {q5 q6 : Nat} {B : Nat → Prop} {u0 u1 u2 u3 u4 : Value} (hw : w.heap.size ≤ b) (hb : w1.heap[b]? = some (.cells #[u0, u1, u2, u3, u4] 49 (0, 0))) (hB : B b) (h : PS w w1 g D (.agg #[.slice A5 X.l.length q5, .slice A6 X.row.length q6, .int .i64 X.fuse, .bool X.down, .int .i64 X.done]) X B) :
    RunX w (put5 w1 b (.slice A5 X.l.length q5) (.slice A6 X.row.length q6) (.int .i64 X.fuse) (.bool X.down) (.int .i64 X.done)) g b D X A5 q5 A6 q6 :=
  ⟨hw, put5_blk _ _ _ _ _ hb, (h.put5 hB hw _ _ _ _ _).weak (fun k hk => by subst hk; exact hB)⟩
theorem RunX.box {w w1 : World} {g : Nat} {D X : DK} {A5 A6 : Option Addr} {q5 q6 : Nat} {B : Nat → Prop} (h : PS w w1 g D (.agg #[.slice A5 X.l.length q5, .slice A6 X.row.length q6, .int .i64 X.fuse, .bool X.down, .int .i64 X.done]) X B) :
    RunX w (w1.alloc (.cells #[.slice A5 X.l.length q5, .slice A6 X.row.length q6, .int .i64 X.fuse, .bool X.down, .int .i64 X.done] 49)) g w1.heap.size D X A5 q5 A6 q6 :=
  ⟨h.md.size, blk_new w1 _, (h.box _).weak (fun k hk => .inr hk)⟩
set_option maxRecDepth 100000 in
set_option maxHeartbeats 4000000 in
theorem nils_walk (A : Option Addr) (c : Nat) (ops : List S25) (A' : Option Addr) (c' : Nat) (more : List S25) (o : S25) (KA : Option Addr) (kc : Nat) (w : World)
    (hr : Kd.C k25 w A ops.length ops) (hc : ops.length ≤ c) (hw : ∀ o ∈ ops, o.f2 ≤ 9223372036854775807) (hr' : Kd.C k25 w A' more.length more) (hc' : more.length ≤ c') (hw' : ∀ o ∈ more, o.f2 ≤ 9223372036854775807)
    (hk : Kd.C Kd.bool w KA o.f6.length o.f6) (hkc : o.f6.length ≤ kc) (ho : Op25 o) :
    Calls Try.prog 7 #[.slice A ops.length c, .slice A' more.length c', .agg #[.int .i64 o.f0, .int .i64 o.f1, .int .i64 o.f2, .int .i64 o.f3, .int .i64 o.f4, .int .u8 o.f5, .slice KA o.f6.length kc]] w fun e w' => e = .returned (.bool true) ∧ Mod [] w w' := by
  have hm0 := (Mod.refl [] w).alloc (.cells #[.int .i64 o.f0, .int .i64 o.f1, .int .i64 o.f2, .int .i64 o.f3, .int .i64 o.f4, .int .u8 o.f5, .slice KA o.f6.length kc] 25)
  have k0 := blk_new w (.cells #[.int .i64 o.f0, .int .i64 o.f1, .int .i64 o.f2, .int .i64 o.f3, .int .i64 o.f4, .int .u8 o.f5, .slice KA o.f6.length kc] 25)
  have HM0 := Lib.hid hm0
  have HK0 := Lib.hid k0
  have hb0 : w.heap.size < (w.alloc (.cells #[.int .i64 o.f0, .int .i64 o.f1, .int .i64 o.f2, .int .i64 o.f3, .int .i64 o.f4, .int .u8 o.f5, .slice KA o.f6.length kc] 25)).heap.size := blk_lt k0
  have HB0 := Lib.hid hb0
  clear ho
  clear hm0 k0 hb0
  go_enter Try.func7, Try.ntmps7
  go_wp2_with fail
  generalize w.alloc _ = w0 at *
  generalize w.heap.size = b5 at *
  have hl1 := light_any w0 A c ops (Kd.C_below hr HM0.out.below0) hc
  refine hl1.mono ?_
  rintro e w1 ⟨rfl, hm1⟩
  clear hl1
  have HM1 := Lib.hid (HM0.out.trans0 hm1)
  have HK1 := Lib.hid (hm1.blk HK0.out (by simp))
  have HB1 := Lib.hid (Nat.lt_of_lt_of_le HB0.out hm1.size)
  clear hm1 HM0 HK0 HB0
  cases hL : lightB ops
  · go_wp2_with fail
    refine (lives_any w1).mono ?_
    rintro e w2 ⟨rfl, hm⟩
    have HM := Lib.hid (HM1.out.trans0 hm)
    clear hm
    go_wp2
    go_ret
    exact ⟨rfl, HM.out⟩
  have h60 := light_len hL
  clear hL
  have hl2 := light_any w1 A' c' more (Kd.C_below hr' HM1.out.below0) hc'
  go_wp2_with fail
  refine hl2.mono ?_
  rintro e w2 ⟨rfl, hm2⟩
  clear hl2
  have HM2 := Lib.hid (HM1.out.trans0 hm2)
  have HK2 := Lib.hid (hm2.blk HK1.out (by simp))
  have HB2 := Lib.hid (Nat.lt_of_lt_of_le HB1.out hm2.size)
  clear hm2 HM1 HK1 HB1
  cases hL : lightB more
  · go_wp2_with fail
    refine (lives_any w2).mono ?_
    rintro e w3 ⟨rfl, hm⟩
    have HM := Lib.hid (HM2.out.trans0 hm)
    clear hm
    go_wp2
    go_ret
    exact ⟨rfl, HM.out⟩
  have h60' := light_len hL
  clear hL
  have z6 := (blk_cell HK2.out 6).trans rfl
  by_cases hk1 : 100 < o.f6.length
  · have hk2 : (100 : Int) < (o.f6.length : Int) := by omega
    go_wp2_with fail
    refine (lives_any w2).mono ?_
    rintro e w3 ⟨rfl, hm⟩
    have HM := Lib.hid (HM2.out.trans0 hm)
    clear hm
    go_wp2
    go_ret
    exact ⟨rfl, HM.out⟩
  have hk2 : ¬ (100 : Int) < (o.f6.length : Int) := by omega
  have HPL := Lib.hid (fun (wz : World) (hm : Mod [] w wz) => played_any A c ops wz (Kd.C_below hr hm.below0) hc hw h60)
  have HG := Lib.hid (run_good ops hw)
  have HL := Lib.hid (run_len4 ops)
  generalize runO ops (newD 4) = D at *
  have z1 := (blk_cell HK2.out 1).trans rfl
  have hrd := nil_read o.f1 w2
  go_wp2_with fail
  refine hrd.mono ?_
  rintro e w3 ⟨rfl, hm3⟩
  clear hrd z1 z6
  have HM3 := Lib.hid (HM2.out.trans0 hm3)
  have HK3 := Lib.hid (hm3.blk HK2.out (by simp))
  clear hm3 HM2 HK2 HB2
  have z2 := (blk_cell HK3.out 2).trans rfl
  have z3 := (blk_cell HK3.out 3).trans rfl
  have z6 := (blk_cell HK3.out 6).trans rfl
  go_wp2_with fail
  refine (nil_fuse o.f2 w3).mono ?_
  rintro e w4 ⟨⟨v4, rfl⟩, rfl⟩
  go_wp2_with fail
  refine (nil_fail (.slice KA o.f6.length kc) o.f3 o.f2 w3).mono ?_
  rintro e w4 ⟨⟨v5, rfl⟩, rfl⟩
  go_wp2_with fail
  refine (nil_start w3).mono ?_
  rintro e w4 ⟨⟨v6, rfl⟩, rfl⟩
  clear z2 z3 z6
  go_upto_region 8 with fail
  have z0 := (blk_cell HK3.out 0).trans rfl
  have z1 := (blk_cell HK3.out 1).trans rfl
  have z2 := (blk_cell HK3.out 2).trans rfl
  have z3 := (blk_cell HK3.out 3).trans rfl
  have z4 := (blk_cell HK3.out 4).trans rfl
  have z5 := (blk_cell HK3.out 5).trans rfl
  have z6 := (blk_cell HK3.out 6).trans rfl
  have HMD := Lib.hid (HM3.out.drew)
  have HKD := Lib.hid (show w3.drew.heap[b5]? = _ from HK3.out)
  have hs0 : wrap64 0 = 0 := by first | rfl | (simp [wrap64]; done) | (unfold wrap64; omega) | (unfold wrap64; simp; omega)
  refine start_ (n := 48) (S := fun w' => w'.cell? ⟨b5, 0, none⟩ = some (.int .i64 o.f0) ∧ w'.cell? ⟨b5, 1, none⟩ = some (.int .i64 o.f1) ∧ w'.cell? ⟨b5, 2, none⟩ = some (.int .i64 o.f2) ∧ w'.cell? ⟨b5, 3, none⟩ = some (.int .i64 o.f3) ∧ w'.cell? ⟨b5, 4, none⟩ = some (.int .i64 o.f4) ∧ w'.cell? ⟨b5, 5, none⟩ = some (.int .u8 o.f5) ∧ w'.cell? ⟨b5, 6, none⟩ = some (.slice KA o.f6.length kc)) (ds := []) #[false, false, false, false, false, false, false, false, false, false, false, false, false, false, false, false, false, false, false, false, false, false, false, false, false, false, false, false, false, false, false, false, false, false, false, false, false, false, false, false, false, false, false, false, false, false, false, false] (by kernel_rfl) rfl rfl ⟨z0, z1, z2, z3, z4, z5, z6⟩ (fun hHeld => ?_)
  refine pure_ (i := 0) (N := some 52) (v := ?_) (a' := ?_) #[true, false, false, false, false, false, false, false, false, false, false, false, false, false, false, false, false, false, false, false, false, false, false, false, false, false, false, false, false, false, false, false, false, false, false, false, false, false, false, false, false, false, false, false, false, false, false, false] rfl rfl (by kernel_rfl) (fun _ _ _ h => h) (Or.inl ⟨by rfl, ?_⟩) ?_ ?_
  rotate_left
  · intro w'
    go_simp
    with_reducible rfl
  rotate_left
  · simp only [Act.put, List.setIfInBounds_toArray, List.set_cons_zero, List.set_cons_succ, i64_w, i32_w]
    rfl
  refine pure_ (i := 1) (N := some 53) (v := ?_) (a' := ?_) #[true, true, false, false, false, false, false, false, false, false, false, false, false, false, false, false, false, false, false, false, false, false, false, false, false, false, false, false, false, false, false, false, false, false, false, false, false, false, false, false, false, false, false, false, false, false, false, false] rfl rfl (by kernel_rfl) (fun _ _ _ h => h) (Or.inl ⟨by rfl, ?_⟩) ?_ ?_
  rotate_left
  · intro w'
    go_simp
    with_reducible rfl
  rotate_left
  · simp only [Act.put, List.setIfInBounds_toArray, List.set_cons_zero, List.set_cons_succ, i64_w, i32_w]
    rfl
  refine pure_ (i := 2) (N := some 54) (v := ?_) (a' := ?_) #[true, true, true, false, false, false, false, false, false, false, false, false, false, false, false, false, false, false, false, false, false, false, false, false, false, false, false, false, false, false, false, false, false, false, false, false, false, false, false, false, false, false, false, false, false, false, false, false] rfl rfl (by kernel_rfl) (fun _ _ _ h => h) (Or.inl ⟨by rfl, ?_⟩) ?_ ?_
  rotate_left
  · intro w'
    go_simp
    with_reducible rfl
  rotate_left
  · simp only [Act.put, List.setIfInBounds_toArray, List.set_cons_zero, List.set_cons_succ, i64_w, i32_w]
    rfl
  refine pure_ (i := 3) (N := some 55) (v := ?_) (a' := ?_) #[true, true, true, true, false, false, false, false, false, false, false, false, false, false, false, false, false, false, false, false, false, false, false, false, false, false, false, false, false, false, false, false, false, false, false, false, false, false, false, false, false, false, false, false, false, false, false, false] rfl rfl (by kernel_rfl) (fun _ _ _ h => h) (Or.inl ⟨by rfl, ?_⟩) ?_ ?_
  rotate_left
  · intro w'
    go_simp
    with_reducible rfl
  rotate_left
  · simp only [Act.put, List.setIfInBounds_toArray, List.set_cons_zero, List.set_cons_succ, i64_w, i32_w]
    rfl
  refine pure_ (i := 4) (N := some 56) (v := ?_) (a' := ?_) #[true, true, true, true, true, false, false, false, false, false, false, false, false, false, false, false, false, false, false, false, false, false, false, false, false, false, false, false, false, false, false, false, false, false, false, false, false, false, false, false, false, false, false, false, false, false, false, false] rfl rfl (by kernel_rfl) (fun _ _ _ h => h) (Or.inl ⟨by rfl, ?_⟩) ?_ ?_
  rotate_left
  · intro w'
    go_simp
    with_reducible rfl
  rotate_left
  · simp only [Act.put, List.setIfInBounds_toArray, List.set_cons_zero, List.set_cons_succ, i64_w, i32_w]
    rfl
  refine pure_ (i := 5) (N := some 57) (v := ?_) (a' := ?_) #[true, true, true, true, true, true, false, false, false, false, false, false, false, false, false, false, false, false, false, false, false, false, false, false, false, false, false, false, false, false, false, false, false, false, false, false, false, false, false, false, false, false, false, false, false, false, false, false] rfl rfl (by kernel_rfl) (fun _ _ _ h => h) (Or.inl ⟨by rfl, ?_⟩) ?_ ?_
  rotate_left
  · intro w'
    go_simp
    with_reducible rfl
  rotate_left
  · simp only [Act.put, List.setIfInBounds_toArray, List.set_cons_zero, List.set_cons_succ, i64_w, i32_w]
    rfl
  refine pure_ (i := 6) (N := some 58) (v := ?_) (a' := ?_) #[true, true, true, true, true, true, true, false, false, false, false, false, false, false, false, false, false, false, false, false, false, false, false, false, false, false, false, false, false, false, false, false, false, false, false, false, false, false, false, false, false, false, false, false, false, false, false, false] rfl rfl (by kernel_rfl) (fun _ _ _ h => h) (Or.inl ⟨by rfl, ?_⟩) ?_ ?_
  rotate_left
  · intro w'
    go_simp
    with_reducible rfl
  rotate_left
  · simp only [Act.put, List.setIfInBounds_toArray, List.set_cons_zero, List.set_cons_succ, i64_w, i32_w]
    rfl
  refine pure_ (i := 7) (N := some 59) (v := ?_) (a' := ?_) #[true, true, true, true, true, true, true, true, false, false, false, false, false, false, false, false, false, false, false, false, false, false, false, false, false, false, false, false, false, false, false, false, false, false, false, false, false, false, false, false, false, false, false, false, false, false, false, false] rfl rfl (by kernel_rfl) (fun _ _ _ h => h) (Or.inl ⟨by rfl, ?_⟩) ?_ ?_
  rotate_left
  · intro w'
    go_simp
    with_reducible rfl
  rotate_left
  · simp only [Act.put, List.setIfInBounds_toArray, List.set_cons_zero, List.set_cons_succ, i64_w, i32_w]
    rfl
  refine pure_ (i := 8) (N := some 60) (v := ?_) (a' := ?_) #[true, true, true, true, true, true, true, true, true, false, false, false, false, false, false, false, false, false, false, false, false, false, false, false, false, false, false, false, false, false, false, false, false, false, false, false, false, false, false, false, false, false, false, false, false, false, false, false] rfl rfl (by kernel_rfl) (fun _ _ _ h => h) (Or.inl ⟨by rfl, ?_⟩) ?_ ?_
  rotate_left
  · intro w'
    go_simp
    with_reducible rfl
  rotate_left
  · simp only [Act.put, List.setIfInBounds_toArray, List.set_cons_zero, List.set_cons_succ, i64_w, i32_w]
    rfl
  refine take_ (i := 9) (N := some 61) (v := ?_) (a' := ?_) #[true, true, true, true, true, true, true, true, true, true, false, false, false, false, false, false, false, false, false, false, false, false, false, false, false, false, false, false, false, false, false, false, false, false, false, false, false, false, false, false, false, false, false, false, false, false, false, false] rfl rfl (by kernel_rfl) (fun _ _ _ h => h) (Or.inl ⟨by rfl, ?_⟩) hHeld ?_ ?_
  rotate_left
  · rintro w' ⟨s0, s1, s2, s3, s4, s5, s6⟩
    go_simp
    with_reducible rfl
  rotate_left
  · simp only [Act.put, List.setIfInBounds_toArray, List.set_cons_zero, List.set_cons_succ, i64_w, i32_w]
    rfl
  refine take_ (i := 10) (N := some 62) (v := ?_) (a' := ?_) #[true, true, true, true, true, true, true, true, true, true, true, false, false, false, false, false, false, false, false, false, false, false, false, false, false, false, false, false, false, false, false, false, false, false, false, false, false, false, false, false, false, false, false, false, false, false, false, false] rfl rfl (by kernel_rfl) (fun _ _ _ h => h) (Or.inl ⟨by rfl, ?_⟩) hHeld ?_ ?_
  rotate_left
  · rintro w' ⟨s0, s1, s2, s3, s4, s5, s6⟩
    go_simp
    with_reducible rfl
  rotate_left
  · simp only [Act.put, List.setIfInBounds_toArray, List.set_cons_zero, List.set_cons_succ, i64_w, i32_w]
    rfl
  refine one_ (i := 11) (N := some 63) #[true, true, true, true, true, true, true, true, true, true, true, true, false, false, false, false, false, false, false, false, false, false, false, false, false, false, false, false, false, false, false, false, false, false, false, false, false, false, false, false, false, false, false, false, false, false, false, false] rfl rfl (by kernel_rfl) (by decide) (fun K hK => ?_)
  refine goes_ Try.func15 (by kernel_rfl) rfl #[.agg #[.int .i64 o.f0, .int .i64 o.f1, .int .i64 o.f2, .int .i64 o.f3, .int .i64 o.f4, .int .u8 o.f5, .slice KA o.f6.length kc]] (by rfl) rfl rfl (by simp only [List.map_toArray, List.map_cons, List.map_nil]; rfl) ?_
  with_reducible refine (filled_any o.f0 o.f1 o.f2 o.f3 o.f4 o.f5 KA kc o.f6 _ (Kd.C_below hk HMD.out.below0) hkc).mono ?_
  rintro e w6 ⟨rfl, hm6⟩
  refine ⟨_, rfl, ?_⟩
  have HM6 := Lib.hid (HMD.out.trans0 hm6)
  have k6 := hm6.blk HKD.out (by simp)
  have HK6 := Lib.hid k6
  clear hm6
  refine hK.out _ _ ⟨(blk_cell k6 0).trans rfl, (blk_cell k6 1).trans rfl, (blk_cell k6 2).trans rfl, (blk_cell k6 3).trans rfl, (blk_cell k6 4).trans rfl, (blk_cell k6 5).trans rfl, (blk_cell k6 6).trans rfl⟩ (fun hHeld => ?_)
  clear hK K
  refine norm_ (a' := ?_) ?_ ?_
  rotate_left
  · show Act.put _ (some 63) _ = _
    simp only [Act.put, List.setIfInBounds_toArray, List.set_cons_zero, List.set_cons_succ, i64_w, i32_w]
    rfl
  refine one_ (i := 12) (N := some 64) #[true, true, true, true, true, true, true, true, true, true, true, true, true, false, false, false, false, false, false, false, false, false, false, false, false, false, false, false, false, false, false, false, false, false, false, false, false, false, false, false, false, false, false, false, false, false, false, false] rfl rfl (by kernel_rfl) (by decide) (fun K hK => ?_)
  refine goes_ Try.func14 (by kernel_rfl) rfl #[.pointer none, .int .i64 o.f1, .string (FIL o.f4 o.f5)] (by rfl) rfl rfl (by simp only [List.map_toArray, List.map_cons, List.map_nil]; rfl) ?_
  with_reducible refine (nil_write o.f1 (FIL o.f4 o.f5) w6).mono ?_
  rintro e w9 ⟨rfl, rfl⟩
  refine ⟨_, rfl, ?_⟩
  refine hK.out _ _ ⟨hHeld.1, hHeld.2.1, hHeld.2.2.1, hHeld.2.2.2.1, hHeld.2.2.2.2.1, hHeld.2.2.2.2.2.1, hHeld.2.2.2.2.2.2⟩ (fun hHeld => ?_)
  clear hK K
  refine norm_ (a' := ?_) ?_ ?_
  rotate_left
  · show Act.put _ (some 64) _ = _
    simp only [Act.put, List.setIfInBounds_toArray, List.set_cons_zero, List.set_cons_succ, i64_w, i32_w]
    rfl
  refine pure_ (i := 13) (N := some 65) (v := ?_) (a' := ?_) #[true, true, true, true, true, true, true, true, true, true, true, true, true, true, false, false, false, false, false, false, false, false, false, false, false, false, false, false, false, false, false, false, false, false, false, false, false, false, false, false, false, false, false, false, false, false, false, false] rfl rfl (by kernel_rfl) (fun _ _ _ h => h) (Or.inl ⟨by rfl, ?_⟩) ?_ ?_
  rotate_left
  · intro w'
    go_simp
    with_reducible rfl
  rotate_left
  · simp only [Act.put, List.setIfInBounds_toArray, List.set_cons_zero, List.set_cons_succ, i64_w, i32_w]
    rfl
  refine pure_ (i := 14) (N := some 66) (v := ?_) (a' := ?_) #[true, true, true, true, true, true, true, true, true, true, true, true, true, true, true, false, false, false, false, false, false, false, false, false, false, false, false, false, false, false, false, false, false, false, false, false, false, false, false, false, false, false, false, false, false, false, false, false] rfl rfl (by kernel_rfl) (fun _ _ _ h => h) (Or.inl ⟨by rfl, ?_⟩) ?_ ?_
  rotate_left
  · intro w'
    go_simp
    with_reducible rfl
  rotate_left
  · simp only [Act.put, List.setIfInBounds_toArray, List.set_cons_zero, List.set_cons_succ, i64_w, i32_w]
    rfl
  refine pure_ (i := 15) (N := some 67) (v := ?_) (a' := ?_) #[true, true, true, true, true, true, true, true, true, true, true, true, true, true, true, true, false, false, false, false, false, false, false, false, false, false, false, false, false, false, false, false, false, false, false, false, false, false, false, false, false, false, false, false, false, false, false, false] rfl rfl (by kernel_rfl) (fun _ _ _ h => h) (Or.inl ⟨by rfl, ?_⟩) ?_ ?_
  rotate_left
  · intro w'
    go_simp
    with_reducible rfl
  rotate_left
  · simp only [Act.put, List.setIfInBounds_toArray, List.set_cons_zero, List.set_cons_succ, i64_w, i32_w]
    rfl
  refine pure_ (i := 16) (N := some 68) (v := ?_) (a' := ?_) #[true, true, true, true, true, true, true, true, true, true, true, true, true, true, true, true, true, false, false, false, false, false, false, false, false, false, false, false, false, false, false, false, false, false, false, false, false, false, false, false, false, false, false, false, false, false, false, false] rfl rfl (by kernel_rfl) (fun _ _ _ h => h) (Or.inl ⟨by rfl, ?_⟩) ?_ ?_
  rotate_left
  · intro w'
    go_simp
    with_reducible rfl
  rotate_left
  · simp only [Act.put, List.setIfInBounds_toArray, List.set_cons_zero, List.set_cons_succ, i64_w, i32_w]
    rfl
  refine one_ (i := 17) (N := some 69) #[true, true, true, true, true, true, true, true, true, true, true, true, true, true, true, true, true, true, false, false, false, false, false, false, false, false, false, false, false, false, false, false, false, false, false, false, false, false, false, false, false, false, false, false, false, false, false, false] rfl rfl (by kernel_rfl) (by decide) (fun K hK => ?_)
  refine goes_ Try.func12 (by kernel_rfl) rfl #[.pointer none] (by rfl) rfl rfl (by simp only [List.map_toArray, List.map_cons, List.map_nil]; rfl) ?_
  with_reducible refine (nil_barrier w6).mono ?_
  rintro e w9 ⟨rfl, rfl⟩
  refine ⟨_, rfl, ?_⟩
  refine hK.out _ _ ⟨hHeld.1, hHeld.2.1, hHeld.2.2.1, hHeld.2.2.2.1, hHeld.2.2.2.2.1, hHeld.2.2.2.2.2.1, hHeld.2.2.2.2.2.2⟩ (fun hHeld => ?_)
  clear hK K
  refine norm_ (a' := ?_) ?_ ?_
  rotate_left
  · show Act.put _ (some 69) _ = _
    simp only [Act.put, List.setIfInBounds_toArray, List.set_cons_zero, List.set_cons_succ, i64_w, i32_w]
    rfl
  refine pure_ (i := 18) (N := some 70) (v := ?_) (a' := ?_) #[true, true, true, true, true, true, true, true, true, true, true, true, true, true, true, true, true, true, true, false, false, false, false, false, false, false, false, false, false, false, false, false, false, false, false, false, false, false, false, false, false, false, false, false, false, false, false, false] rfl rfl (by kernel_rfl) (fun _ _ _ h => h) (Or.inl ⟨by rfl, ?_⟩) ?_ ?_
  rotate_left
  · intro w'
    go_simp
    with_reducible rfl
  rotate_left
  · simp only [Act.put, List.setIfInBounds_toArray, List.set_cons_zero, List.set_cons_succ, i64_w, i32_w]
    rfl
  refine pure_ (i := 19) (N := some 71) (v := ?_) (a' := ?_) #[true, true, true, true, true, true, true, true, true, true, true, true, true, true, true, true, true, true, true, true, false, false, false, false, false, false, false, false, false, false, false, false, false, false, false, false, false, false, false, false, false, false, false, false, false, false, false, false] rfl rfl (by kernel_rfl) (fun _ _ _ h => h) (Or.inl ⟨by rfl, ?_⟩) ?_ ?_
  rotate_left
  · intro w'
    go_simp
    with_reducible rfl
  rotate_left
  · simp only [Act.put, List.setIfInBounds_toArray, List.set_cons_zero, List.set_cons_succ, i64_w, i32_w]
    rfl
  refine pure_ (i := 20) (N := some 72) (v := ?_) (a' := ?_) #[true, true, true, true, true, true, true, true, true, true, true, true, true, true, true, true, true, true, true, true, true, false, false, false, false, false, false, false, false, false, false, false, false, false, false, false, false, false, false, false, false, false, false, false, false, false, false, false] rfl rfl (by kernel_rfl) (fun _ _ _ h => h) (Or.inl ⟨by rfl, ?_⟩) ?_ ?_
  rotate_left
  · intro w'
    go_simp
    with_reducible rfl
  rotate_left
  · simp only [Act.put, List.setIfInBounds_toArray, List.set_cons_zero, List.set_cons_succ, i64_w, i32_w]
    rfl
  refine pure_ (i := 21) (N := some 73) (v := ?_) (a' := ?_) #[true, true, true, true, true, true, true, true, true, true, true, true, true, true, true, true, true, true, true, true, true, true, false, false, false, false, false, false, false, false, false, false, false, false, false, false, false, false, false, false, false, false, false, false, false, false, false, false] rfl rfl (by kernel_rfl) (fun _ _ _ h => h) (Or.inl ⟨by rfl, ?_⟩) ?_ ?_
  rotate_left
  · intro w'
    go_simp
    with_reducible rfl
  rotate_left
  · simp only [Act.put, List.setIfInBounds_toArray, List.set_cons_zero, List.set_cons_succ, i64_w, i32_w]
    rfl
  refine one_ (i := 22) (N := some 74) #[true, true, true, true, true, true, true, true, true, true, true, true, true, true, true, true, true, true, true, true, true, true, true, false, false, false, false, false, false, false, false, false, false, false, false, false, false, false, false, false, false, false, false, false, false, false, false, false] rfl rfl (by kernel_rfl) (by decide) (fun K hK => ?_)
  refine goes_ Try.func13 (by kernel_rfl) rfl #[.pointer none] (by rfl) rfl rfl (by simp only [List.map_toArray, List.map_cons, List.map_nil]; rfl) ?_
  with_reducible refine (nil_down w6).mono ?_
  rintro e w9 ⟨rfl, rfl⟩
  refine ⟨_, rfl, ?_⟩
  refine hK.out _ _ ⟨hHeld.1, hHeld.2.1, hHeld.2.2.1, hHeld.2.2.2.1, hHeld.2.2.2.2.1, hHeld.2.2.2.2.2.1, hHeld.2.2.2.2.2.2⟩ (fun hHeld => ?_)
  clear hK K
  refine norm_ (a' := ?_) ?_ ?_
  rotate_left
  · show Act.put _ (some 74) _ = _
    simp only [Act.put, List.setIfInBounds_toArray, List.set_cons_zero, List.set_cons_succ, i64_w, i32_w]
    rfl
  refine pure_ (i := 23) (N := some 75) (v := ?_) (a' := ?_) #[true, true, true, true, true, true, true, true, true, true, true, true, true, true, true, true, true, true, true, true, true, true, true, true, false, false, false, false, false, false, false, false, false, false, false, false, false, false, false, false, false, false, false, false, false, false, false, false] rfl rfl (by kernel_rfl) (fun _ _ _ h => h) (Or.inl ⟨by rfl, ?_⟩) ?_ ?_
  rotate_left
  · intro w'
    go_simp
    with_reducible rfl
  rotate_left
  · simp only [Act.put, List.setIfInBounds_toArray, List.set_cons_zero, List.set_cons_succ, i64_w, i32_w]
    rfl
  refine pure_ (i := 24) (N := some 76) (v := ?_) (a' := ?_) #[true, true, true, true, true, true, true, true, true, true, true, true, true, true, true, true, true, true, true, true, true, true, true, true, true, false, false, false, false, false, false, false, false, false, false, false, false, false, false, false, false, false, false, false, false, false, false, false] rfl rfl (by kernel_rfl) (fun _ _ _ h => h) (Or.inl ⟨by rfl, ?_⟩) ?_ ?_
  rotate_left
  · intro w'
    go_simp
    with_reducible rfl
  rotate_left
  · simp only [Act.put, List.setIfInBounds_toArray, List.set_cons_zero, List.set_cons_succ, i64_w, i32_w]
    rfl
  refine pure_ (i := 25) (N := some 77) (v := ?_) (a' := ?_) #[true, true, true, true, true, true, true, true, true, true, true, true, true, true, true, true, true, true, true, true, true, true, true, true, true, true, false, false, false, false, false, false, false, false, false, false, false, false, false, false, false, false, false, false, false, false, false, false] rfl rfl (by kernel_rfl) (fun _ _ _ h => h) (Or.inl ⟨by rfl, ?_⟩) ?_ ?_
  rotate_left
  · intro w'
    go_simp
    with_reducible rfl
  rotate_left
  · simp only [Act.put, List.setIfInBounds_toArray, List.set_cons_zero, List.set_cons_succ, i64_w, i32_w]
    rfl
  refine pure_ (i := 26) (N := some 78) (v := ?_) (a' := ?_) #[true, true, true, true, true, true, true, true, true, true, true, true, true, true, true, true, true, true, true, true, true, true, true, true, true, true, true, false, false, false, false, false, false, false, false, false, false, false, false, false, false, false, false, false, false, false, false, false] rfl rfl (by kernel_rfl) (fun _ _ _ h => h) (Or.inl ⟨by rfl, ?_⟩) ?_ ?_
  rotate_left
  · intro w'
    go_simp
    with_reducible rfl
  rotate_left
  · simp only [Act.put, List.setIfInBounds_toArray, List.set_cons_zero, List.set_cons_succ, i64_w, i32_w]
    rfl
  refine pure_ (i := 28) (N := some 80) (v := ?_) (a' := ?_) #[true, true, true, true, true, true, true, true, true, true, true, true, true, true, true, true, true, true, true, true, true, true, true, true, true, true, true, false, true, false, false, false, false, false, false, false, false, false, false, false, false, false, false, false, false, false, false, false] rfl rfl (by kernel_rfl) (fun _ _ _ h => h) (Or.inl ⟨by rfl, ?_⟩) ?_ ?_
  rotate_left
  · intro w'
    go_simp
    with_reducible rfl
  rotate_left
  · simp only [Act.put, List.setIfInBounds_toArray, List.set_cons_zero, List.set_cons_succ, i64_w, i32_w]
    rfl
  refine pure_ (i := 32) (N := some 84) (v := ?_) (a' := ?_) #[true, true, true, true, true, true, true, true, true, true, true, true, true, true, true, true, true, true, true, true, true, true, true, true, true, true, true, false, true, false, false, false, true, false, false, false, false, false, false, false, false, false, false, false, false, false, false, false] rfl rfl (by kernel_rfl) (fun _ _ _ h => h) (Or.inl ⟨by rfl, ?_⟩) ?_ ?_
  rotate_left
  · intro w'
    go_simp
    with_reducible rfl
  rotate_left
  · simp only [Act.put, List.setIfInBounds_toArray, List.set_cons_zero, List.set_cons_succ, i64_w, i32_w]
    rfl
  refine pure_ (i := 35) (N := some 87) (v := ?_) (a' := ?_) #[true, true, true, true, true, true, true, true, true, true, true, true, true, true, true, true, true, true, true, true, true, true, true, true, true, true, true, false, true, false, false, false, true, false, false, true, false, false, false, false, false, false, false, false, false, false, false, false] rfl rfl (by kernel_rfl) (fun _ _ _ h => h) (Or.inl ⟨by rfl, ?_⟩) ?_ ?_
  rotate_left
  · intro w'
    go_simp
    with_reducible rfl
  rotate_left
  · simp only [Act.put, List.setIfInBounds_toArray, List.set_cons_zero, List.set_cons_succ, i64_w, i32_w]
    rfl
  refine pure_ (i := 36) (N := some 88) (v := ?_) (a' := ?_) #[true, true, true, true, true, true, true, true, true, true, true, true, true, true, true, true, true, true, true, true, true, true, true, true, true, true, true, false, true, false, false, false, true, false, false, true, true, false, false, false, false, false, false, false, false, false, false, false] rfl rfl (by kernel_rfl) (fun _ _ _ h => h) (Or.inl ⟨by rfl, ?_⟩) ?_ ?_
  rotate_left
  · intro w'
    go_simp
    with_reducible rfl
  rotate_left
  · simp only [Act.put, List.setIfInBounds_toArray, List.set_cons_zero, List.set_cons_succ, i64_w, i32_w]
    rfl
  refine take_ (i := 37) (N := some 89) (v := ?_) (a' := ?_) #[true, true, true, true, true, true, true, true, true, true, true, true, true, true, true, true, true, true, true, true, true, true, true, true, true, true, true, false, true, false, false, false, true, false, false, true, true, true, false, false, false, false, false, false, false, false, false, false] rfl rfl (by kernel_rfl) (fun _ _ _ h => h) (Or.inl ⟨by rfl, ?_⟩) hHeld ?_ ?_
  rotate_left
  · rintro w' ⟨s0, s1, s2, s3, s4, s5, s6⟩
    go_simp
    with_reducible rfl
  rotate_left
  · simp only [Act.put, List.setIfInBounds_toArray, List.set_cons_zero, List.set_cons_succ, i64_w, i32_w]
    rfl
  refine one_ (i := 27) (N := some 79) #[true, true, true, true, true, true, true, true, true, true, true, true, true, true, true, true, true, true, true, true, true, true, true, true, true, true, true, true, true, false, false, false, true, false, false, true, true, true, false, false, false, false, false, false, false, false, false, false] rfl rfl (by kernel_rfl) (by decide) (fun K hK => ?_)
  refine goes_ Try.func21 (by kernel_rfl) rfl #[.pointer none] (by rfl) rfl rfl (by simp only [List.map_toArray, List.map_cons, List.map_nil]; rfl) ?_
  with_reducible refine (nil_sectors w6).mono ?_
  rintro e w9 ⟨rfl, rfl⟩
  refine ⟨_, rfl, ?_⟩
  refine hK.out _ _ ⟨hHeld.1, hHeld.2.1, hHeld.2.2.1, hHeld.2.2.2.1, hHeld.2.2.2.2.1, hHeld.2.2.2.2.2.1, hHeld.2.2.2.2.2.2⟩ (fun hHeld => ?_)
  clear hK K
  refine norm_ (a' := ?_) ?_ ?_
  rotate_left
  · show Act.put _ (some 79) _ = _
    simp only [Act.put, List.setIfInBounds_toArray, List.set_cons_zero, List.set_cons_succ, i64_w, i32_w]
    rfl
  refine one_ (i := 29) (N := some 81) #[true, true, true, true, true, true, true, true, true, true, true, true, true, true, true, true, true, true, true, true, true, true, true, true, true, true, true, true, true, true, false, false, true, false, false, true, true, true, false, false, false, false, false, false, false, false, false, false] rfl rfl (by kernel_rfl) (by decide) (fun K hK => ?_)
  refine goes_ Try.func25 (by kernel_rfl) rfl #[.pointer none] (by rfl) rfl rfl (by simp only [List.map_toArray, List.map_cons, List.map_nil]; rfl) ?_
  with_reducible refine (nil_waiting w6).mono ?_
  rintro e w9 ⟨rfl, rfl⟩
  refine ⟨_, rfl, ?_⟩
  refine hK.out _ _ ⟨hHeld.1, hHeld.2.1, hHeld.2.2.1, hHeld.2.2.2.1, hHeld.2.2.2.2.1, hHeld.2.2.2.2.2.1, hHeld.2.2.2.2.2.2⟩ (fun hHeld => ?_)
  clear hK K
  refine norm_ (a' := ?_) ?_ ?_
  rotate_left
  · show Act.put _ (some 81) _ = _
    simp only [Act.put, List.setIfInBounds_toArray, List.set_cons_zero, List.set_cons_succ, i64_w, i32_w]
    rfl
  refine pure_ (i := 30) (N := some 82) (v := ?_) (a' := ?_) #[true, true, true, true, true, true, true, true, true, true, true, true, true, true, true, true, true, true, true, true, true, true, true, true, true, true, true, true, true, true, true, false, true, false, false, true, true, true, false, false, false, false, false, false, false, false, false, false] rfl rfl (by kernel_rfl) (fun _ _ _ h => h) (Or.inl ⟨by rfl, ?_⟩) ?_ ?_
  rotate_left
  · intro w'
    go_simp
    with_reducible rfl
  rotate_left
  · simp only [Act.put, List.setIfInBounds_toArray, List.set_cons_zero, List.set_cons_succ, i64_w, i32_w]
    rfl
  refine pure_ (i := 31) (N := some 83) (v := ?_) (a' := ?_) #[true, true, true, true, true, true, true, true, true, true, true, true, true, true, true, true, true, true, true, true, true, true, true, true, true, true, true, true, true, true, true, true, true, false, false, true, true, true, false, false, false, false, false, false, false, false, false, false] rfl rfl (by kernel_rfl) (fun _ _ _ h => h) (Or.inl ⟨by rfl, ?_⟩) ?_ ?_
  rotate_left
  · intro w'
    go_simp
    with_reducible rfl
  rotate_left
  · simp only [Act.put, List.setIfInBounds_toArray, List.set_cons_zero, List.set_cons_succ, i64_w, i32_w]
    rfl
  refine one_ (i := 33) (N := some 85) #[true, true, true, true, true, true, true, true, true, true, true, true, true, true, true, true, true, true, true, true, true, true, true, true, true, true, true, true, true, true, true, true, true, true, false, true, true, true, false, false, false, false, false, false, false, false, false, false] rfl rfl (by kernel_rfl) (by decide) (fun K hK => ?_)
  refine goes_ Try.func20 (by kernel_rfl) rfl #[.pointer none] (by rfl) rfl rfl (by simp only [List.map_toArray, List.map_cons, List.map_nil]; rfl) ?_
  with_reducible refine (nil_done w6).mono ?_
  rintro e w9 ⟨rfl, rfl⟩
  refine ⟨_, rfl, ?_⟩
  refine hK.out _ _ ⟨hHeld.1, hHeld.2.1, hHeld.2.2.1, hHeld.2.2.2.1, hHeld.2.2.2.2.1, hHeld.2.2.2.2.2.1, hHeld.2.2.2.2.2.2⟩ (fun hHeld => ?_)
  clear hK K
  refine norm_ (a' := ?_) ?_ ?_
  rotate_left
  · show Act.put _ (some 85) _ = _
    simp only [Act.put, List.setIfInBounds_toArray, List.set_cons_zero, List.set_cons_succ, i64_w, i32_w]
    rfl
  refine pure_ (i := 34) (N := some 86) (v := ?_) (a' := ?_) #[true, true, true, true, true, true, true, true, true, true, true, true, true, true, true, true, true, true, true, true, true, true, true, true, true, true, true, true, true, true, true, true, true, true, true, true, true, true, false, false, false, false, false, false, false, false, false, false] rfl rfl (by kernel_rfl) (fun _ _ _ h => h) (Or.inl ⟨by rfl, ?_⟩) ?_ ?_
  rotate_left
  · intro w'
    go_simp
    with_reducible rfl
  rotate_left
  · simp only [Act.put, List.setIfInBounds_toArray, List.set_cons_zero, List.set_cons_succ, i64_w, i32_w]
    rfl
  refine one_ (i := 38) (N := some 90) #[true, true, true, true, true, true, true, true, true, true, true, true, true, true, true, true, true, true, true, true, true, true, true, true, true, true, true, true, true, true, true, true, true, true, true, true, true, true, true, false, false, false, false, false, false, false, false, false] rfl rfl (by kernel_rfl) (by decide) (fun K hK => ?_)
  refine goes_ Try.func27 (by kernel_rfl) rfl #[.pointer none, .int .i64 o.f1] (by rfl) rfl rfl (by simp only [List.map_toArray, List.map_cons, List.map_nil]; rfl) ?_
  with_reducible refine (nil_out o.f1 w6).mono ?_
  rintro e w9 ⟨rfl, rfl⟩
  refine ⟨_, rfl, ?_⟩
  refine hK.out _ _ ⟨hHeld.1, hHeld.2.1, hHeld.2.2.1, hHeld.2.2.2.1, hHeld.2.2.2.2.1, hHeld.2.2.2.2.2.1, hHeld.2.2.2.2.2.2⟩ (fun hHeld => ?_)
  clear hK K
  refine norm_ (a' := ?_) ?_ ?_
  rotate_left
  · show Act.put _ (some 90) _ = _
    simp only [Act.put, List.setIfInBounds_toArray, List.set_cons_zero, List.set_cons_succ, i64_w, i32_w]
    rfl
  refine pure_ (i := 39) (N := some 91) (v := ?_) (a' := ?_) #[true, true, true, true, true, true, true, true, true, true, true, true, true, true, true, true, true, true, true, true, true, true, true, true, true, true, true, true, true, true, true, true, true, true, true, true, true, true, true, true, false, false, false, false, false, false, false, false] rfl rfl (by kernel_rfl) (fun _ _ _ h => h) (Or.inl ⟨by rfl, ?_⟩) ?_ ?_
  rotate_left
  · intro w'
    go_simp
    with_reducible rfl
  rotate_left
  · simp only [Act.put, List.setIfInBounds_toArray, List.set_cons_zero, List.set_cons_succ, i64_w, i32_w]
    rfl
  refine pure_ (i := 40) (N := some 92) (v := ?_) (a' := ?_) #[true, true, true, true, true, true, true, true, true, true, true, true, true, true, true, true, true, true, true, true, true, true, true, true, true, true, true, true, true, true, true, true, true, true, true, true, true, true, true, true, true, false, false, false, false, false, false, false] rfl rfl (by kernel_rfl) (fun _ _ _ h => h) (Or.inl ⟨by rfl, ?_⟩) ?_ ?_
  rotate_left
  · intro w'
    go_simp
    with_reducible rfl
  rotate_left
  · simp only [Act.put, List.setIfInBounds_toArray, List.set_cons_zero, List.set_cons_succ, i64_w, i32_w]
    rfl
  refine pure_ (i := 41) (N := some 93) (v := ?_) (a' := ?_) #[true, true, true, true, true, true, true, true, true, true, true, true, true, true, true, true, true, true, true, true, true, true, true, true, true, true, true, true, true, true, true, true, true, true, true, true, true, true, true, true, true, true, false, false, false, false, false, false] rfl rfl (by kernel_rfl) (fun _ _ _ h => h) (Or.inl ⟨by rfl, ?_⟩) ?_ ?_
  rotate_left
  · intro w'
    go_simp
    with_reducible rfl
  rotate_left
  · simp only [Act.put, List.setIfInBounds_toArray, List.set_cons_zero, List.set_cons_succ, i64_w, i32_w]
    rfl
  refine pure_ (i := 42) (N := some 94) (v := ?_) (a' := ?_) #[true, true, true, true, true, true, true, true, true, true, true, true, true, true, true, true, true, true, true, true, true, true, true, true, true, true, true, true, true, true, true, true, true, true, true, true, true, true, true, true, true, true, true, false, false, false, false, false] rfl rfl (by kernel_rfl) (fun _ _ _ h => h) (Or.inl ⟨by rfl, ?_⟩) ?_ ?_
  rotate_left
  · intro w'
    go_simp
    with_reducible rfl
  rotate_left
  · simp only [Act.put, List.setIfInBounds_toArray, List.set_cons_zero, List.set_cons_succ, i64_w, i32_w]
    rfl
  refine pure_ (i := 43) (N := some 95) (v := ?_) (a' := ?_) #[true, true, true, true, true, true, true, true, true, true, true, true, true, true, true, true, true, true, true, true, true, true, true, true, true, true, true, true, true, true, true, true, true, true, true, true, true, true, true, true, true, true, true, true, false, false, false, false] rfl rfl (by kernel_rfl) (fun _ _ _ h => h) (Or.inl ⟨by rfl, ?_⟩) ?_ ?_
  rotate_left
  · intro w'
    go_simp
    with_reducible rfl
  rotate_left
  · simp only [Act.put, List.setIfInBounds_toArray, List.set_cons_zero, List.set_cons_succ, i64_w, i32_w]
    rfl
  refine pure_ (i := 44) (N := some 96) (v := ?_) (a' := ?_) #[true, true, true, true, true, true, true, true, true, true, true, true, true, true, true, true, true, true, true, true, true, true, true, true, true, true, true, true, true, true, true, true, true, true, true, true, true, true, true, true, true, true, true, true, true, false, false, false] rfl rfl (by kernel_rfl) (fun _ _ _ h => h) (Or.inl ⟨by rfl, ?_⟩) ?_ ?_
  rotate_left
  · intro w'
    go_simp
    with_reducible rfl
  rotate_left
  · simp only [Act.put, List.setIfInBounds_toArray, List.set_cons_zero, List.set_cons_succ, i64_w, i32_w]
    rfl
  refine one_ (i := 45) (N := some 97) #[true, true, true, true, true, true, true, true, true, true, true, true, true, true, true, true, true, true, true, true, true, true, true, true, true, true, true, true, true, true, true, true, true, true, true, true, true, true, true, true, true, true, true, true, true, true, false, false] rfl rfl (by kernel_rfl) (by decide) (fun K hK => ?_)
  refine goes_ Try.func26 (by kernel_rfl) rfl #[.pointer none] (by rfl) rfl rfl (by simp only [List.map_toArray, List.map_cons, List.map_nil]; rfl) ?_
  with_reducible refine (clone_nil w6).mono ?_
  rintro e w9 ⟨rfl, rfl⟩
  refine ⟨_, rfl, ?_⟩
  refine hK.out _ _ ⟨hHeld.1, hHeld.2.1, hHeld.2.2.1, hHeld.2.2.2.1, hHeld.2.2.2.2.1, hHeld.2.2.2.2.2.1, hHeld.2.2.2.2.2.2⟩ (fun hHeld => ?_)
  clear hK K
  refine norm_ (a' := ?_) ?_ ?_
  rotate_left
  · show Act.put _ (some 97) _ = _
    simp only [Act.put, List.setIfInBounds_toArray, List.set_cons_zero, List.set_cons_succ, i64_w, i32_w]
    rfl
  refine pure_ (i := 46) (N := some 98) (v := ?_) (a' := ?_) #[true, true, true, true, true, true, true, true, true, true, true, true, true, true, true, true, true, true, true, true, true, true, true, true, true, true, true, true, true, true, true, true, true, true, true, true, true, true, true, true, true, true, true, true, true, true, true, false] rfl rfl (by kernel_rfl) (fun _ _ _ h => h) (Or.inl ⟨by rfl, ?_⟩) ?_ ?_
  rotate_left
  · intro w'
    go_simp
    with_reducible rfl
  rotate_left
  · simp only [Act.put, List.setIfInBounds_toArray, List.set_cons_zero, List.set_cons_succ, i64_w, i32_w]
    rfl
  refine pure_ (i := 47) (N := some 99) (v := ?_) (a' := ?_) #[true, true, true, true, true, true, true, true, true, true, true, true, true, true, true, true, true, true, true, true, true, true, true, true, true, true, true, true, true, true, true, true, true, true, true, true, true, true, true, true, true, true, true, true, true, true, true, true] rfl rfl (by kernel_rfl) (fun _ _ _ h => h) (Or.inl ⟨by rfl, ?_⟩) ?_ ?_
  rotate_left
  · intro w'
    go_simp
    with_reducible rfl
  rotate_left
  · simp only [Act.put, List.setIfInBounds_toArray, List.set_cons_zero, List.set_cons_succ, i64_w, i32_w]
    rfl
  refine done_ (by kernel_rfl) ?_
  clear hs0 z0 z1 z2 z3 z4 z5 z6 hHeld HKD HK3 HK6
  have hpl := HPL.out w6 HM6.out
  go_wp2_with fail
  refine hpl.mono ?_
  rintro e w7 ⟨g, rfl, hS7⟩
  clear hpl
  obtain ⟨fp, hm7, hfp7, hD7⟩ := hS7
  have HM7 := Lib.hid (HM6.out.trans0 hm7)
  have HD7 := Lib.hid hD7
  clear hm7 hfp7 hD7 HM6
  have hl4 := HL.out
  have hrl := (HG.out.bnd (by omega)).rl
  have hcl := clone_any w7 fp g D HD7.out (by omega) (by omega)
  go_wp2_with fail
  refine hcl.mono ?_
  rintro e w8 ⟨gc, fc, rfl, hm8, hfc8, hDc8⟩
  clear hcl
  have HS8 := Lib.hid (show St w7 w8 gc D from ⟨fc, hm8, hfc8, hDc8⟩)
  clear hm8 hfc8 hDc8
  have hnw := pair_new 4 (by omega) (by omega) HS8.out
  go_wp2_with fail
  refine hnw.mono ?_
  rintro e w9 ⟨A5, q5, A6, q6, rfl, h9⟩
  clear hnw
  have HR10 := Lib.hid (RunX.box h9)
  have HRM := Lib.hid (fun (wz : World) (hm : Mod [] w7 wz) => Kd.C_below hr' (HM7.out.trans0 hm).below0)
  have HGX := Lib.hid (show Good (newD 4) (0 + ops.length) from good_le (Good.new 4 (by omega) (by omega)) ops.length)
  rw [Nat.zero_add] at HGX
  clear h9 HS8
  go_wp2_with fail
  generalize newD 4 = X0 at *
  generalize w9.alloc _ = w10 at *
  generalize w9.heap.size = b12 at *
  go_loopw [13] (fun iv wr => ∃ (i : Nat) (D2 X : DK) (A5 : Option Addr) (q5 : Nat) (A6 : Option Addr) (q6 : Nat), iv = .int .i64 (i : Int) ∧ i ≤ more.length ∧ Good D2 (ops.length + i) ∧ Good X (ops.length + i) ∧ RunX w7 wr gc b12 D2 X A5 q5 A6 q6) (fun iv _ => more.length - (intOf iv).toNat)
  case atStart => exact ⟨0, D, X0, A5, q5, A6, q6, rfl, Nat.zero_le _, HG.out, HGX.out, HR10.out⟩
  clear HR10 HGX
  case round =>
    obtain ⟨i, D2, X, A5, q5, A6, q6, rfl, hi, hGD, hGX, hI⟩ := hrel
    by_cases hlt : i < more.length
    · have hi0 : (0 : Int) ≤ (i : Int) := by omega
      have hlt2 : (i : Int) < (more.length : Int) := by omega
      obtain ⟨ad, PA, pc, rfl, e0, e1, e2, e3, e4, e5, e6, hpc, hpk⟩ := at_T25 (HRM.out w7 (Mod.refl [] w7)) (i : Int) hi0 hlt2
      rw [Int.toNat_natCast] at e0 e1 e2 e3 e4 e5 e6
      have hrd : rd_T25 more (i : Int) = more[i] := by simp [rd_T25, List.getD_eq_getElem?_getD, hlt]
      have HWP := Lib.hid (hw' more[i] (List.getElem_mem hlt))
      rw [hrd] at e0 e1 e2 e3 e4 e5 e6 hpc hpk
      have HGD := Lib.hid hGD
      have HGX := Lib.hid hGX
      have HI60 := Lib.hid (show ops.length + i ≤ 900 by omega)
      generalize more[i] = p at *
      have HGD' := Lib.hid (hGD.step p HWP.out)
      have HGX' := Lib.hid (hGX.step p HWP.out)
      clear hGD hGX
      have HX := Lib.hid (hI.ps.mod (Mod.refl [] wr).drew).1
      have HJ := Lib.hid hI.blk
      have HBW := Lib.hid hI.bw
      have y0 := (blk_cell hI.blk 0).trans rfl
      have y1 := (blk_cell hI.blk 1).trans rfl
      have y2 := (blk_cell hI.blk 2).trans rfl
      have y3 := (blk_cell hI.blk 3).trans rfl
      have y4 := (blk_cell hI.blk 4).trans rfl
      have z0 := hI.ps.md.cell e0 (by simp)
      have z1 := hI.ps.md.cell e1 (by simp)
      have z2 := hI.ps.md.cell e2 (by simp)
      have z3 := hI.ps.md.cell e3 (by simp)
      have z4 := hI.ps.md.cell e4 (by simp)
      have z5 := hI.ps.md.cell e5 (by simp)
      have z6 := hI.ps.md.cell e6 (by simp)
      clear hI hrd
      go_upto_region 18 with fail
      refine start_ (n := 11) (S := fun w' => w'.cell? ⟨b12, 0, none⟩ = some (.slice A5 X.l.length q5) ∧ w'.cell? ⟨b12, 1, none⟩ = some (.slice A6 X.row.length q6) ∧ w'.cell? ⟨b12, 2, none⟩ = some (.int .i64 X.fuse) ∧ w'.cell? ⟨b12, 3, none⟩ = some (.bool X.down) ∧ w'.cell? ⟨b12, 4, none⟩ = some (.int .i64 X.done) ∧ w'.cell? (ad.add (i * 7)) = some (.int .i64 p.f0) ∧ w'.cell? ⟨(ad.add (i * 7)).block, (ad.add (i * 7)).off + 1, none⟩ = some (.int .i64 p.f1) ∧ w'.cell? ⟨(ad.add (i * 7)).block, (ad.add (i * 7)).off + 2, none⟩ = some (.int .i64 p.f2) ∧ w'.cell? ⟨(ad.add (i * 7)).block, (ad.add (i * 7)).off + 3, none⟩ = some (.int .i64 p.f3) ∧ w'.cell? ⟨(ad.add (i * 7)).block, (ad.add (i * 7)).off + 4, none⟩ = some (.int .i64 p.f4) ∧ w'.cell? ⟨(ad.add (i * 7)).block, (ad.add (i * 7)).off + 5, none⟩ = some (.int .u8 p.f5) ∧ w'.cell? ⟨(ad.add (i * 7)).block, (ad.add (i * 7)).off + 6, none⟩ = some (.slice PA p.f6.length pc)) (ds := [10]) #[false, false, false, false, false, false, false, false, false, false, false] (by kernel_rfl) rfl rfl ⟨y0, y1, y2, y3, y4, z0, z1, z2, z3, z4, z5, z6⟩ (fun hHeld => ?_)
      refine pure_ (i := 0) (N := some 114) (v := ?_) (a' := ?_) #[true, false, false, false, false, false, false, false, false, false, false] rfl rfl (by kernel_rfl) (fun _ _ _ h => h) (Or.inl ⟨by rfl, ?_⟩) ?_ ?_
      rotate_left
      · intro w'
        go_simp
        with_reducible rfl
      rotate_left
      · simp only [Act.put, List.setIfInBounds_toArray, List.set_cons_zero, List.set_cons_succ, i64_w, i32_w]
        rfl
      refine pure_ (i := 2) (N := some 116) (v := ?_) (a' := ?_) #[true, false, true, false, false, false, false, false, false, false, false] rfl rfl (by kernel_rfl) (fun _ _ _ h => h) (Or.inl ⟨by rfl, ?_⟩) ?_ ?_
      rotate_left
      · intro w'
        go_simp
        with_reducible rfl
      rotate_left
      · simp only [Act.put, List.setIfInBounds_toArray, List.set_cons_zero, List.set_cons_succ, i64_w, i32_w]
        rfl
      refine pure_ (i := 3) (N := some 117) (v := ?_) (a' := ?_) #[true, false, true, true, false, false, false, false, false, false, false] rfl rfl (by kernel_rfl) (fun _ _ _ h => h) (Or.inl ⟨by rfl, ?_⟩) ?_ ?_
      rotate_left
      · intro w'
        go_simp
        with_reducible rfl
      rotate_left
      · simp only [Act.put, List.setIfInBounds_toArray, List.set_cons_zero, List.set_cons_succ, i64_w, i32_w]
        rfl
      refine pure_ (i := 4) (N := some 118) (v := ?_) (a' := ?_) #[true, false, true, true, true, false, false, false, false, false, false] rfl rfl (by kernel_rfl) (fun _ _ _ h => h) (Or.inl ⟨by rfl, ?_⟩) ?_ ?_
      rotate_left
      · intro w'
        go_simp
        with_reducible rfl
      rotate_left
      · simp only [Act.put, List.setIfInBounds_toArray, List.set_cons_zero, List.set_cons_succ, i64_w, i32_w]
        rfl
      refine take_ (i := 1) (N := some 115) (v := ?_) (a' := ?_) #[true, true, true, true, true, false, false, false, false, false, false] rfl rfl (by kernel_rfl) (fun _ _ _ h => h) (Or.inl ⟨by rfl, ?_⟩) hHeld ?_ ?_
      rotate_left
      · rintro w' ⟨s0, s1, s2, s3, s4, s5, s6, s7, s8, s9, s10, s11⟩
        go_simp
        with_reducible rfl
      rotate_left
      · simp only [Act.put, List.setIfInBounds_toArray, List.set_cons_zero, List.set_cons_succ, i64_w, i32_w]
        rfl
      refine take_ (i := 5) (N := some 119) (v := ?_) (a' := ?_) #[true, true, true, true, true, true, false, false, false, false, false] rfl rfl (by kernel_rfl) (fun _ _ _ h => h) (Or.inl ⟨by rfl, ?_⟩) hHeld ?_ ?_
      rotate_left
      · rintro w' ⟨s0, s1, s2, s3, s4, s5, s6, s7, s8, s9, s10, s11⟩
        go_simp
        with_reducible rfl
      rotate_left
      · simp only [Act.put, List.setIfInBounds_toArray, List.set_cons_zero, List.set_cons_succ, i64_w, i32_w]
        rfl
      refine one_ (i := 6) (N := some 120) #[true, true, true, true, true, true, true, false, false, false, false] rfl rfl (by kernel_rfl) (by decide) (fun K hK => ?_)
      refine goes_ Try.func23 (by kernel_rfl) rfl #[.pointer (some ⟨gc, 0, none⟩), .agg #[.slice A5 X.l.length q5, .slice A6 X.row.length q6, .int .i64 X.fuse, .bool X.down, .int .i64 X.done], .agg #[.int .i64 p.f0, .int .i64 p.f1, .int .i64 p.f2, .int .i64 p.f3, .int .i64 p.f4, .int .u8 p.f5, .slice PA p.f6.length pc]] (by rfl) rfl rfl (by simp only [List.map_toArray, List.map_cons, List.map_nil]; rfl) ?_
      with_reducible refine (stepx_any HX.out HGD.out HGX.out HI60.out p PA pc hpk hpc).mono ?_
      rintro e w6 ⟨x6, tt, rfl, h6, p6⟩
      refine ⟨_, rfl, ?_⟩
      obtain ⟨A7, q7, A8, q8, rfl⟩ := h6.form
      generalize stepO p D2 = D3 at *
      generalize stepO p X = X3 at *
      have H6 := Lib.hid h6
      have j6 := p6.blk (show wr.drew.heap[b12]? = some _ from HJ.out) rfl
      have m6 := h6.md
      have t0 := (blk_cell j6 0).trans rfl
      have t1 := (blk_cell j6 1).trans rfl
      have t2 := (blk_cell j6 2).trans rfl
      have t3 := (blk_cell j6 3).trans rfl
      have t4 := (blk_cell j6 4).trans rfl
      have g0 := blk_frozen j6 0
      have g1 := blk_frozen j6 1
      have g2 := blk_frozen j6 2
      have g3 := blk_frozen j6 3
      have g4 := blk_frozen j6 4
      have J6 := Lib.hid j6
      clear h6 p6
      refine hK.out _ _ ⟨t0, t1, t2, t3, t4, m6.cell e0 (by simp), m6.cell e1 (by simp), m6.cell e2 (by simp), m6.cell e3 (by simp), m6.cell e4 (by simp), m6.cell e5 (by simp), m6.cell e6 (by simp)⟩ (fun hHeld => ?_)
      clear hK K
      refine norm_ (a' := ?_) ?_ ?_
      rotate_left
      · show Act.put _ (some 120) _ = _
        simp only [Act.put, List.setIfInBounds_toArray, List.set_cons_zero, List.set_cons_succ, i64_w, i32_w]
        rfl
      refine pure_ (i := 7) (N := some 113) (v := ?_) (a' := ?_) #[true, true, true, true, true, true, true, true, false, false, false] rfl rfl (by kernel_rfl) (fun _ _ _ h => h) (Or.inl ⟨by rfl, ?_⟩) ?_ ?_
      rotate_left
      · intro w'
        go_simp
        with_reducible rfl
      rotate_left
      · simp only [Act.put, List.setIfInBounds_toArray, List.set_cons_zero, List.set_cons_succ, i64_w, i32_w]
        rfl
      refine pure_ (i := 8) (N := some 121) (v := ?_) (a' := ?_) #[true, true, true, true, true, true, true, true, true, false, false] rfl rfl (by kernel_rfl) (fun _ _ _ h => h) (Or.inl ⟨by rfl, ?_⟩) ?_ ?_
      rotate_left
      · intro w'
        go_simp
        with_reducible rfl
      rotate_left
      · simp only [Act.put, List.setIfInBounds_toArray, List.set_cons_zero, List.set_cons_succ, i64_w, i32_w]
        rfl
      refine pure_ (i := 9) (N := some 122) (v := ?_) (a' := ?_) #[true, true, true, true, true, true, true, true, true, true, false] rfl rfl (by kernel_rfl) (fun _ _ _ h => h) (Or.inl ⟨by rfl, ?_⟩) ?_ ?_
      rotate_left
      · intro w'
        go_simp
        with_reducible rfl
      rotate_left
      · simp only [Act.put, List.setIfInBounds_toArray, List.set_cons_zero, List.set_cons_succ, i64_w, i32_w]
        rfl
      refine last_ (i := 10) (N := none) #[true, true, true, true, true, true, true, true, true, true, true] rfl rfl (by kernel_rfl) (by decide) (fun K hK => ?_)
      refine skip_ (w1 := ?_) (by rfl) rfl ?_ ?_
      rotate_left
      · go_simp
        rfl
      refine hK.out _ _ ?_
      clear hK K
      refine done_ (by kernel_rfl) ?_
      have HR7 : Hid (RunX w7 ((((((w6.setCell ⟨b12, 0, none⟩ (.slice A7 X3.l.length q7)).setCell ⟨b12, 1, none⟩ (.slice A8 X3.row.length q8)).setCell ⟨b12, 2, none⟩ (.int .i64 X3.fuse)).setCell ⟨b12, 3, none⟩ (.bool X3.down)).setCell ⟨b12, 4, none⟩ (.int .i64 X3.done))) gc b12 D3 X3 A7 q7 A8 q8) := Lib.hid (RunX.put (B := fun k => k = b12) HBW.out J6.out rfl H6.out)
      generalize (((((w6.setCell ⟨b12, 0, none⟩ (.slice A7 X3.l.length q7)).setCell ⟨b12, 1, none⟩ (.slice A8 X3.row.length q8)).setCell ⟨b12, 2, none⟩ (.int .i64 X3.fuse)).setCell ⟨b12, 3, none⟩ (.bool X3.down)).setCell ⟨b12, 4, none⟩ (.int .i64 X3.done)) = w11 at *
      clear t0 t1 t2 t3 t4 g0 g1 g2 g3 g4 y0 y1 y2 y3 y4 z0 z1 z2 z3 z4 z5 z6 hHeld
      go_wp2
      refine ⟨⟨i + 1, D3, X3, A7, q7, A8, q8, by go_num, by omega, HGD'.out, HGX'.out, HR7.out⟩, ?_⟩
      simp [intOf]; omega
    · obtain rfl : i = more.length := by omega
      have hlt2 : ¬ (more.length : Int) < (more.length : Int) := by omega
      have HM11 := Lib.hid hI.ps.md
      clear hI hGD hGX
      have hpl := HPL.out wr (HM7.out.trans0 HM11.out)
      go_wp2_with fail
      refine hpl.mono ?_
      rintro e w12 ⟨g2, rfl, fq, hm12, hfq, hDq⟩
      clear hpl
      have HD := Lib.hid (HD7.out.mod (HM11.out.trans0 hm12))
      have HDQ := Lib.hid hDq
      have HM12 := Lib.hid ((HM7.out.trans0 HM11.out).trans0 hm12)
      clear hm12 hfq hDq
      go_wp2_with fail
      go_loopw [15] (fun iv wr => ∃ j : Nat, iv = .int .i64 (j : Int) ∧ j ≤ 4 ∧ Mod [] w12 wr) (fun iv _ => 4 - (intOf iv).toNat)
      case atStart => exact ⟨0, rfl, Nat.zero_le _, Mod.refl _ _⟩
      case round =>
        obtain ⟨j, rfl, hj, hm⟩ := hrel
        have HMR := Lib.hid hm
        clear hm
        by_cases hlt : j < 4
        · have hlt3 : (j : Int) < 4 := by omega
          have hj0 : (0 : Int) ≤ (j : Int) := by omega
          have ho1 := out_any wr fp g D j (HD.out.mod HMR.out) (by omega)
          have ho2 := out_any wr fq g2 D j (HDQ.out.mod HMR.out) (by omega)
          generalize rdOf ByteArray.empty D.l (j : Int) = sj at *
          go_wp2_with fail
          refine ho1.mono ?_
          rintro e w13 ⟨rfl, rfl⟩
          clear ho1
          go_wp2_with fail
          refine ho2.mono ?_
          rintro e w13 ⟨rfl, rfl⟩
          clear ho2
          go_wp2
          refine ⟨⟨j + 1, by go_num, by omega, HMR.out⟩, ?_⟩
          simp [intOf]; omega
        · obtain rfl : j = 4 := by omega
          have hlt3 : ¬ (4 : Int) < 4 := by omega
          have hd1 := down_any wr fp g D (HD.out.mod HMR.out)
          have hd2 := down_any wr fq g2 D (HDQ.out.mod HMR.out)
          have hn1 := waiting_any wr fp g D (HD.out.mod HMR.out) (by omega)
          have HDR := Lib.hid (HD.out.mod HMR.out)
          have HDQR := Lib.hid (HDQ.out.mod HMR.out)
          have HMT := Lib.hid (HM12.out.trans0 HMR.out)
          go_wp2_with fail
          refine hd1.mono ?_
          rintro e w13 ⟨rfl, rfl⟩
          clear hd1
          go_wp2_with fail
          refine hd2.mono ?_
          rintro e w13 ⟨rfl, rfl⟩
          clear hd2
          go_wp2_with fail
          refine hn1.mono ?_
          rintro e w13 ⟨A8, c8, rfl, _, hm13, _⟩
          clear hn1
          have hn2 := waiting_any w13 fq g2 D (HDQR.out.mod hm13) (by omega)
          have HM13 := Lib.hid hm13
          clear hm13
          go_wp2_with fail
          refine hn2.mono ?_
          rintro e w14 ⟨A9, c9, rfl, _, hm14, _⟩
          clear hn2
          have hdo1 := done_any w14 fp g D ((HDR.out.mod HM13.out).mod hm14)
          have hdo2 := done_any w14 fq g2 D ((HDQR.out.mod HM13.out).mod hm14)
          have HM14 := Lib.hid ((HMT.out.trans0 HM13.out).trans0 hm14)
          clear hm14
          go_wp2_with fail
          refine hdo1.mono ?_
          rintro e w15 ⟨rfl, rfl⟩
          clear hdo1
          go_wp2_with fail
          refine hdo2.mono ?_
          rintro e w15 ⟨rfl, rfl⟩
          clear hdo2
          go_wp2_with fail
          refine (lives_any w14).mono ?_
          rintro e w15 ⟨rfl, hm⟩
          have HMZ := Lib.hid (HM14.out.trans0 hm)
          clear hm
          go_wp2
          go_ret
          exact ⟨rfl, HMZ.out⟩
theorem nils_law {H : Type} {enc : TypeId × Value → H} (v0 : Value) (D0 : DataW H) (p0 : List MemPlace) (v1 : Value) (D1 : DataW H) (p1 : List MemPlace) (v2 : Value) (D2 : DataW H) (p2 : List MemPlace) (w : World)
    (o0 : Value.okWide Try.prog w .any 0 22 v0) (h0 : DataW.Trod enc Try.prog w 0 (fun _ => true) true 22 v0 D0 p0)
    (o1 : Value.okWide Try.prog w .any 0 22 v1) (h1 : DataW.Trod enc Try.prog w 0 (fun _ => true) true 22 v1 D1 p1)
    (o2 : Value.okWide Try.prog w .any 0 25 v2) (h2 : DataW.Trod enc Try.prog w 0 (fun _ => true) true 25 v2 D2 p2) :
    Calls Try.prog 7 #[v0, v1, v2] w fun e w' => e = .returned (.bool true) ∧ Mod [] w w' := by
  obtain ⟨A, c, ops, rfl, hc, hr, hw⟩ := ops_open o0 h0
  obtain ⟨A', c', more, rfl, hc', hr', hw'⟩ := ops_open o1 h1
  obtain ⟨o, KA, kc, rfl, hkc, hk, ho⟩ := one_open o2 h2
  exact nils_walk A c ops A' c' more o KA kc w hr hc (fun o ho => (hw o ho).1.2) hr' hc' (fun o ho => (hw' o ho).1.2) hk hkc ho
end Go.Proofs.Ytcohfbmfmlmblaa
