/- The reference's number as an int; is an answer that number. -/
import Derived.Test.YtijhlofmangpgaaFixGcd
set_option linter.unusedVariables false
set_option linter.unusedSimpArgs false
namespace Go.Proofs.Ytijhlofmangpgaa
open Go.RowKit Go.Proofs.YtijhlofmangpgaaW.PrintWords Go.Proofs.Ytijhlofmangpgaa.Dig
theorem field_1 (x y : Value) (w : World) : (Instr.field 27 (.agg #[x, y]) 1).run Try.prog w = .ok y w := by rfl
def Fit2 (w : World) (r : Int × Bool) (e : Ending) (w' : World) : Prop := e = .returned (.tuple #[.int .i64 r.1, .bool r.2]) ∧ Mod [] w w'
theorem int_vals {x n : Nat} (hl : (D x).length = n) : ∃ pv dg : Nat → Nat, pv 0 = x ∧ pv n = 0 ∧ (∀ k, pv k = dg k + 10 * pv (k + 1)) ∧ (∀ k, dg k ≤ 9) ∧ (∀ k, pv k ≤ x) ∧ ∀ k : Nat, rd (D x) (k : Int) = (dg k : Int) := by
  have hs : ∀ k, (dv ((D x).drop k)).toNat = ((D x).getD k 0).toNat + 10 * (dv ((D x).drop (k + 1))).toNat := fun k => by
    have h1 := dv_drop (D x) k
    have h2 := dv_nonneg (digs_drop (digs_D x) (k + 1))
    have h4 := digs_getD (digs_D x) k
    omega
  have h0 : (dv ((D x).drop 0)).toNat = x := by rw [List.drop_zero, dv_D]; omega
  refine ⟨fun k => (dv ((D x).drop k)).toNat, fun k => ((D x).getD k 0).toNat, h0, by simp only []; rw [List.drop_of_length_le (by omega)]; rfl, hs, fun k => ?_, fun k => ?_, fun k => ?_⟩
  · have h4 := digs_getD (digs_D x) k
    simp only []
    omega
  · show (dv ((D x).drop k)).toNat ≤ x
    induction k with
    | zero => omega
    | succ k ih => have := hs k; omega
  · have h4 := digs_getD (digs_D x) k
    show (D x).getD k 0 = (((D x).getD k 0).toNat : Int)
    omega
set_option maxRecDepth 100000 in
set_option maxHeartbeats 1000000 in
theorem int_any (b : Bool) (A : Option Addr) (n c x : Nat) (w : World) (hr : ReadsInt w .i64 A n (D x)) (hn : n ≤ 5000) (hnc : n ≤ c) :
    Calls Try.prog 38 #[.agg #[.bool b, .slice A n c]] w (Fit2 w (fitN (sgn b x))) := by
  have hm0 := (Mod.refl [] w).alloc (Obj.cells #[.bool b, .slice A n c] 27)
  have hk0 := blk_new w (Obj.cells #[.bool b, .slice A n c] 27)
  have hr0 := hm0.reads hr (by simp)
  have F1 := field_1
  obtain ⟨pv, dg, p0, p1, p2, p3, p4, p5⟩ := int_vals hr.1
  have P0 := Lib.hid p0
  have P1 := Lib.hid p1
  have P2 := Lib.hid p2
  have P3 := Lib.hid p3
  have P4 := Lib.hid p4
  have P5 := Lib.hid p5
  clear p0 p1 p2 p3 p4 p5
  go_enter Try.func38, Try.ntmps38
  go_wp2_with fail
  generalize w.alloc _ = W0 at *
  generalize w.heap.size = g at *
  have d1 : W0.cell? ⟨g, 0, none⟩ = some (.bool b) := (blk_cell hk0 0).trans rfl
  have d2 : W0.cell? ⟨g, 1, none⟩ = some (.slice A n c) := (blk_cell hk0 1).trans rfl
  go_wp2_with fail
  refine (trim_D A n c x W0 hr0 (by omega) hnc).mono ?_
  rintro e w1 ⟨rfl, rfl⟩
  go_wp2_with fail
  refine (of_any (-9223372036854775808) W0 (by omega) (by omega)).mono ?_
  rintro e w2 ⟨A2, n2, c2, rfl, hn2, hm2, hr2⟩
  rw [show (-9223372036854775808 : Int).natAbs = 9223372036854775808 from rfl] at hr2
  have hl2 := D_len20 (x := 9223372036854775808) (by omega)
  rw [hr2.1] at hl2
  have hr02 := hm2.reads hr0 (by simp)
  go_wp2_with fail
  refine (cmp_any A A2 n c n2 c2 x 9223372036854775808 w2 hr02 hr2 (by omega) (by omega)).mono ?_
  rintro e w3 ⟨rfl, hm3⟩
  have hm03 := hm2.trans0 hm3
  have e1 := hm03.cell d1 (by simp)
  have hr3 := hm03.reads hr0 (by simp)
  have HM := Lib.hid (hm0.trans0 hm03)
  clear d1 d2 hr0 hr2 hr02 hm2 hm3 hm03 hk0 hm0
  by_cases hgt : 9223372036854775808 < x
  · have hK : 0 < cmpN x 9223372036854775808 := by unfold cmpN; rw [if_neg (by omega), if_pos hgt]; omega
    have HF := Lib.hid (show fitN (sgn b x) = (0, false) by unfold fitN sgn; rw [if_neg (by split <;> omega)])
    generalize cmpN x 9223372036854775808 = K at *
    go_wp2
    go_ret2
    exact ⟨by rw [HF.out]; rfl, HM.out⟩
  · have hK : ¬ 0 < cmpN x 9223372036854775808 := by unfold cmpN; rw [if_neg hgt]; split <;> omega
    by_cases heq : x = 9223372036854775808 ∧ b = false
    · obtain ⟨hx, rfl⟩ := heq
      have hK2 : (cmpN x 9223372036854775808 == 0) = true := by unfold cmpN; rw [if_neg (by omega), if_neg hgt]; rfl
      have HF := Lib.hid (show fitN (sgn false x) = (0, false) by unfold fitN sgn; rw [if_neg (by simp; omega)])
      generalize cmpN x 9223372036854775808 = K at *
      clear hx
      go_wp2
      go_ret2
      exact ⟨by rw [HF.out]; rfl, HM.out⟩
    · have hxx : x ≤ 9223372036854775808 := by omega
      have hK2 : (cmpN x 9223372036854775808 == 0) = false ∨ b = true := by
        by_cases hb : b = true
        · exact .inr hb
        · refine .inl ?_
          have : x < 9223372036854775808 := by
            have hbf : b = false := by simpa using hb
            rcases Nat.lt_or_eq_of_le hxx with h | h
            · exact h
            · exact absurd ⟨h, hbf⟩ heq
          unfold cmpN; rw [if_pos this]; rfl
      have HF := Lib.hid (show fitN (sgn b x) = (sgn b x, true) by
        unfold fitN
        rw [if_pos]
        unfold sgn
        by_cases hb : b = true
        · rw [if_pos hb]; omega
        · rw [if_neg hb]
          have hbf : b = false := by simpa using hb
          have : x ≠ 9223372036854775808 := fun h => heq ⟨h, hbf⟩
          omega)
      have HXL := Lib.hid (show b = false → x ≤ 9223372036854775807 from fun hbf => by
        have : x ≠ 9223372036854775808 := fun h => heq ⟨h, hbf⟩
        omega)
      have HXX := Lib.hid hxx
      have q0 : IntKind.i64.wrap ((n : Int) - 1) = (n : Int) - 1 := IntWalk.i64_in _ (by omega)
      clear heq
      go_upto_region 4 with fail
      go_cut [27] (fun t wx => t = .bool false ∧ wx = w3)
      case first =>
        generalize cmpN x 9223372036854775808 = K at *
        have hKd : decide (0 < K) = false := by simpa using hK
        rcases hK2 with h | rfl
        · go_wp2
          go_meet
          exact ⟨rfl, rfl⟩
        · by_cases h2 : K = 0
          · subst h2
            go_wp2
            go_meet
            exact ⟨rfl, rfl⟩
          · have h3 : (K == 0) = false := by simpa using h2
            go_wp2
            go_meet
            exact ⟨rfl, rfl⟩
      case rest =>
        obtain ⟨rfl, rfl⟩ := hcut
        obtain ⟨wo, rfl⟩ : ∃ wo : World, wo = wc := ⟨_, rfl⟩
        clear hK hK2
        go_wp2_with fail
        go_loopw [7, 8] (fun v i wr => ∃ k : Nat, k ≤ n ∧ i = .int .i64 ((k : Int) - 1) ∧ v = .int .i64 (-(pv k : Int)) ∧ wr = wo) (fun _ i _ => (intOf i + 1).toNat)
        case atStart => exact ⟨n, by omega, rfl, by rw [P1.out]; rfl, rfl⟩
        case round =>
          obtain ⟨k, hk, rfl, rfl, rfl⟩ := hrel
          cases k with
          | zero =>
            cases b with
            | true =>
              have HV := Lib.hid (show -(pv 0 : Int) = sgn true x by rw [P0.out]; rfl)
              go_wp2
              go_ret2
              exact ⟨by rw [HF.out, ← HV.out]; rfl, HM.out⟩
            | false =>
              have HV := Lib.hid (show (pv 0 : Int) = sgn false x by rw [P0.out]; rfl)
              have h9 := HXL.out rfl
              have q9 : IntKind.i64.wrap (pv 0 : Int) = (pv 0 : Int) := by rw [P0.out]; exact IntWalk.i64_in _ (by omega)
              clear h9
              go_wp2
              go_ret2
              exact ⟨by rw [HF.out, ← HV.out]; rfl, HM.out⟩
          | succ k =>
            have e5 : ((k + 1 : Nat) : Int) - 1 = (k : Int) := by omega
            rw [e5]
            obtain ⟨a, rfl, hc⟩ := hr3.at_ k (by omega) (by omega)
            rw [Int.toNat_natCast, P5.out] at hc
            have h1 := P2.out k
            have h2 := P4.out k
            have h3 := HXX.out
            have h4 := P3.out k
            have q1 : IntKind.i64.wrap (-(pv (k + 1) : Int) * 10) = -(pv (k + 1) : Int) * 10 := IntWalk.i64_in _ (by omega)
            have q2 : IntKind.i64.wrap (-(pv (k + 1) : Int) * 10 - (dg k : Int)) = -(pv k : Int) := by rw [IntWalk.i64_in _ (by omega)]; omega
            have q3 : IntKind.i64.wrap ((k : Int) - 1) = (k : Int) - 1 := IntWalk.i64_in _ (by omega)
            clear h1 h2 h3 h4 e5
            go_wp2
            go_roundw
            case rel => exact ⟨k, by omega, by go_num, rfl, trivial⟩
            case measure => simp [intOf]
theorem is_any (a : Int) (ok : Bool) (b : Bool) (A : Option Addr) (n c x : Nat) (w : World) (hr : ReadsInt w .i64 A n (D x)) (hn : n ≤ 5000) (hnc : n ≤ c) (hf : fitN (sgn b x) = (a, ok)) :
    Calls Try.prog 23 #[.int .i64 a, .bool ok, .agg #[.bool b, .slice A n c]] w fun e w' => e = .returned (.bool true) ∧ Mod [] w w' := by
  have hm0 := (Mod.refl [] w).alloc (Obj.cells #[.bool b, .slice A n c] 27)
  have hk0 := blk_new w (Obj.cells #[.bool b, .slice A n c] 27)
  have hr0 := hm0.reads hr (by simp)
  go_enter Try.func23, Try.ntmps23
  go_wp2_with fail
  generalize w.alloc _ = W0 at *
  have hI := int_any b A n c x W0 hr0 hn hnc
  rw [hf] at hI
  refine hI.mono ?_
  rintro e w1 ⟨rfl, hm1⟩
  go_wp2
  go_ret
  exact ⟨rfl, hm0.trans0 hm1⟩
end Go.Proofs.Ytijhlofmangpgaa
