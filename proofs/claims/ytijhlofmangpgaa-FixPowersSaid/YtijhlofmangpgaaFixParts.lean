/- A number is its divisor times the quotient and the remainder. -/
import Derived.Test.YtijhlofmangpgaaFixNum
set_option linter.unusedVariables false
set_option linter.unusedSimpArgs false
namespace Go.Proofs.Ytijhlofmangpgaa
open Go.RowKit Go.Proofs.YtijhlofmangpgaaW.PrintWords Go.Proofs.Ytijhlofmangpgaa.Dig
def sv (b : Bool) (x : Nat) : Int := if b then -(x : Int) else x
theorem sum_sv (b1 : Bool) (x : Nat) (b2 : Bool) (y : Nat) : sv (sumN b1 x b2 y).1 (sumN b1 x b2 y).2 = sv b1 x + sv b2 y := by
  by_cases h : y ≤ x
  · cases b1 <;> cases b2 <;> simp [sumN, sv, h] <;> omega
  · cases b1 <;> cases b2 <;> simp [sumN, sv, h] <;> omega
theorem same_sv (b1 : Bool) (x : Nat) (b2 : Bool) (y : Nat) : sameN b1 x b2 y = decide (sv b1 x = sv b2 y) := by
  have key : ∀ p : Prop, [Decidable p] → ∀ c : Bool, (c = true ↔ p) → c = decide p := fun p _ c h => by
    by_cases hp : p
    · rw [decide_eq_true hp]; exact h.2 hp
    · rw [decide_eq_false hp]; cases c with | false => rfl | true => exact absurd (h.1 rfl) hp
  apply key
  unfold sameN
  cases b1 <;> cases b2 <;> simp [sv] <;> omega
theorem prod_sv (b1 : Bool) (x : Nat) (b2 : Bool) (y : Nat) : sv (b1 != b2) (x * y) = sv b1 x * sv b2 y := by
  cases b1 <;> cases b2 <;> simp [sv, Int.natCast_mul, Int.neg_mul, Int.mul_neg]
theorem of_sv (a : Int) : sv (decide (a < 0)) a.natAbs = a := by
  unfold sv
  by_cases h : a < 0
  · simp [h]; omega
  · simp [h]; omega
theorem field1 (x y : Value) (w : World) : (Instr.field 27 (.agg #[x, y]) 1).run Try.prog w = .ok y w := by rfl
theorem field0 (x y : Value) (w : World) : (Instr.field 27 (.agg #[x, y]) 0).run Try.prog w = .ok x w := by rfl
theorem sum_le (b1 : Bool) (x : Nat) (b2 : Bool) (y : Nat) : (sumN b1 x b2 y).2 ≤ x + y := by
  unfold sumN
  split
  · simp
  · split <;> simp <;> omega
set_option maxRecDepth 100000 in
set_option maxHeartbeats 2000000 in
theorem parts_any (a b : Int) (w : World) (ha : -9223372036854775808 ≤ a ∧ a ≤ 9223372036854775807) (hb : -9223372036854775808 ≤ b ∧ b ≤ 9223372036854775807) :
    Calls Try.prog 3 #[.int .i64 a, .int .i64 b] w fun e w' => e = .returned (.bool true) ∧ Mod [] w w' := by
  have HQ := quo_any a b w ha hb
  have HR := rem_any a b w ha hb
  have HM := mod_any a b w ha hb
  by_cases h0 : b = 0
  · subst h0
    rw [show quoN a 0 = (0, false) by unfold quoN; rw [if_pos (.inl rfl)]] at HQ
    rw [show remN a 0 = (0, false) by rfl] at HR
    rw [show modN a 0 = (0, false) by rfl] at HM
    go_enter Try.func3, Try.ntmps3
    go_wp2_with fail
    refine HQ.mono ?_
    rintro e w1 ⟨rfl, rfl⟩
    go_wp2_with fail
    refine HR.mono ?_
    rintro e w1 ⟨rfl, rfl⟩
    go_wp2_with fail
    refine HM.mono ?_
    rintro e w1 ⟨rfl, rfl⟩
    go_wp2_with fail
    refine (lives_any w).mono ?_
    rintro e w1 ⟨rfl, hm⟩
    go_wp2
    go_ret
    exact ⟨rfl, hm⟩
  · obtain ⟨r, hr⟩ : ∃ r, a.tmod b = r := ⟨_, rfl⟩
    have hrb := tmod_bd (a := a) h0
    have er : remN a b = (r, true) := by unfold remN; rw [if_neg h0, hr]; simp [h0]
    rw [hr] at hrb
    rw [er] at HR
    obtain ⟨m, hm⟩ : ∃ m, (if r ≠ 0 ∧ decide (r < 0) ≠ decide (b < 0) then r + b else r) = m := ⟨_, rfl⟩
    have em : modN a b = (m, true) := by unfold modN; rw [er]; simp only; rw [hm]
    rw [em] at HM
    obtain ⟨⟨q, ok⟩, hq⟩ : ∃ p, quoN a b = p := ⟨_, rfl⟩
    rw [hq] at HQ
    have HRR := Lib.hid hr
    have HQQ := Lib.hid hq
    have HMM := Lib.hid hm
    have hb0 : (b == 0) = false := by simpa using h0
    clear er em hr hq hm
    have F0 := field0
    have F1 := field1
    go_enter Try.func3, Try.ntmps3
    go_wp2_with fail
    refine HQ.mono ?_
    rintro e w1 ⟨rfl, rfl⟩
    go_wp2_with fail
    refine HR.mono ?_
    rintro e w1 ⟨rfl, rfl⟩
    go_wp2_with fail
    refine HM.mono ?_
    rintro e w1 ⟨rfl, rfl⟩
    clear HQ HR HM
    go_upto_region 6 with fail
    go_cut [98] (fun t wx => t = .bool false ∧ wx = w)
    case first =>
      have hmm := HMM.out
      by_cases hr0 : r = 0
      · rw [if_neg (by simp [hr0])] at hmm
        subst hr0
        subst hmm
        go_wp2
        go_meet
        exact ⟨rfl, rfl⟩
      · have z1 : (r == 0) = false := by simpa using hr0
        by_cases h1 : r < 0
        · have a1 : a < 0 := by omega
          by_cases h2 : b < 0
          · rw [if_neg (by simp [h1, h2])] at hmm
            subst hmm
            go_wp2
            go_meet
            exact ⟨rfl, rfl⟩
          · rw [if_pos ⟨hr0, by simp [h1, h2]⟩] at hmm
            have z2 : (m == 0) = false := by simp; omega
            have z2' : ¬ m = 0 := by omega
            have z4' : ¬ m = r := by omega
            have z3 : ¬ m < 0 := by omega
            have z4 : (m == r) = false := by simp; omega
            have z5 : IntKind.i64.wrap (m - r) = b := by rw [IntWalk.i64_in _ (by omega)]; omega
            clear hmm
            go_wp2
            go_meet
            exact ⟨rfl, rfl⟩
        · have a1 : ¬ a < 0 := by omega
          by_cases h2 : b < 0
          · rw [if_pos ⟨hr0, by simp [h1, h2]⟩] at hmm
            have z2 : (m == 0) = false := by simp; omega
            have z2' : ¬ m = 0 := by omega
            have z4' : ¬ m = r := by omega
            have z3 : m < 0 := by omega
            have z4 : (m == r) = false := by simp; omega
            have z5 : IntKind.i64.wrap (m - r) = b := by rw [IntWalk.i64_in _ (by omega)]; omega
            clear hmm
            go_wp2
            go_meet
            exact ⟨rfl, rfl⟩
          · rw [if_neg (by simp [h1, h2])] at hmm
            subst hmm
            go_wp2
            go_meet
            exact ⟨rfl, rfl⟩
    case rest =>
      obtain ⟨rfl, rfl⟩ := hcut
      have hrb1 := hrb.1
      have HRB := Lib.hid hrb
      have hl2 := D_len_mono (a := b.natAbs) (b := r.natAbs) (by omega)
      have hlb := D_len20 (x := b.natAbs) (by omega)
      clear hrb
      go_wp2_with fail
      refine (of_any r wc (by omega) (by omega)).mono ?_
      rintro e w1 ⟨A1, n1, c1, rfl, hn1, hm1, hr1⟩
      go_wp2_with fail
      refine (of_any b w1 hb.1 hb.2).mono ?_
      rintro e w2 ⟨A2, n2, c2, rfl, hn2, hm2, hr2⟩
      have hr12 := hm2.reads hr1 (by simp)
      have e1 := hr1.1
      have e2 := hr2.1
      have HM2 := Lib.hid (hm1.trans0 hm2)
      have t1 : ¬ n2 < n1 := by omega
      have hS := same_any false false A1 A2 n1 c1 n2 c2 r.natAbs b.natAbs w2 hr12 hr2 (by omega) (by omega) hn1 hn2
      rw [show sameN false r.natAbs false b.natAbs = false by unfold sameN; simp; omega] at hS
      have hSum := fun w' h h' => sum_any false true A2 A1 n2 c2 n1 c1 b.natAbs r.natAbs w' h h' (by omega) (by omega)
      rw [show sumN false b.natAbs true r.natAbs = (false, b.natAbs - r.natAbs) by unfold sumN; rw [if_neg (by simp), if_pos (by omega)]] at hSum
      clear e1 e2 hl2
      go_upto_region 9 with fail
      go_cut [131] (fun t wx => t = .bool false ∧ Mod [] w2 wx)
      case first =>
        go_wp2_with fail
        refine hS.mono ?_
        rintro e w3 ⟨rfl, hm3⟩
        by_cases hnn : n1 = n2
        · subst hnn
          go_wp2_with fail
          refine (hSum w3 (hm3.reads hr2 (by simp)) (hm3.reads hr12 (by simp))).mono ?_
          rintro e w4 ⟨A4, n4, c4, rfl, hn4, hm4, hr4⟩
          go_wp2
          go_meet
          exact ⟨rfl, hm3.trans0 hm4⟩
        · have t2 : (n1 == n2) = false := by simpa using hnn
          have t3 : ((n1 : Int) == n2) = false := by simp; omega
          go_wp2
          go_meet
          exact ⟨rfl, hm3⟩
      case rest =>
        obtain ⟨rfl, hm3⟩ := hcut
        cases ok with
        | false =>
          have hqq := HQQ.out
          unfold quoN at hqq
          split at hqq
          · rename_i hc
            obtain rfl : q = 0 := by simpa using (Prod.mk.inj hqq).1.symm
            rcases hc with hc | ⟨rfl, rfl⟩
            · exact absurd hc h0
            · have hr0 : r = 0 := by rw [← HRR.out]; rfl
              subst hr0
              clear hqq
              go_wp2_with fail
              refine (lives_any wc).mono ?_
              rintro e w9 ⟨rfl, hm9⟩
              go_wp2
              go_ret
              exact ⟨rfl, (HM2.out.trans0 hm3).trans0 hm9⟩
          · have := (Prod.mk.inj hqq).2; cases this
        | true =>
          have hqq := HQQ.out
          unfold quoN at hqq
          split at hqq
          · have := (Prod.mk.inj hqq).2; cases this
          · rename_i hc
            have hqv : a.tdiv b = q := (Prod.mk.inj hqq).1
            have hqb := tdiv_bd ha hc
            rw [hqv] at hqb
            have hkey : q * b + r = a := by rw [← hqv, ← HRR.out, Int.mul_comm]; exact Int.mul_tdiv_add_tmod a b
            have hP : q.natAbs * b.natAbs ≤ 9223372036854775808 := by
              rw [← hqv, Int.natAbs_tdiv]
              exact Nat.le_trans (Nat.div_mul_le_self a.natAbs b.natAbs) (by omega)
            have HK := Lib.hid hkey
            have HSM := Lib.hid (show sameN (sumN (decide (q < 0) != decide (b < 0)) (q.natAbs * b.natAbs) (decide (r < 0)) r.natAbs).1 (sumN (decide (q < 0) != decide (b < 0)) (q.natAbs * b.natAbs) (decide (r < 0)) r.natAbs).2 (decide (a < 0)) a.natAbs = true by
              rw [same_sv, sum_sv, prod_sv, of_sv, of_sv, of_sv, of_sv, hkey]; simp)
            clear hqq hc hqv hkey hS hSum t1 hr12 hr1 hr2
            go_wp2_with fail
            refine (of_any q wc hqb.1 hqb.2).mono ?_
            rintro e w4 ⟨A4, n4, c4, rfl, hn4, hm4, hr4⟩
            go_wp2_with fail
            refine (of_any b w4 hb.1 hb.2).mono ?_
            rintro e w5 ⟨A5, n5, c5, rfl, hn5, hm5, hr5⟩
            have hl4 := D_len20 (x := q.natAbs) (by omega)
            have hl5 := D_len20 (x := b.natAbs) (by omega)
            rw [hr4.1] at hl4
            rw [hr5.1] at hl5
            have hr45 := hm5.reads hr4 (by simp)
            go_wp2_with fail
            refine (product_any _ _ A4 A5 n4 c4 n5 c5 q.natAbs b.natAbs w5 hr45 hr5 (by omega) (by omega)).mono ?_
            rintro e w6 ⟨A6, n6, c6, rfl, hn6, hm6, hr6⟩
            go_wp2_with fail
            refine (of_any r w6 (by omega) (by omega)).mono ?_
            rintro e w7 ⟨A7, n7, c7, rfl, hn7, hm7, hr7⟩
            have hr67 := hm7.reads hr6 (by simp)
            have hl6 := D_len20 hP
            have hl7 := D_len20 (x := r.natAbs) (by omega)
            rw [hr6.1] at hl6
            rw [hr7.1] at hl7
            go_wp2_with fail
            refine (sum_any _ _ A6 A7 n6 c6 n7 c7 (q.natAbs * b.natAbs) r.natAbs w7 hr67 hr7 (by omega) (by omega)).mono ?_
            rintro e w8 ⟨A8, n8, c8, rfl, hn8, hm8, hr8⟩
            have hsl := sum_le (decide (q < 0) != decide (b < 0)) (q.natAbs * b.natAbs) (decide (r < 0)) r.natAbs
            generalize sumN (decide (q < 0) != decide (b < 0)) (q.natAbs * b.natAbs) (decide (r < 0)) r.natAbs = S at *
            obtain ⟨s1, s2⟩ := S
            simp only at hr8 hsl HSM ⊢
            have hl8 : (D s2).length ≤ 30 := D_len_lt (by omega)
            rw [hr8.1] at hl8
            have HMM9 := Lib.hid ((((((HM2.out.trans0 hm3).trans0 hm4).trans0 hm5).trans0 hm6).trans0 hm7).trans0 hm8)
            clear hr4 hr5 hr45 hr6 hr67 hr7 hm4 hm5 hm6 hm7 hm8 hm3 hm1 hm2
            go_wp2_with fail
            have hmA := (Mod.refl [] w8).alloc (Obj.cells #[.bool s1, .slice A8 n8 c8] 27)
            have hkA := blk_new w8 (Obj.cells #[.bool s1, .slice A8 n8 c8] 27)
            have hr8A := hmA.reads hr8 (by simp)
            have hla := D_len20 (x := a.natAbs) (by omega)
            have HMA := Lib.hid (HMM9.out.trans0 hmA)
            clear hr8 hmA
            generalize w8.alloc _ = W at *
            generalize w8.heap.size = g at *
            have d1 : W.cell? ⟨g, 0, none⟩ = some (.bool s1) := (blk_cell hkA 0).trans rfl
            have d2 : W.cell? ⟨g, 1, none⟩ = some (.slice A8 n8 c8) := (blk_cell hkA 1).trans rfl
            have L1 : ∀ w', Mod [] W w' → w'.cell? ⟨g, 0, none⟩ = some (.bool s1) := fun w' h => h.cell d1 (by simp)
            have L2 : ∀ w', Mod [] W w' → w'.cell? ⟨g, 1, none⟩ = some (.slice A8 n8 c8) := fun w' h => h.cell d2 (by simp)
            go_region_held3 (fun w' => Mod [] W w') (first | exact (Mod.refl [] W).drew | exact Mod.trans0 (by assumption) (by assumption) | exact (by assumption))
              (first
                | (go_at_call 14; refine (of_any a _ ha.1 ha.2).mono ?_; rintro e w9 ⟨A9, n9, c9, rfl, hn9, hm9, hr9⟩; have hl9 := hr9.1)
                | (go_at_call 15; refine (same_any s1 (decide (a < 0)) A8 A9 n8 c8 n9 c9 s2 a.natAbs _ (Mod.reads (S := []) (by assumption) hr8A (by simp)) hr9 (by omega) (by omega) hn8 hn9).mono ?_; rw [HSM.out]; rintro e w10 ⟨rfl, hm10⟩)
                | (go_at_call 13; refine (lives_any _).mono ?_; rintro e w11 ⟨rfl, hm11⟩))
            go_wp2
            go_ret
            exact ⟨rfl, HMA.out.trans0 (by assumption)⟩
theorem parts_walk (a b : Int) (w : World) (ha : (Lit.int .i64 a).wf = true) (hb : (Lit.int .i64 b).wf = true) :
    Calls Try.prog 3 #[.int .i64 a, .int .i64 b] w fun e w' => e = .returned (.bool true) ∧ Mod [] w w' := parts_any a b w (bounds_i64 ha) (bounds_i64 hb)
end Go.Proofs.Ytijhlofmangpgaa
