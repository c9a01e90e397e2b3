/- The product of two numbers: the program's answer. -/
import Derived.Test.YtijhlofmangpgaaFixInt
import Derived.Laws.BitsLemmas
set_option linter.unusedVariables false
set_option linter.unusedSimpArgs false
namespace Go.Proofs.Ytijhlofmangpgaa
open Go.RowKit Go.Proofs.YtijhlofmangpgaaW.PrintWords Go.Proofs.Ytijhlofmangpgaa.Dig
theorem mul_hi (x0 x1 y0 y1 : Nat) (h0 : x0 < 4294967296) (h1 : x1 < 4294967296) (k0 : y0 < 4294967296) (k1 : y1 < 4294967296) :
    x1 * y0 + x0 * y0 / 4294967296 < 18446744073709551616 ∧ x0 * y0 < 18446744073709551616 ∧ x1 * y0 < 18446744073709551616 ∧ x0 * y1 < 18446744073709551616 ∧ x1 * y1 < 18446744073709551616 ∧
    (x1 * y0 + x0 * y0 / 4294967296) % 4294967296 + x0 * y1 < 18446744073709551616 ∧ x1 * y1 + (x1 * y0 + x0 * y0 / 4294967296) / 4294967296 < 18446744073709551616 ∧
    x1 * y1 + (x1 * y0 + x0 * y0 / 4294967296) / 4294967296 + ((x1 * y0 + x0 * y0 / 4294967296) % 4294967296 + x0 * y1) / 4294967296 < 18446744073709551616 ∧
    x1 * y1 + (x1 * y0 + x0 * y0 / 4294967296) / 4294967296 + ((x1 * y0 + x0 * y0 / 4294967296) % 4294967296 + x0 * y1) / 4294967296 = (x1 * 4294967296 + x0) * (y1 * 4294967296 + y0) / 18446744073709551616 := by
  have e : (x1 * 4294967296 + x0) * (y1 * 4294967296 + y0) = x1 * y1 * 18446744073709551616 + (x1 * y0 + x0 * y1) * 4294967296 + x0 * y0 := by
    have e1 : x1 * 4294967296 * (y1 * 4294967296) = x1 * y1 * 18446744073709551616 := by rw [Nat.mul_mul_mul_comm]
    have e2 : x1 * 4294967296 * y0 = x1 * y0 * 4294967296 := Nat.mul_right_comm _ _ _
    have e3 : x0 * (y1 * 4294967296) = x0 * y1 * 4294967296 := (Nat.mul_assoc _ _ _).symm
    rw [Nat.add_mul, Nat.mul_add, Nat.mul_add, e1, e2, e3, Nat.add_mul]
    omega
  rw [e]
  have b1 : x1 * y0 ≤ 4294967295 * 4294967295 := Nat.mul_le_mul (by omega) (by omega)
  have b2 : x0 * y1 ≤ 4294967295 * 4294967295 := Nat.mul_le_mul (by omega) (by omega)
  have b3 : x0 * y0 ≤ 4294967295 * 4294967295 := Nat.mul_le_mul (by omega) (by omega)
  have b4 : x1 * y1 ≤ 4294967295 * 4294967295 := Nat.mul_le_mul (by omega) (by omega)
  generalize x1 * y0 = a at *
  generalize x0 * y1 = b at *
  generalize x0 * y0 = c at *
  generalize x1 * y1 = d at *
  omega
theorem and32 (x : Int) (h0 : 0 ≤ x) (h1 : x < 18446744073709551616) : bits .and .u64 x 4294967295 = x % 4294967296 :=
  bits_mask .u64 64 (by decide) (fun a h h' => by rw [IntKind.wrap_u64]; omega) 32 (by decide) x h0 h1
theorem wu {x : Nat} (h : x < 18446744073709551616) : IntKind.u64.wrap (x : Int) = (x : Int) := by rw [IntKind.wrap_u64]; omega
theorem mul_eqs (x y : Nat) (hx : x < 18446744073709551616) (hy : y < 18446744073709551616) :
    IntKind.u64.wrap (IntKind.u64.wrap (IntKind.u64.wrap ((x : Int) / 4294967296 * ((y : Int) / 4294967296)) + IntKind.u64.wrap (IntKind.u64.wrap ((x : Int) / 4294967296 * bits BinOp.and IntKind.u64 (y : Int) 4294967295) + IntKind.u64.wrap (bits BinOp.and IntKind.u64 (x : Int) 4294967295 * bits BinOp.and IntKind.u64 (y : Int) 4294967295) / 4294967296) / 4294967296) + IntKind.u64.wrap (bits BinOp.and IntKind.u64 (IntKind.u64.wrap (IntKind.u64.wrap ((x : Int) / 4294967296 * bits BinOp.and IntKind.u64 (y : Int) 4294967295) + IntKind.u64.wrap (bits BinOp.and IntKind.u64 (x : Int) 4294967295 * bits BinOp.and IntKind.u64 (y : Int) 4294967295) / 4294967296)) 4294967295 + IntKind.u64.wrap (bits BinOp.and IntKind.u64 (x : Int) 4294967295 * ((y : Int) / 4294967296))) / 4294967296) = ((x * y / 18446744073709551616 : Nat) : Int) := by
  rw [and32 (x : Int) (by omega) (by omega), and32 (y : Int) (by omega) (by omega)]
  obtain ⟨h1, h2, h3, h4, h5, h6, h7, h8, h9⟩ := mul_hi (x % 4294967296) (x / 4294967296) (y % 4294967296) (y / 4294967296) (by omega) (by omega) (by omega) (by omega)
  rw [show x / 4294967296 * 4294967296 + x % 4294967296 = x by omega, show y / 4294967296 * 4294967296 + y % 4294967296 = y by omega] at h9
  rw [← h9]
  have c1 : ((x : Int) % 4294967296) = ((x % 4294967296 : Nat) : Int) := by omega
  have c2 : ((y : Int) % 4294967296) = ((y % 4294967296 : Nat) : Int) := by omega
  have c3 : ((x : Int) / 4294967296) = ((x / 4294967296 : Nat) : Int) := by omega
  have c4 : ((y : Int) / 4294967296) = ((y / 4294967296 : Nat) : Int) := by omega
  rw [c1, c2, c3, c4]
  generalize x % 4294967296 = x0 at *
  generalize x / 4294967296 = x1 at *
  generalize y % 4294967296 = y0 at *
  generalize y / 4294967296 = y1 at *
  rw [← Int.natCast_mul x0 y0, ← Int.natCast_mul x1 y0, ← Int.natCast_mul x0 y1, ← Int.natCast_mul x1 y1]
  generalize x0 * y0 = p00 at *
  generalize x1 * y0 = p10 at *
  generalize x0 * y1 = p01 at *
  generalize x1 * y1 = p11 at *
  clear h9 c1 c2 c3 c4 hx hy
  rw [wu h2, wu h3, wu h4, wu h5, show (p10 : Int) + (p00 : Int) / 4294967296 = ((p10 + p00 / 4294967296 : Nat) : Int) by omega, wu h1, and32 _ (by omega) (by omega),
    show ((p10 + p00 / 4294967296 : Nat) : Int) % 4294967296 + (p01 : Int) = (((p10 + p00 / 4294967296) % 4294967296 + p01 : Nat) : Int) by omega, wu h6,
    show (p11 : Int) + ((p10 + p00 / 4294967296 : Nat) : Int) / 4294967296 = ((p11 + (p10 + p00 / 4294967296) / 4294967296 : Nat) : Int) by omega, wu h7,
    show ((p11 + (p10 + p00 / 4294967296) / 4294967296 : Nat) : Int) + (((p10 + p00 / 4294967296) % 4294967296 + p01 : Nat) : Int) / 4294967296 = ((p11 + (p10 + p00 / 4294967296) / 4294967296 + ((p10 + p00 / 4294967296) % 4294967296 + p01) / 4294967296 : Nat) : Int) by omega, wu h8]
theorem mul_lo (x y : Nat) : IntKind.u64.wrap ((x : Int) * (y : Int)) = ((x * y % 18446744073709551616 : Nat) : Int) := by
  rw [← Int.natCast_mul, IntKind.wrap_u64]
  omega
def Two64 (w : World) (a b : Nat) (e : Ending) (w' : World) : Prop := e = .returned (.tuple #[.int .u64 (a : Int), .int .u64 (b : Int)]) ∧ w = w'
theorem ret_two {a b a' b' : Int} (h : a = a') (k : b = b') : Ending.returned (.tuple #[.int .u64 a, .int .u64 b]) = .returned (.tuple #[.int .u64 a', .int .u64 b']) := by rw [h, k]
set_option maxRecDepth 100000 in
set_option maxHeartbeats 1000000 in
theorem mul64_any (x y : Nat) (w : World) (hx : x < 18446744073709551616) (hy : y < 18446744073709551616) :
    Calls Try.prog 47 #[.int .u64 (x : Int), .int .u64 (y : Int)] w (Two64 w (x * y / 18446744073709551616) (x * y % 18446744073709551616)) := by
  have h1 := Lib.hid (mul_eqs x y hx hy)
  have h2 := Lib.hid (mul_lo x y)
  clear hx hy
  go_enter Try.func47, Try.ntmps47
  go_wp2
  go_ret2
  exact ⟨ret_two h1.out h2.out, rfl⟩
theorem bmul_any (x y : Nat) (w : World) (hx : x < 18446744073709551616) (hy : y < 18446744073709551616) :
    Calls Try.prog 39 #[.int .u64 (x : Int), .int .u64 (y : Int)] w (Two64 w (x * y / 18446744073709551616) (x * y % 18446744073709551616)) := by
  have h := mul64_any x y w hx hy
  generalize x * y / 18446744073709551616 = H at *
  generalize x * y % 18446744073709551616 = L at *
  go_enter Try.func39, Try.ntmps39
  go_wp2_with fail
  refine h.mono ?_
  rintro e w1 ⟨rfl, rfl⟩
  go_wp2
  go_ret2
  exact ⟨rfl, rfl⟩
theorem mul_any (a b : Int) (w : World) (ha : -9223372036854775808 ≤ a ∧ a ≤ 9223372036854775807) (hb : -9223372036854775808 ≤ b ∧ b ≤ 9223372036854775807) :
    Calls Try.prog 25 #[.int .i64 a, .int .i64 b] w (FitPost w (fitN (a * b))) := by
  have h1 := size_any a w ha.1 ha.2
  have h2 := size_any b w hb.1 hb.2
  have h3 := bmul_any a.natAbs b.natAbs w (by omega) (by omega)
  have hab : a * b = sgn (decide (a < 0) != decide (b < 0)) (a.natAbs * b.natAbs) := by
    have ea : a = sgn (decide (a < 0)) a.natAbs := by unfold sgn; by_cases h : a < 0 <;> simp [h] <;> omega
    have eb : b = sgn (decide (b < 0)) b.natAbs := by unfold sgn; by_cases h : b < 0 <;> simp [h] <;> omega
    generalize a.natAbs = x at *
    generalize b.natAbs = y at *
    generalize decide (a < 0) = p at *
    generalize decide (b < 0) = q at *
    rw [ea, eb]
    cases p <;> cases q <;> simp [sgn, Int.neg_mul_neg, Int.neg_mul, Int.mul_neg]
  rw [hab]
  clear hab
  generalize a.natAbs = x at *
  generalize b.natAbs = y at *
  obtain ⟨P, hP⟩ : ∃ P, x * y = P := ⟨_, rfl⟩
  rw [hP] at h3 ⊢
  clear hP
  by_cases hz : P < 18446744073709551616
  · rw [show P / 18446744073709551616 = 0 by omega, show P % 18446744073709551616 = P by omega] at h3
    have h5 := signed_any P (!decide (a < 0) == decide (b < 0)) w hz
    rw [show (decide (a < 0) != decide (b < 0)) = (!decide (a < 0) == decide (b < 0)) by cases decide (a < 0) <;> cases decide (b < 0) <;> rfl]
    generalize fitN (sgn (!decide (a < 0) == decide (b < 0)) P) = R at *
    obtain ⟨r1, r2⟩ := R
    clear hz
    go_enter Try.func25, Try.ntmps25
    go_wp2_with fail
    refine h1.mono ?_
    rintro e w1 ⟨rfl, rfl⟩
    go_wp2_with fail
    refine h2.mono ?_
    rintro e w1 ⟨rfl, rfl⟩
    go_wp2_with fail
    refine h3.mono ?_
    rintro e w1 ⟨rfl, rfl⟩
    go_wp2_with fail
    refine h5.mono ?_
    rintro e w1 ⟨rfl, rfl⟩
    go_wp2
    go_ret2
    exact ⟨rfl, rfl⟩
  · have hf : fitN (sgn (decide (a < 0) != decide (b < 0)) P) = (0, false) := by
      unfold fitN sgn
      rw [if_neg (by split <;> omega)]
    rw [hf]
    obtain ⟨H, hH⟩ : ∃ H, P / 18446744073709551616 = H := ⟨_, rfl⟩
    have t1 : ((H : Int) != 0) = true := by simp; omega
    have t2 : (H != 0) = true := by simp; omega
    rw [hH] at h3
    clear hf hH hz
    generalize P % 18446744073709551616 = L at *
    go_enter Try.func25, Try.ntmps25
    go_wp2_with fail
    refine h1.mono ?_
    rintro e w1 ⟨rfl, rfl⟩
    go_wp2_with fail
    refine h2.mono ?_
    rintro e w1 ⟨rfl, rfl⟩
    go_wp2_with fail
    refine h3.mono ?_
    rintro e w1 ⟨rfl, rfl⟩
    go_wp2
    go_ret2
    exact ⟨rfl, rfl⟩
set_option maxRecDepth 100000 in
set_option maxHeartbeats 1000000 in
theorem products_any (a b : Int) (w : World) (ha : -9223372036854775808 ≤ a ∧ a ≤ 9223372036854775807) (hb : -9223372036854775808 ≤ b ∧ b ≤ 9223372036854775807) :
    Calls Try.prog 6 #[.int .i64 a, .int .i64 b] w fun e w' => e = .returned (.bool true) ∧ Mod [] w w' := by
  have CM := mul_any a b w ha hb
  have CA := fun w' => of_any a w' ha.1 ha.2
  have CB := fun w' => of_any b w' hb.1 hb.2
  have hsg : fitN (a * b) = fitN (sgn (decide (a < 0) != decide (b < 0)) (a.natAbs * b.natAbs)) := by
    have ea : a = sgn (decide (a < 0)) a.natAbs := by unfold sgn; by_cases h : a < 0 <;> simp [h] <;> omega
    have eb : b = sgn (decide (b < 0)) b.natAbs := by unfold sgn; by_cases h : b < 0 <;> simp [h] <;> omega
    congr 1
    generalize a.natAbs = x at *
    generalize b.natAbs = y at *
    generalize decide (a < 0) = p at *
    generalize decide (b < 0) = q at *
    rw [ea, eb]
    cases p <;> cases q <;> simp [sgn, Int.neg_mul_neg, Int.neg_mul, Int.mul_neg]
  obtain ⟨⟨p, ok⟩, hp⟩ : ∃ p, fitN (a * b) = p := ⟨_, rfl⟩
  rw [hp] at CM hsg
  have HSG := Lib.hid hsg
  clear hsg hp
  have hxy : a.natAbs * b.natAbs ≤ 9223372036854775808 * 9223372036854775808 := Nat.mul_le_mul (by omega) (by omega)
  have hl1 := D_len20 (x := a.natAbs) (by omega)
  have hl2 := D_len20 (x := b.natAbs) (by omega)
  generalize decide (a < 0) = sa at *
  generalize decide (b < 0) = sb at *
  go_enter Try.func6, Try.ntmps6
  go_wp2_with fail
  refine CM.mono ?_
  rintro e w1 ⟨rfl, rfl⟩
  go_wp2_with fail
  refine (CA w).mono ?_
  rintro e w1 ⟨A1, n1, c1, rfl, hn1, hm1, hr1⟩
  go_wp2_with fail
  refine (CB w1).mono ?_
  rintro e w2 ⟨A2, n2, c2, rfl, hn2, hm2, hr2⟩
  have hr12 := hm2.reads hr1 (by simp)
  rw [hr1.1] at hl1
  rw [hr2.1] at hl2
  go_wp2_with fail
  refine (product_any sa sb A1 A2 n1 c1 n2 c2 a.natAbs b.natAbs w2 hr12 hr2 (by omega) (by omega)).mono ?_
  rintro e w3 ⟨A3, n3, c3, rfl, hn3, hm3, hr3⟩
  have hl3 : (D (a.natAbs * b.natAbs)).length ≤ 60 := D_len_lt (by omega)
  rw [hr3.1] at hl3
  have HM := Lib.hid ((hm1.trans0 hm2).trans0 hm3)
  clear hr1 hr12 hr2 hm1 hm2 hm3
  go_wp2_with fail
  refine (is_any p ok _ A3 n3 c3 (a.natAbs * b.natAbs) w3 hr3 (by omega) hn3 HSG.out.symm).mono ?_
  rintro e w4 ⟨rfl, hm4⟩
  have HM4 := Lib.hid (HM.out.trans0 hm4)
  clear hm4 hr3
  go_wp2_with fail
  refine (lives_any w4).mono ?_
  rintro e w5 ⟨rfl, hm5⟩
  go_wp2
  go_ret
  exact ⟨rfl, HM4.out.trans0 hm5⟩
theorem products_walk (a b : Int) (w : World) (ha : (Lit.int .i64 a).wf = true) (hb : (Lit.int .i64 b).wf = true) :
    Calls Try.prog 6 #[.int .i64 a, .int .i64 b] w fun e w' => e = .returned (.bool true) ∧ Mod [] w w' := products_any a b w (bounds_i64 ha) (bounds_i64 hb)
end Go.Proofs.Ytijhlofmangpgaa
