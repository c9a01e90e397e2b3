/- The program's checked sums, quotients and remainders; the chapter's examples. -/
import Derived.Test.YtijhlofmangpgaaFixTxt
set_option linter.unusedVariables false
set_option linter.unusedSimpArgs false
namespace Go.Proofs.Ytijhlofmangpgaa
open Go.RowKit Go.Proofs.YtijhlofmangpgaaW.PrintWords Go.Proofs.Ytijhlofmangpgaa.Dig
theorem wrap_toNat (v : BitVec 64) : IntKind.i64.wrap (v.toNat : Int) = v.toInt := by
  have := v.isLt
  rw [IntKind.wrap_i64, BitVec.toInt_eq_toNat_cond]
  split <;> omega
theorem toInt_of {a : Int} (h0 : -9223372036854775808 ≤ a) (h1 : a ≤ 9223372036854775807) : (BitVec.ofInt 64 a).toInt = a := by
  rw [BitVec.toInt_ofInt, Int.bmod_def]
  simp only [Nat.reducePow]
  split <;> omega
theorem xor_val (a b : Int) : Go.bits .xor .i64 a b = (BitVec.ofInt 64 a ^^^ BitVec.ofInt 64 b).toInt := wrap_toNat _
theorem and_val (a b : Int) : Go.bits .and .i64 a b = (BitVec.ofInt 64 a &&& BitVec.ofInt 64 b).toInt := wrap_toNat _
theorem sign_bits {a b c d : Int} (ha : -9223372036854775808 ≤ a ∧ a ≤ 9223372036854775807) (hb : -9223372036854775808 ≤ b ∧ b ≤ 9223372036854775807) (hc : -9223372036854775808 ≤ c ∧ c ≤ 9223372036854775807) (hd : -9223372036854775808 ≤ d ∧ d ≤ 9223372036854775807) :
    decide (Go.bits .and .i64 (Go.bits .xor .i64 a b) (Go.bits .xor .i64 c d) < 0) = ((decide (a < 0) != decide (b < 0)) && (decide (c < 0) != decide (d < 0))) := by
  rw [and_val, xor_val, xor_val, BitVec.ofInt_toInt, BitVec.ofInt_toInt, ← BitVec.msb_eq_toInt, BitVec.msb_and, BitVec.msb_xor, BitVec.msb_xor]
  simp only [BitVec.msb_eq_toInt, toInt_of ha.1 ha.2, toInt_of hb.1 hb.2, toInt_of hc.1 hc.2, toInt_of hd.1 hd.2]
/-- A number, if it fits. -/
def fitN (x : Int) : Int × Bool := if -9223372036854775808 ≤ x ∧ x ≤ 9223372036854775807 then (x, true) else (0, false)
def FitPost (w : World) (r : Int × Bool) (e : Ending) (w' : World) : Prop := e = .returned (.tuple #[.int .i64 r.1, .bool r.2]) ∧ w = w'
theorem add_any (a b : Int) (w : World) (ha : -9223372036854775808 ≤ a ∧ a ≤ 9223372036854775807) (hb : -9223372036854775808 ≤ b ∧ b ≤ 9223372036854775807) :
    Calls Try.prog 19 #[.int .i64 a, .int .i64 b] w (FitPost w (fitN (a + b))) := by
  obtain ⟨s, hs⟩ : ∃ s, IntKind.i64.wrap (a + b) = s := ⟨_, rfl⟩
  have hsb : -9223372036854775808 ≤ s ∧ s ≤ 9223372036854775807 := by rw [← hs, IntKind.wrap_i64]; omega
  have hk := sign_bits ha hsb hb hsb
  by_cases hf : -9223372036854775808 ≤ a + b ∧ a + b ≤ 9223372036854775807
  · have e : s = a + b := by rw [← hs]; exact IntWalk.i64_in _ hf
    have hk0 : decide (Go.bits .and .i64 (Go.bits .xor .i64 a s) (Go.bits .xor .i64 b s) < 0) = false := by
      rw [hk]
      by_cases h1 : a < 0 <;> by_cases h2 : b < 0 <;> by_cases h3 : s < 0 <;> simp [h1, h2, h3] <;> omega
    rw [show fitN (a + b) = (s, true) by unfold fitN; rw [if_pos hf, e]]
    clear hk e hf
    go_enter Try.func19, Try.ntmps19
    go_wp2
    go_ret2
    exact ⟨rfl, rfl⟩
  · have hk0 : decide (Go.bits .and .i64 (Go.bits .xor .i64 a s) (Go.bits .xor .i64 b s) < 0) = true := by
      rw [hk]
      rw [IntKind.wrap_i64] at hs
      by_cases h1 : a < 0 <;> by_cases h2 : b < 0 <;> by_cases h3 : s < 0 <;> simp [h1, h2, h3] <;> omega
    rw [show fitN (a + b) = (0, false) by unfold fitN; rw [if_neg hf]]
    clear hk hf
    go_enter Try.func19, Try.ntmps19
    go_wp2
    go_ret2
    exact ⟨rfl, rfl⟩
theorem sub_any (a b : Int) (w : World) (ha : -9223372036854775808 ≤ a ∧ a ≤ 9223372036854775807) (hb : -9223372036854775808 ≤ b ∧ b ≤ 9223372036854775807) :
    Calls Try.prog 20 #[.int .i64 a, .int .i64 b] w (FitPost w (fitN (a - b))) := by
  obtain ⟨s, hs⟩ : ∃ s, IntKind.i64.wrap (a - b) = s := ⟨_, rfl⟩
  have hsb : -9223372036854775808 ≤ s ∧ s ≤ 9223372036854775807 := by rw [← hs, IntKind.wrap_i64]; omega
  have hk := sign_bits ha hb ha hsb
  by_cases hf : -9223372036854775808 ≤ a - b ∧ a - b ≤ 9223372036854775807
  · have e : s = a - b := by rw [← hs]; exact IntWalk.i64_in _ hf
    have hk0 : decide (Go.bits .and .i64 (Go.bits .xor .i64 a b) (Go.bits .xor .i64 a s) < 0) = false := by
      rw [hk]
      by_cases h1 : a < 0 <;> by_cases h2 : b < 0 <;> by_cases h3 : s < 0 <;> simp [h1, h2, h3] <;> omega
    rw [show fitN (a - b) = (s, true) by unfold fitN; rw [if_pos hf, e]]
    clear hk e hf
    go_enter Try.func20, Try.ntmps20
    go_wp2
    go_ret2
    exact ⟨rfl, rfl⟩
  · have hk0 : decide (Go.bits .and .i64 (Go.bits .xor .i64 a b) (Go.bits .xor .i64 a s) < 0) = true := by
      rw [hk]
      rw [IntKind.wrap_i64] at hs
      by_cases h1 : a < 0 <;> by_cases h2 : b < 0 <;> by_cases h3 : s < 0 <;> simp [h1, h2, h3] <;> omega
    rw [show fitN (a - b) = (0, false) by unfold fitN; rw [if_neg hf]]
    clear hk hf
    go_enter Try.func20, Try.ntmps20
    go_wp2
    go_ret2
    exact ⟨rfl, rfl⟩
def remN (a b : Int) : Int × Bool := (if b = 0 then 0 else a.tmod b, b != 0)
theorem rem_any (a b : Int) (w : World) (ha : -9223372036854775808 ≤ a ∧ a ≤ 9223372036854775807) (hb : -9223372036854775808 ≤ b ∧ b ≤ 9223372036854775807) :
    Calls Try.prog 11 #[.int .i64 a, .int .i64 b] w (FitPost w (remN a b)) := by
  by_cases h0 : b = 0
  · subst h0
    go_enter Try.func11, Try.ntmps11
    go_wp2
    go_ret2
    exact ⟨rfl, rfl⟩
  · by_cases h1 : b = -1
    · subst h1
      have e : remN a (-1) = (0, true) := by unfold remN; rw [if_neg (by omega), Int.tmod_neg, Int.tmod_one]; rfl
      rw [e]
      go_enter Try.func11, Try.ntmps11
      go_wp2
      go_ret2
      exact ⟨rfl, rfl⟩
    · have e : remN a b = (a.tmod b, true) := by unfold remN; rw [if_neg h0]; simp [h0]
      rw [e]
      have t1 : (b == 0) = false := by simpa using h0
      have t2 : (b == -1) = false := by simpa using h1
      clear e
      go_enter Try.func11, Try.ntmps11
      go_wp2
      go_ret2
      exact ⟨rfl, rfl⟩
def modN (a b : Int) : Int × Bool := (if (remN a b).1 ≠ 0 ∧ decide ((remN a b).1 < 0) ≠ decide (b < 0) then (remN a b).1 + b else (remN a b).1, (remN a b).2)
theorem tmod_bd {a b : Int} (hb : b ≠ 0) : (a.tmod b).natAbs < b.natAbs ∧ (0 ≤ a → 0 ≤ a.tmod b) ∧ (a ≤ 0 → a.tmod b ≤ 0) := by
  refine ⟨by rw [Int.natAbs_tmod]; exact Nat.mod_lt _ (by omega), fun h => Int.tmod_nonneg _ h, fun h => ?_⟩
  have := Int.tmod_nonneg b (a := -a) (by omega)
  rw [Int.neg_tmod] at this
  omega
theorem mod_any (a b : Int) (w : World) (ha : -9223372036854775808 ≤ a ∧ a ≤ 9223372036854775807) (hb : -9223372036854775808 ≤ b ∧ b ≤ 9223372036854775807) :
    Calls Try.prog 12 #[.int .i64 a, .int .i64 b] w (FitPost w (modN a b)) := by
  have hr := rem_any a b w ha hb
  have hbd : b = 0 ∧ (remN a b).1 = 0 ∨ b ≠ 0 ∧ (remN a b).1.natAbs < b.natAbs := by
    unfold remN
    by_cases h : b = 0
    · exact .inl ⟨h, by rw [if_pos h]⟩
    · exact .inr ⟨h, by simp only []; rw [if_neg h]; exact (tmod_bd h).1⟩
  unfold modN
  obtain ⟨⟨r, ok⟩, hro⟩ : ∃ p, remN a b = p := ⟨_, rfl⟩
  rw [hro] at hr hbd ⊢
  simp only at hbd ⊢
  clear hro
  by_cases hr0 : r = 0
  · rw [if_neg (by simp [hr0])]
    subst hr0
    go_enter Try.func12, Try.ntmps12
    go_wp2_with fail
    refine hr.mono ?_
    rintro e w1 ⟨rfl, rfl⟩
    go_wp2
    go_ret2
    exact ⟨rfl, rfl⟩
  · have t1 : (r == 0) = false := by simpa using hr0
    by_cases h1 : r < 0
    · have t2 : decide (r < 0) = true := by simpa using h1
      by_cases h2 : b < 0
      · have t3 : decide (b < 0) = true := by simpa using h2
        rw [if_neg (by simp [h1, h2])]
        go_enter Try.func12, Try.ntmps12
        go_wp2_with fail
        refine hr.mono ?_
        rintro e w1 ⟨rfl, rfl⟩
        go_wp2
        go_ret2
        exact ⟨rfl, rfl⟩
      · have t3 : decide (b < 0) = false := by simpa using h2
        rw [if_pos ⟨hr0, by simp [h1, h2]⟩]
        have q1 : IntKind.i64.wrap (r + b) = r + b := IntWalk.i64_in _ (by omega)
        go_enter Try.func12, Try.ntmps12
        go_wp2_with fail
        refine hr.mono ?_
        rintro e w1 ⟨rfl, rfl⟩
        go_wp2
        go_ret2
        exact ⟨rfl, rfl⟩
    · have t2 : decide (r < 0) = false := by simpa using h1
      by_cases h2 : b < 0
      · have t3 : decide (b < 0) = true := by simpa using h2
        rw [if_pos ⟨hr0, by simp [h1, h2]⟩]
        have q1 : IntKind.i64.wrap (r + b) = r + b := IntWalk.i64_in _ (by omega)
        go_enter Try.func12, Try.ntmps12
        go_wp2_with fail
        refine hr.mono ?_
        rintro e w1 ⟨rfl, rfl⟩
        go_wp2
        go_ret2
        exact ⟨rfl, rfl⟩
      · have t3 : decide (b < 0) = false := by simpa using h2
        rw [if_neg (by simp [h1, h2])]
        go_enter Try.func12, Try.ntmps12
        go_wp2_with fail
        refine hr.mono ?_
        rintro e w1 ⟨rfl, rfl⟩
        go_wp2
        go_ret2
        exact ⟨rfl, rfl⟩
def quoN (a b : Int) : Int × Bool := if b = 0 ∨ a = -9223372036854775808 ∧ b = -1 then (0, false) else (a.tdiv b, true)
theorem tdiv_bd {a b : Int} (ha : -9223372036854775808 ≤ a ∧ a ≤ 9223372036854775807) (h : ¬ (b = 0 ∨ a = -9223372036854775808 ∧ b = -1)) : -9223372036854775808 ≤ a.tdiv b ∧ a.tdiv b ≤ 9223372036854775807 := by
  have h1 : (a.tdiv b).natAbs = a.natAbs / b.natAbs := Int.natAbs_tdiv a b
  have h2 : a.natAbs / b.natAbs ≤ a.natAbs := Nat.div_le_self _ _
  by_cases h3 : a = -9223372036854775808
  · by_cases h4 : b = 1
    · subst h4; rw [Int.tdiv_one]; exact ha
    · have h5 : 2 ≤ b.natAbs := by omega
      have h6 : a.natAbs / b.natAbs ≤ a.natAbs / 2 := Nat.div_le_div_left h5 (by omega)
      omega
  · omega
theorem quo_any (a b : Int) (w : World) (ha : -9223372036854775808 ≤ a ∧ a ≤ 9223372036854775807) (hb : -9223372036854775808 ≤ b ∧ b ≤ 9223372036854775807) :
    Calls Try.prog 10 #[.int .i64 a, .int .i64 b] w (FitPost w (quoN a b)) := by
  by_cases h : b = 0 ∨ a = -9223372036854775808 ∧ b = -1
  · have e : quoN a b = (0, false) := by unfold quoN; rw [if_pos h]
    rw [e]
    rcases h with rfl | ⟨rfl, rfl⟩
    · go_enter Try.func10, Try.ntmps10
      go_wp2
      go_ret2
      exact ⟨rfl, rfl⟩
    · go_enter Try.func10, Try.ntmps10
      go_wp2
      go_ret2
      exact ⟨rfl, rfl⟩
  · have e : quoN a b = (a.tdiv b, true) := by unfold quoN; rw [if_neg h]
    rw [e]
    have q1 : IntKind.i64.wrap (a.tdiv b) = a.tdiv b := IntWalk.i64_in _ (tdiv_bd ha h)
    have t0 : (b == 0) = false := by simp; omega
    have h0 : ¬ b = 0 := by omega
    clear e
    by_cases h1 : a = -9223372036854775808
    · have t1 : (a == -9223372036854775808) = true := by simpa using h1
      have t2 : (b == -1) = false := by simp; omega
      clear h h1
      go_enter Try.func10, Try.ntmps10
      go_wp2
      go_ret2
      exact ⟨rfl, rfl⟩
    · have t1 : (a == -9223372036854775808) = false := by simpa using h1
      clear h
      go_enter Try.func10, Try.ntmps10
      go_wp2
      go_ret2
      exact ⟨rfl, rfl⟩
theorem txt_ff : txt (-255) 16 = [45, 102, 102] := by
  have e : TT 16 255 = [ch 15, ch 15] := by
    unfold TT
    rw [if_neg (by omega), TB_pos (by omega) (by omega), show 255 / 16 = 15 from rfl, TB_pos (by omega) (by omega), show 15 / 16 = 0 from rfl, TB_zero]
  unfold txt
  rw [if_pos (by omega), show (-255 : Int).natAbs = 255 from rfl, e]; rfl
theorem lives_any (w : World) : Calls Try.prog 13 #[] w fun e w' => e = .returned (.bool true) ∧ Mod [] w w' := by
  have h1 := add_any 9223372036854775807 1 w (by omega) (by omega)
  rw [show fitN (9223372036854775807 + 1) = (0, false) by rfl] at h1
  have h2 := mod_any (-7) 2 w (by omega) (by omega)
  rw [show modN (-7) 2 = (1, true) by rfl] at h2
  have h3 := rem_any (-7) 2 w (by omega) (by omega)
  rw [show remN (-7) 2 = (-1, true) by rfl] at h3
  have h4 := text_any (-255) 16 w (by omega) (by omega) (by omega) (by omega)
  rw [txt_ff] at h4
  have HE := Lib.hid (show strOfNums [45, 102, 102] = ⟨#[45, 102, 102]⟩ from rfl)
  rw [HE.out] at h4
  go_enter Try.func13, Try.ntmps13
  go_wp2_with fail
  refine h1.mono ?_
  rintro e w1 ⟨rfl, rfl⟩
  go_wp2_with fail
  refine h2.mono ?_
  rintro e w1 ⟨rfl, rfl⟩
  go_wp2_with fail
  refine h3.mono ?_
  rintro e w1 ⟨rfl, rfl⟩
  go_wp2_with fail
  refine h4.mono ?_
  rintro e w1 ⟨rfl, hm⟩
  go_wp2
  go_ret
  exact ⟨rfl, hm⟩
end Go.Proofs.Ytijhlofmangpgaa
