/- What was written is taken off as it was; of less bytes nothing is taken off. Plain lists. -/
import Derived.Test.YtdkmkiiaklkcgaaEncSame
set_option linter.unusedVariables false
set_option linter.unusedSimpArgs false
namespace Go.Proofs.Ytdkmkiiaklkcgaa
open Go.RowKit Go.Proofs.YtdkmkiiaklkcgaaW.PrintWords
theorem pow_le_128 {k : Nat} (h : k ≤ 9) : 128 ^ k ≤ 9223372036854775808 := Nat.le_trans (Nat.pow_le_pow_right (by omega) h) (by decide)
theorem numL_put (rest : List Int) (x : Nat) : ∀ (k a : Nat), k ≤ 9 → x * 128 ^ k < 18446744073709551616 → (k = 0 ∨ 0 < x) → numL (uput x ++ rest) k a = (a + x * 128 ^ k, k + (uput x).length, 0) := by
  induction x using Nat.strongRecOn with
  | _ x ih =>
    intro k a hk hx hp
    by_cases h : x < 128
    · rw [uput_lo h, List.singleton_append, numL, if_neg, if_pos (by omega), if_neg, Int.toNat_natCast, Nat.mod_eq_of_lt h]
      · rfl
      · omega
      · rintro (h9 | ⟨rfl, h1⟩)
        · omega
        · omega
    · have e : 128 ^ (k + 1) = 128 ^ k * 128 := Nat.pow_succ ..
      have hpow : 0 < 128 ^ k := Nat.pow_pos (by omega)
      have h9 : k ≠ 9 := by
        rintro rfl
        omega
      rw [uput_hi h, List.cons_append, numL, if_neg (by omega), if_neg (by omega), Int.toNat_natCast]
      have hdiv : x = x / 128 * 128 + x % 128 := by omega
      have hmul : x / 128 * 128 ^ (k + 1) + x % 128 * 128 ^ k = x * 128 ^ k := by
        rw [e]
        conv => rhs; rw [hdiv]
        rw [Nat.add_mul, Nat.mul_comm (128 ^ k) 128, Nat.mul_assoc]
      rw [ih (x / 128) (by omega) (k + 1) _ (by omega) (by omega) (by omega), show (x % 128 + 128) % 128 = x % 128 by omega, List.length_cons]
      refine Prod.ext ?_ (Prod.ext ?_ rfl)
      · show _ + _ + _ = _; omega
      · show k + 1 + _ = k + (_ + 1); omega
theorem numL_cut (x : Nat) : ∀ (k a j : Nat), k ≤ 9 → x * 128 ^ k < 18446744073709551616 → j < (uput x).length → numL ((uput x).take j) k a = (0, 0, 3) := by
  induction x using Nat.strongRecOn with
  | _ x ih =>
    intro k a j hk hx hj
    by_cases h : x < 128
    · rw [uput_lo h] at hj ⊢
      obtain rfl : j = 0 := by simp at hj; omega
      rfl
    · have e : 128 ^ (k + 1) = 128 ^ k * 128 := Nat.pow_succ ..
      have hpow : 0 < 128 ^ k := Nat.pow_pos (by omega)
      have h9 : k ≠ 9 := by
        rintro rfl
        omega
      cases j with
      | zero => rw [List.take_zero]; rfl
      | succ j =>
        rw [uput_hi h] at hj ⊢
        rw [List.take_succ_cons, numL, if_neg (by omega), if_neg (by omega)]
        have hdiv : x = x / 128 * 128 + x % 128 := by omega
        have hmul : x / 128 * 128 ^ (k + 1) + x % 128 * 128 ^ k = x * 128 ^ k := by
          rw [e]
          conv => rhs; rw [hdiv]
          rw [Nat.add_mul, Nat.mul_comm (128 ^ k) 128, Nat.mul_assoc]
        exact ih (x / 128) (by omega) (k + 1) _ j (by omega) (by omega) (by simpa using hj)
theorem rcount_ok {bs rest : List Int} {p x : Nat} {limit : Int} (h : bs.drop p = uput x ++ rest) (hx : x < 9223372036854775808) (hl : (x : Int) ≤ limit) : rcount bs p limit = (x, p + (uput x).length, 0) := by
  have e := numL_put rest x 0 0 (by omega) (by omega) (.inl rfl)
  rw [← h] at e
  unfold rcount
  rw [e]
  simp only [Nat.pow_zero, Nat.mul_one, Nat.zero_add]
  rw [if_neg (by omega), if_neg (by omega), if_neg (by omega)]
theorem rcount_cut {bs : List Int} {p x j : Nat} {limit : Int} (h : bs.drop p = (uput x).take j) (hj : j < (uput x).length) (hx : x < 9223372036854775808) : rcount bs p limit = (0, p, 3) := by
  have e := numL_cut x 0 0 j (by omega) (by omega) hj
  rw [← h] at e
  unfold rcount
  rw [e]; rfl
theorem rwhole_ok {bs rest : List Int} {p x : Nat} (h : bs.drop p = uput x ++ rest) (hx : x < 18446744073709551616) : rwhole bs p = (unzz x, p + (uput x).length, 0) := by
  have e := numL_put rest x 0 0 (by omega) (by omega) (.inl rfl)
  rw [← h] at e
  unfold rwhole
  rw [e]
  simp only [Nat.pow_zero, Nat.mul_one, Nat.zero_add]
  rw [if_neg (by omega)]
theorem rwhole_cut {bs : List Int} {p x j : Nat} (h : bs.drop p = (uput x).take j) (hj : j < (uput x).length) (hx : x < 18446744073709551616) : rwhole bs p = (0, p, 3) := by
  have e := numL_cut x 0 0 j (by omega) (by omega) hj
  rw [← h] at e
  unfold rwhole
  rw [e]; rfl
theorem rsized_ok {bs rest ds : List Int} {p : Nat} {limit : Int} (h : bs.drop p = uput ds.length ++ ds ++ rest) (hp : p ≤ bs.length) (hx : ds.length < 9223372036854775808) (hl : (ds.length : Int) ≤ limit) :
    rsized bs p limit = (ds, p + (uput ds.length ++ ds).length, 0) := by
  have e := rcount_ok (rest := ds ++ rest) (by rw [h, List.append_assoc]) hx hl
  have hlen : bs.length = p + ((uput ds.length).length + ds.length + rest.length) := by
    have := congrArg List.length h
    simp only [List.length_drop, List.length_append] at this
    omega
  have hd : bs.drop (p + (uput ds.length).length) = ds ++ rest := by
    rw [← List.drop_drop, h, List.append_assoc, List.drop_left]
  unfold rsized
  rw [e]
  simp only
  rw [if_neg (by omega), if_neg (by omega), hd, List.take_left, List.length_append, Nat.add_assoc]
theorem rsized_cut {bs ds : List Int} {p j : Nat} {limit : Int} (h : bs.drop p = (uput ds.length ++ ds).take j) (hp : p ≤ bs.length) (hj : j < (uput ds.length ++ ds).length) (hx : ds.length < 9223372036854775808) (hl : (ds.length : Int) ≤ limit) :
    rsized bs p limit = ([], p, 3) := by
  rw [List.length_append] at hj
  by_cases hju : j < (uput ds.length).length
  · have e := rcount_cut (limit := limit) (x := ds.length) (j := j) (by rw [h, List.take_append_of_le_length (by omega)]) hju hx
    unfold rsized
    rw [e]; rfl
  · have e := rcount_ok (rest := ds.take (j - (uput ds.length).length)) (by rw [h, List.take_append, List.take_of_length_le (by omega)]) hx hl
    have hlen : bs.length = p + j := by
      have := congrArg List.length h
      simp only [List.length_drop, List.length_take, List.length_append] at this
      omega
    unfold rsized
    rw [e]
    simp only
    rw [if_neg (by omega), if_pos (by omega)]
theorem rsame_ok {bs rest : List Int} {p : Nat} {o : EOp} (h : bs.drop p = encOne o ++ rest) (hp : p ≤ bs.length) (hok : o.ok) (hd : o.data.length ≤ 300) : rsame bs p o = (true, p + (encOne o).length, 0) := by
  obtain ⟨h1, h2, h3⟩ := hok
  by_cases hk : o.kind = 0
  · have e : encOne o = uput o.n.toNat := by unfold encOne; rw [if_pos hk]
    rw [e] at h ⊢
    unfold rsame
    rw [if_pos hk, rcount_ok h (by omega) (by omega)]
    simp only
    rw [show ((o.n.toNat : Int) == max o.n 0) = true by simp]
  · by_cases hk1 : o.kind = 1
    · have e : encOne o = uput (zz o.n) := by unfold encOne; rw [if_neg hk, if_pos hk1]
      rw [e] at h ⊢
      unfold rsame
      rw [if_neg hk, if_pos hk1, rwhole_ok h (zz_lt h1 h2), unzz_zz]
      simp
    · have e : encOne o = uput o.data.length ++ o.data := by unfold encOne; rw [if_neg hk, if_neg hk1]
      rw [e] at h ⊢
      unfold rsame
      rw [if_neg hk, if_neg hk1, rsized_ok (ds := o.data) h hp (by omega) (by omega)]
      simp
theorem rsame_cut {bs : List Int} {p j : Nat} {o : EOp} (h : bs.drop p = (encOne o).take j) (hj : j < (encOne o).length) (hp : p ≤ bs.length) (hok : o.ok) (hd : o.data.length ≤ 300) : ∃ b, rsame bs p o = (b, p, 3) := by
  obtain ⟨h1, h2, h3⟩ := hok
  by_cases hk : o.kind = 0
  · have e : encOne o = uput o.n.toNat := by unfold encOne; rw [if_pos hk]
    rw [e] at h hj
    unfold rsame
    rw [if_pos hk, rcount_cut h hj (by omega)]
    exact ⟨_, rfl⟩
  · by_cases hk1 : o.kind = 1
    · have e : encOne o = uput (zz o.n) := by unfold encOne; rw [if_neg hk, if_pos hk1]
      rw [e] at h hj
      unfold rsame
      rw [if_neg hk, if_pos hk1, rwhole_cut h hj (zz_lt h1 h2)]
      exact ⟨_, rfl⟩
    · have e : encOne o = uput o.data.length ++ o.data := by unfold encOne; rw [if_neg hk, if_neg hk1]
      rw [e] at h hj
      unfold rsame
      rw [if_neg hk, if_neg hk1, rsized_cut (ds := o.data) h hp hj (by omega) (by omega)]
      exact ⟨_, rfl⟩
end Go.Proofs.Ytdkmkiiaklkcgaa
