/- Powers and roots. -/
import Derived.Test.YtijhlofmangpgaaFixProd
set_option linter.unusedVariables false
set_option linter.unusedSimpArgs false
namespace Go.Proofs.Ytijhlofmangpgaa
open Go.RowKit Go.Proofs.YtijhlofmangpgaaW.PrintWords
def Fits (x : Int) : Prop := -9223372036854775808 ≤ x ∧ x ≤ 9223372036854775807
theorem fitN_yes {x : Int} (h : Fits x) : fitN x = (x, true) := if_pos h
theorem fitN_no {x : Int} (h : ¬ Fits x) : fitN x = (0, false) := if_neg h
theorem pow_big {a : Int} (ha : 2 ≤ a.natAbs) {k m : Nat} (hk : ¬ Fits (a ^ k)) (h : k ≤ m) : ¬ Fits (a ^ m) := by
  rcases Nat.lt_or_eq_of_le h with h | h
  · obtain ⟨d, rfl⟩ : ∃ d, m = k + 1 + d := ⟨m - k - 1, by omega⟩
    have h1 : 9223372036854775808 ≤ (a ^ k).natAbs := by unfold Fits at hk; omega
    have h2 : (a ^ (k + 1 + d)).natAbs = (a ^ k).natAbs * (a.natAbs * a.natAbs ^ d) := by
      rw [Int.natAbs_pow, Int.natAbs_pow, Nat.pow_add, Nat.pow_add, Nat.pow_one, Nat.mul_assoc]
    have h3 : 2 ≤ a.natAbs * a.natAbs ^ d := Nat.le_trans ha (Nat.le_mul_of_pos_right _ (Nat.pow_pos (by omega)))
    have h4 : 9223372036854775808 * 2 ≤ (a ^ (k + 1 + d)).natAbs := by rw [h2]; exact Nat.mul_le_mul h1 h3
    unfold Fits; omega
  · subst h; exact hk
theorem pow_64 {a : Int} (ha : 2 ≤ a.natAbs) {m : Nat} (h : 64 ≤ m) : ¬ Fits (a ^ m) := by
  have h1 : 2 ^ m ≤ (a ^ m).natAbs := by rw [Int.natAbs_pow]; exact Nat.pow_le_pow_left ha m
  have h2 : 2 ^ 64 ≤ 2 ^ m := Nat.pow_le_pow_right (by omega) h
  unfold Fits; omega
def powR (a n : Int) : Int × Bool := if n < 0 then (0, false) else fitN (a ^ n.toNat)
theorem pow_small (n : Nat) : (1 : Int) ^ n = 1 ∧ ((0 : Int) ^ n = if n = 0 then 1 else 0) ∧ ((-1 : Int) ^ n = if n % 2 = 0 then 1 else -1) := by
  refine ⟨Int.one_pow, ?_, ?_⟩
  · cases n with
    | zero => rfl
    | succ n => rw [Int.pow_succ]; simp
  · induction n with
    | zero => rfl
    | succ n ih =>
      rw [Int.pow_succ, ih]
      by_cases h : n % 2 = 0
      · rw [if_pos h, if_neg (by omega)]; rfl
      · rw [if_neg h, if_pos (by omega)]; rfl
set_option maxRecDepth 100000 in
set_option maxHeartbeats 1000000 in
theorem pow_any (a n : Int) (w : World) (ha : Fits a) (hn : Fits n) : Calls Try.prog 26 #[.int .i64 a, .int .i64 n] w (FitPost w (powR a n)) := by
  unfold powR
  by_cases hn0 : n < 0
  · rw [if_pos hn0]
    go_enter Try.func26, Try.ntmps26
    go_wp2
    go_ret2
    exact ⟨rfl, rfl⟩
  · rw [if_neg hn0]
    obtain ⟨m, rfl⟩ := Int.eq_ofNat_of_zero_le (by omega : 0 ≤ n)
    rw [Int.toNat_natCast]
    have hn1 : ¬ (m : Int) < 0 := by omega
    obtain ⟨p1, p2, p3⟩ := pow_small m
    by_cases hs : a.natAbs ≤ 1
    · have hcase : a = -1 ∨ a = 0 ∨ a = 1 := by omega
      by_cases hm0 : m = 0
      · subst hm0
        rw [fitN_yes (by rw [Int.pow_zero]; unfold Fits; omega), Int.pow_zero]
        rcases hcase with rfl | rfl | rfl
        all_goals
          go_enter Try.func26, Try.ntmps26
          go_wp2
          go_ret2
          exact ⟨rfl, rfl⟩
      · have hm1 : ((m : Int) == 0) = false := by simp; omega
        rcases hcase with rfl | rfl | rfl
        · rw [p3]
          by_cases he : m % 2 = 0
          · rw [if_pos he, fitN_yes (by unfold Fits; omega)]
            have he2 : ((m : Int) % 2 == 0) = true := by simp; omega
            go_enter Try.func26, Try.ntmps26
            go_wp2
            go_ret2
            exact ⟨rfl, rfl⟩
          · rw [if_neg he, fitN_yes (by unfold Fits; omega)]
            have he2 : ((m : Int) % 2 == 0) = false := by simp; omega
            go_enter Try.func26, Try.ntmps26
            go_wp2
            go_ret2
            exact ⟨rfl, rfl⟩
        · rw [p2, if_neg hm0, fitN_yes (by unfold Fits; omega)]
          go_enter Try.func26, Try.ntmps26
          go_wp2
          go_ret2
          exact ⟨rfl, rfl⟩
        · rw [p1, fitN_yes (by unfold Fits; omega)]
          go_enter Try.func26, Try.ntmps26
          go_wp2
          go_ret2
          exact ⟨rfl, rfl⟩
    · have h2 : 2 ≤ a.natAbs := by omega
      have c1 : ¬ (-1 ≤ a ∧ a ≤ 1) := by omega
      by_cases hlo : -1 ≤ a
      · have hhi : ¬ a ≤ 1 := by omega
        by_cases hm64 : m ≤ 64
        · have h64 : (m : Int) ≤ 64 := by omega
          have h64b : ¬ (64 : Int) < (m : Int) := by omega
          go_enter Try.func26, Try.ntmps26
          go_wp2_with fail
          go_loopw [6, 7, 30] (fun p ok i wr => ∃ k : Nat, i = .int .i64 (k : Int) ∧ k ≤ m ∧ p = .int .i64 (a ^ k) ∧ ok = .bool true ∧ Fits (a ^ k) ∧ w = wr) (fun _ _ i _ => m - (intOf i).toNat)
          case atStart => exact ⟨0, rfl, by omega, by rw [Int.pow_zero], rfl, by rw [Int.pow_zero]; unfold Fits; omega, rfl⟩
          case round =>
            obtain ⟨k, rfl, hk, rfl, rfl, hf, rfl⟩ := hrel
            have HM := mul_any (a ^ k) a w hf ha
            rw [← Int.pow_succ] at HM
            by_cases hlt : k < m
            · have hlt2 : (k : Int) < (m : Int) := by omega
              have HF := Lib.hid hf
              by_cases hfit : Fits (a ^ (k + 1))
              · rw [fitN_yes hfit] at HM
                have HF1 := Lib.hid hfit
                clear hf hfit
                obtain ⟨p1, hp1⟩ : ∃ p1, a ^ (k + 1) = p1 := ⟨_, rfl⟩
                rw [hp1] at HM
                have HP1 := Lib.hid hp1
                clear hp1
                go_wp2_with fail
                refine HM.mono ?_
                rintro e w1 ⟨rfl, rfl⟩
                go_wp2
                go_roundw
                case rel => exact ⟨k + 1, by go_num, by omega, by rw [HP1.out], rfl, HF1.out, trivial⟩
                case measure => simp [intOf]; omega
              · rw [fitN_no hfit] at HM
                have hno := Lib.hid (pow_big h2 hfit (show k + 1 ≤ m by omega))
                clear hf hfit
                go_wp2_with fail
                refine HM.mono ?_
                rintro e w1 ⟨rfl, rfl⟩
                go_wp2
                go_ret2
                rw [fitN_no hno.out]
                exact ⟨rfl, rfl⟩
            · obtain rfl : k = m := by omega
              have HF := Lib.hid hf
              clear HM hf
              have hlt2 : ¬ ((k : Nat) : Int) < (k : Int) := by omega
              go_wp2
              go_ret2
              rw [fitN_yes HF.out]
              exact ⟨rfl, rfl⟩
        · have h64 : ¬ (m : Int) ≤ 64 := by omega
          have h64b : (64 : Int) < (m : Int) := by omega
          go_enter Try.func26, Try.ntmps26
          go_wp2_with fail
          go_loopw [6, 7, 30] (fun p ok i wr => ∃ k : Nat, i = .int .i64 (k : Int) ∧ k ≤ 64 ∧ p = .int .i64 (a ^ k) ∧ ok = .bool true ∧ Fits (a ^ k) ∧ w = wr) (fun _ _ i _ => 64 - (intOf i).toNat)
          case atStart => exact ⟨0, rfl, by omega, by rw [Int.pow_zero], rfl, by rw [Int.pow_zero]; unfold Fits; omega, rfl⟩
          case round =>
            obtain ⟨k, rfl, hk, rfl, rfl, hf, rfl⟩ := hrel
            have HM := mul_any (a ^ k) a w hf ha
            rw [← Int.pow_succ] at HM
            by_cases hlt : k < 64
            · have hlt2 : (k : Int) < 64 := by omega
              have HF := Lib.hid hf
              by_cases hfit : Fits (a ^ (k + 1))
              · rw [fitN_yes hfit] at HM
                have HF1 := Lib.hid hfit
                clear hf hfit
                obtain ⟨p1, hp1⟩ : ∃ p1, a ^ (k + 1) = p1 := ⟨_, rfl⟩
                rw [hp1] at HM
                have HP1 := Lib.hid hp1
                clear hp1
                go_wp2_with fail
                refine HM.mono ?_
                rintro e w1 ⟨rfl, rfl⟩
                go_wp2
                go_roundw
                case rel => exact ⟨k + 1, by go_num, by omega, by rw [HP1.out], rfl, HF1.out, trivial⟩
                case measure => simp [intOf]; omega
              · rw [fitN_no hfit] at HM
                have hno := Lib.hid (pow_big h2 hfit (show k + 1 ≤ m by omega))
                clear hf hfit
                go_wp2_with fail
                refine HM.mono ?_
                rintro e w1 ⟨rfl, rfl⟩
                go_wp2
                go_ret2
                rw [fitN_no hno.out]
                exact ⟨rfl, rfl⟩
            · obtain rfl : k = 64 := by omega
              exact absurd hf (pow_64 h2 (Nat.le_refl _))
      · have hhi2 : a < -1 := by omega
        by_cases hm64 : m ≤ 64
        · have h64 : (m : Int) ≤ 64 := by omega
          have h64b : ¬ (64 : Int) < (m : Int) := by omega
          go_enter Try.func26, Try.ntmps26
          go_wp2_with fail
          go_loopw [6, 7, 30] (fun p ok i wr => ∃ k : Nat, i = .int .i64 (k : Int) ∧ k ≤ m ∧ p = .int .i64 (a ^ k) ∧ ok = .bool true ∧ Fits (a ^ k) ∧ w = wr) (fun _ _ i _ => m - (intOf i).toNat)
          case atStart => exact ⟨0, rfl, by omega, by rw [Int.pow_zero], rfl, by rw [Int.pow_zero]; unfold Fits; omega, rfl⟩
          case round =>
            obtain ⟨k, rfl, hk, rfl, rfl, hf, rfl⟩ := hrel
            have HM := mul_any (a ^ k) a w hf ha
            rw [← Int.pow_succ] at HM
            by_cases hlt : k < m
            · have hlt2 : (k : Int) < (m : Int) := by omega
              have HF := Lib.hid hf
              by_cases hfit : Fits (a ^ (k + 1))
              · rw [fitN_yes hfit] at HM
                have HF1 := Lib.hid hfit
                clear hf hfit
                obtain ⟨p1, hp1⟩ : ∃ p1, a ^ (k + 1) = p1 := ⟨_, rfl⟩
                rw [hp1] at HM
                have HP1 := Lib.hid hp1
                clear hp1
                go_wp2_with fail
                refine HM.mono ?_
                rintro e w1 ⟨rfl, rfl⟩
                go_wp2
                go_roundw
                case rel => exact ⟨k + 1, by go_num, by omega, by rw [HP1.out], rfl, HF1.out, trivial⟩
                case measure => simp [intOf]; omega
              · rw [fitN_no hfit] at HM
                have hno := Lib.hid (pow_big h2 hfit (show k + 1 ≤ m by omega))
                clear hf hfit
                go_wp2_with fail
                refine HM.mono ?_
                rintro e w1 ⟨rfl, rfl⟩
                go_wp2
                go_ret2
                rw [fitN_no hno.out]
                exact ⟨rfl, rfl⟩
            · obtain rfl : k = m := by omega
              have HF := Lib.hid hf
              clear HM hf
              have hlt2 : ¬ ((k : Nat) : Int) < (k : Int) := by omega
              go_wp2
              go_ret2
              rw [fitN_yes HF.out]
              exact ⟨rfl, rfl⟩
        · have h64 : ¬ (m : Int) ≤ 64 := by omega
          have h64b : (64 : Int) < (m : Int) := by omega
          go_enter Try.func26, Try.ntmps26
          go_wp2_with fail
          go_loopw [6, 7, 30] (fun p ok i wr => ∃ k : Nat, i = .int .i64 (k : Int) ∧ k ≤ 64 ∧ p = .int .i64 (a ^ k) ∧ ok = .bool true ∧ Fits (a ^ k) ∧ w = wr) (fun _ _ i _ => 64 - (intOf i).toNat)
          case atStart => exact ⟨0, rfl, by omega, by rw [Int.pow_zero], rfl, by rw [Int.pow_zero]; unfold Fits; omega, rfl⟩
          case round =>
            obtain ⟨k, rfl, hk, rfl, rfl, hf, rfl⟩ := hrel
            have HM := mul_any (a ^ k) a w hf ha
            rw [← Int.pow_succ] at HM
            by_cases hlt : k < 64
            · have hlt2 : (k : Int) < 64 := by omega
              have HF := Lib.hid hf
              by_cases hfit : Fits (a ^ (k + 1))
              · rw [fitN_yes hfit] at HM
                have HF1 := Lib.hid hfit
                clear hf hfit
                obtain ⟨p1, hp1⟩ : ∃ p1, a ^ (k + 1) = p1 := ⟨_, rfl⟩
                rw [hp1] at HM
                have HP1 := Lib.hid hp1
                clear hp1
                go_wp2_with fail
                refine HM.mono ?_
                rintro e w1 ⟨rfl, rfl⟩
                go_wp2
                go_roundw
                case rel => exact ⟨k + 1, by go_num, by omega, by rw [HP1.out], rfl, HF1.out, trivial⟩
                case measure => simp [intOf]; omega
              · rw [fitN_no hfit] at HM
                have hno := Lib.hid (pow_big h2 hfit (show k + 1 ≤ m by omega))
                clear hf hfit
                go_wp2_with fail
                refine HM.mono ?_
                rintro e w1 ⟨rfl, rfl⟩
                go_wp2
                go_ret2
                rw [fitN_no hno.out]
                exact ⟨rfl, rfl⟩
            · obtain rfl : k = 64 := by omega
              exact absurd hf (pow_64 h2 (Nat.le_refl _))
theorem bits_or (x y : Nat) (hx : x < 9223372036854775808) (hy : y < 9223372036854775808) (h : x ||| y = x + y) (hs : x + y < 9223372036854775808) : bits .or .i64 (x : Int) (y : Int) = ((x + y : Nat) : Int) := by
  show IntKind.i64.wrap (((BitVec.ofInt 64 (x : Int)) ||| (BitVec.ofInt 64 (y : Int))).toNat : Int) = _
  rw [BitVec.ofInt_natCast, BitVec.ofInt_natCast, BitVec.toNat_or, BitVec.toNat_ofNat, BitVec.toNat_ofNat, Nat.mod_eq_of_lt (by omega), Nat.mod_eq_of_lt (by omega), h]
  exact IntWalk.i64_in _ (by omega)
theorem or_add (q j : Nat) : q * (2 * 2 ^ j) ||| 2 ^ j = q * (2 * 2 ^ j) + 2 ^ j := by
  have h := Nat.two_pow_add_eq_or_of_lt (i := j + 1) (b := 2 ^ j) (Nat.pow_lt_pow_right (by omega) (by omega)) q
  rw [show 2 ^ (j + 1) * q = q * (2 * 2 ^ j) by rw [Nat.pow_succ, Nat.mul_comm, Nat.mul_comm (2 ^ j)]] at h
  exact h.symm
theorem sq_le {x y : Nat} (h : x ≤ y) : x * x ≤ y * y := Nat.mul_le_mul h h
def RootPost (w : World) (m : Nat) (e : Ending) (w' : World) : Prop :=
  w = w' ∧ ∃ s : Nat, e = .returned (.tuple #[.int .i64 (s : Int), .int .i64 ((m : Int) - (s : Int) * (s : Int)), .bool true]) ∧ s ≤ 3037000499 ∧ s * s ≤ m ∧ m < (s + 1) * (s + 1)
theorem root_neg (a : Int) (w : World) (h : a < 0) : Calls Try.prog 27 #[.int .i64 a] w fun e w' => w = w' ∧ e = .returned (.tuple #[.int .i64 0, .int .i64 0, .bool false]) := by
  go_enter Try.func27, Try.ntmps27
  go_wp2
  go_ret3
  exact ⟨rfl, rfl⟩
set_option maxRecDepth 100000 in
set_option maxHeartbeats 1000000 in
theorem root_any (m : Nat) (w : World) (hm : m < 9223372036854775808) : Calls Try.prog 27 #[.int .i64 (m : Int)] w (RootPost w m) := by
  have hn : ¬ (m : Int) < 0 := by omega
  go_enter Try.func27, Try.ntmps27
  go_wp2_with fail
  go_loopw [5, 6, 7] (fun s b _ wr => ∃ (j q : Nat), j ≤ 32 ∧ b = .int .i64 ((2 ^ j / 2 : Nat) : Int) ∧ s = .int .i64 ((q * 2 ^ j : Nat) : Int) ∧ q * 2 ^ j * (q * 2 ^ j) ≤ m ∧ m < (q * 2 ^ j + 2 ^ j) * (q * 2 ^ j + 2 ^ j) ∧ q * 2 ^ j ≤ 3037000499 ∧ w = wr) (fun _ b _ _ => (intOf b).toNat)
  case atStart => exact ⟨32, 0, by omega, rfl, rfl, by simp, by simp; omega, by simp, rfl⟩
  case round =>
    obtain ⟨j, q, hj, rfl, rfl, h1, h2, h3, rfl⟩ := hrel
    cases j with
    | zero =>
      simp only [Nat.pow_zero, Nat.mul_one] at *
      rw [show (((1 / 2 : Nat)) : Int) = 0 from rfl]
      have hq : (0 : Int) ≤ (q : Int) * (q : Int) := Int.mul_nonneg (by omega) (by omega)
      have hq2 : (q : Int) * (q : Int) ≤ (m : Int) := by exact_mod_cast h1
      have HS := Lib.hid (And.intro h3 (And.intro h1 h2))
      clear h1 h2 h3
      go_wp2
      go_ret3
      exact ⟨rfl, q, rfl, HS.out⟩
    | succ j =>
      have hp : 2 ^ (j + 1) = 2 * 2 ^ j := by rw [Nat.pow_succ, Nat.mul_comm]
      have hor := or_add q j
      rw [hp] at h1 h2 h3 ⊢
      have hb1 : 1 ≤ 2 ^ j := Nat.pow_pos (by omega)
      have hb2 : 2 ^ j ≤ 2147483648 := (Nat.pow_le_pow_right (by omega) (by omega : j ≤ 31) : 2 ^ j ≤ 2 ^ 31)
      rw [show 2 * 2 ^ j / 2 = 2 ^ j by omega]
      have hbo := bits_or (q * (2 * 2 ^ j)) (2 ^ j) (by omega) (by omega) hor (by omega)
      have hq2 : 2 * q * 2 ^ j = q * (2 * 2 ^ j) := by rw [Nat.mul_comm 2 q, Nat.mul_assoc]
      have hq3 : (2 * q + 1) * 2 ^ j = q * (2 * 2 ^ j) + 2 ^ j := by rw [Nat.add_mul, Nat.one_mul, hq2]
      have HJ := Lib.hid (And.intro hq2 hq3)
      clear hp hor hq2 hq3
      generalize hbj : 2 ^ j = b at *
      have HBJ := Lib.hid hbj
      clear hbj
      generalize hs : q * (2 * b) = s at *
      have HS := Lib.hid hs
      clear hs
      have H1 := Lib.hid h1
      have H2 := Lib.hid h2
      have hbpos : (0 : Int) < (b : Int) := by omega
      obtain ⟨t, ht⟩ : ∃ t, s + b = t := ⟨_, rfl⟩
      rw [ht] at hbo
      have htz : t ≤ 6000000000 := by omega
      have HT := Lib.hid ht
      have hbd : (b : Int) / 2 = ((b / 2 : Nat) : Int) := by omega
      have HBD := Lib.hid hbd
      clear h1 h2 ht hbd
      by_cases hlt : t ≤ 3037000499
      · have hlt2 : (t : Int) ≤ 3037000499 := by omega
        have htt : t * t ≤ 9223372030926249001 := Nat.le_trans (sq_le hlt) (by decide)
        have htt1 : (t : Int) * (t : Int) ≤ 9223372030926249001 := by rw [← Int.natCast_mul]; exact Int.ofNat_le.2 htt
        have htt2 : (0 : Int) ≤ (t : Int) * (t : Int) := Int.mul_nonneg (by omega) (by omega)
        by_cases hsq : t * t ≤ m
        · have hsq2 : (t : Int) * (t : Int) ≤ (m : Int) := by exact_mod_cast hsq
          have HSQ := Lib.hid hsq
          clear hsq htt
          go_wp2
          go_roundw
          case rel => exact ⟨j, 2 * q + 1, by omega, by rw [HBJ.out, HBD.out], by rw [HBJ.out, HJ.out.2, HT.out], by rw [HBJ.out, HJ.out.2, HT.out]; exact HSQ.out, by rw [HBJ.out, HJ.out.2, show s + b + b = s + 2 * b by omega]; exact H2.out, by rw [HBJ.out, HJ.out.2, HT.out]; exact hlt, trivial⟩
          case measure => simp [intOf]; omega
        · have hsq2 : (m : Int) < (t : Int) * (t : Int) := by rw [← Int.natCast_mul]; exact Int.ofNat_lt.2 (Nat.lt_of_not_le hsq)
          have HSQ := Lib.hid hsq
          clear hsq htt
          go_wp2
          go_roundw
          case rel => exact ⟨j, 2 * q, by omega, by rw [HBJ.out, HBD.out], by rw [HBJ.out, HJ.out.1], by rw [HBJ.out, HJ.out.1]; exact H1.out, by rw [HBJ.out, HJ.out.1, HT.out]; exact Nat.lt_of_not_le HSQ.out, by rw [HBJ.out, HJ.out.1]; exact h3, trivial⟩
          case measure => simp [intOf]; omega
      · have hlt2 : ¬ (t : Int) ≤ 3037000499 := by omega
        have htt : 9223372037000250000 ≤ t * t := Nat.le_trans (by decide) (sq_le (by omega : 3037000500 ≤ t))
        have HTT := Lib.hid htt
        clear htt
        go_wp2
        go_roundw
        case rel => exact ⟨j, 2 * q, by omega, by rw [HBJ.out, HBD.out], by rw [HBJ.out, HJ.out.1], by rw [HBJ.out, HJ.out.1]; exact H1.out, by rw [HBJ.out, HJ.out.1, HT.out]; have := HTT.out; omega, by rw [HBJ.out, HJ.out.1]; exact h3, trivial⟩
        case measure => simp [intOf]; omega
end Go.Proofs.Ytijhlofmangpgaa
