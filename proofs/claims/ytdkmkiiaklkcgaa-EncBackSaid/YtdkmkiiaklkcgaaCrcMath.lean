/- The checksum as a linear map on bits: plain laws on numbers, no program. -/
import Derived.Test.YtdkmkiiaklkcgaaCrc
import Derived.Laws.BitsAllLaws
set_option linter.unusedVariables false
set_option linter.unusedSimpArgs false
namespace Go.Proofs.Ytdkmkiiaklkcgaa
open Go.RowKit Go.Proofs.YtdkmkiiaklkcgaaW.PrintWords

def poly : Nat := 3988292384
/-- One bit's step. -/
def L (r : Nat) : Nat := r / 2 ^^^ (if r % 2 = 1 then poly else 0)
def Ls : Nat → Nat → Nat
  | 0, r => r
  | n + 1, r => L (Ls n r)
theorem xor_div2 (a b : Nat) : (a ^^^ b) / 2 = a / 2 ^^^ b / 2 := by
  apply Nat.eq_of_testBit_eq; intro i
  simp only [Nat.testBit_xor, Nat.testBit_div_two]
theorem xor_mod2 (a b : Nat) : (a ^^^ b) % 2 = (a % 2 + b % 2) % 2 := by
  have h := Nat.testBit_xor (x := a) (y := b) (i := 0)
  simp only [Nat.testBit_zero] at h
  have ha : a % 2 < 2 := Nat.mod_lt _ (by decide)
  have hb : b % 2 < 2 := Nat.mod_lt _ (by decide)
  have hc : (a ^^^ b) % 2 < 2 := Nat.mod_lt _ (by decide)
  generalize (a ^^^ b) % 2 = c at h hc
  generalize a % 2 = a' at *
  generalize b % 2 = b' at *
  have h3 : (c = 0 ∨ c = 1) ∧ (a' = 0 ∨ a' = 1) ∧ (b' = 0 ∨ b' = 1) := by omega
  obtain ⟨rfl | rfl, rfl | rfl, rfl | rfl⟩ := h3 <;> simp_all
theorem L_xor (a b : Nat) : L (a ^^^ b) = L a ^^^ L b := by
  unfold L
  rw [xor_div2, xor_mod2]
  have ha : a % 2 = 0 ∨ a % 2 = 1 := by omega
  have hb : b % 2 = 0 ∨ b % 2 = 1 := by omega
  rcases ha with ha | ha <;> rcases hb with hb | hb <;> simp only [ha, hb] <;> simp only [Nat.reduceAdd, Nat.reduceMod, if_true, if_false, Nat.xor_zero, Nat.zero_ne_one, reduceIte]
  · rw [Nat.xor_assoc]
  · rw [Nat.xor_assoc, Nat.xor_assoc, Nat.xor_comm poly]
  · rw [show a / 2 ^^^ poly ^^^ (b / 2 ^^^ poly) = (a / 2 ^^^ b / 2) ^^^ (poly ^^^ poly) by ac_rfl, Nat.xor_self, Nat.xor_zero]
theorem L_zero : L 0 = 0 := by decide
theorem L_even (x : Nat) : L (2 * x) = x := by unfold L; rw [if_neg (by omega), Nat.xor_zero]; omega
theorem L_lt {r : Nat} (h : r < 4294967296) : L r < 4294967296 := by
  unfold L
  have : (if r % 2 = 1 then poly else 0) < 2 ^ 32 := by unfold poly; split <;> omega
  exact Nat.xor_lt_two_pow (n := 32) (by omega) this
theorem L_ne {r : Nat} (h : r < 4294967296) (h0 : r ≠ 0) : L r ≠ 0 := by
  unfold L
  by_cases ho : r % 2 = 1
  · rw [if_pos ho]
    intro e
    have e1 := congrArg (fun x => x.testBit 31) e
    simp only [Nat.testBit_xor, Nat.zero_testBit] at e1
    have e2 : (r / 2).testBit 31 = false := Nat.testBit_lt_two_pow (by omega)
    rw [e2] at e1
    exact absurd e1 (by decide)
  · rw [if_neg ho, Nat.xor_zero]; omega
theorem Ls_lt (n : Nat) {r : Nat} (h : r < 4294967296) : Ls n r < 4294967296 := by
  induction n with
  | zero => exact h
  | succ n ih => exact L_lt ih
theorem Ls_ne (n : Nat) {r : Nat} (h : r < 4294967296) (h0 : r ≠ 0) : Ls n r ≠ 0 := by
  induction n with
  | zero => exact h0
  | succ n ih => exact L_ne (Ls_lt n h) ih
/-- Bits, one by one. -/
def feed (r : Nat) (f : Nat → Bool) : Nat → Nat
  | 0 => r
  | n + 1 => L (feed r f n ^^^ (f n).toNat)
theorem feed_lt {r : Nat} (h : r < 4294967296) (f : Nat → Bool) (n : Nat) : feed r f n < 4294967296 := by
  induction n with
  | zero => exact h
  | succ n ih => exact L_lt (Nat.xor_lt_two_pow (n := 32) ih (by cases f n <;> decide))
theorem feed_congr {r : Nat} {f g : Nat → Bool} (n : Nat) (h : ∀ i, i < n → f i = g i) : feed r f n = feed r g n := by
  induction n with
  | zero => rfl
  | succ n ih => rw [feed, feed, ih (fun i hi => h i (by omega)), h n (by omega)]
theorem feed_xor (r s : Nat) (f g : Nat → Bool) (n : Nat) : feed (r ^^^ s) (fun i => f i ^^ g i) n = feed r f n ^^^ feed s g n := by
  induction n with
  | zero => rfl
  | succ n ih =>
    rw [feed, ih, feed, feed, ← L_xor]
    congr 1
    have : (f n ^^ g n).toNat = (f n).toNat ^^^ (g n).toNat := by cases f n <;> cases g n <;> rfl
    rw [this]; ac_rfl
theorem feed_add (r : Nat) (f : Nat → Bool) (m n : Nat) : feed r f (m + n) = feed (feed r f m) (fun i => f (m + i)) n := by
  induction n with
  | zero => rfl
  | succ n ih => rw [← Nat.add_assoc, feed, ih, feed]
theorem half (x : Nat) : x = (x % 2) ^^^ 2 * (x / 2) := by
  apply Nat.eq_of_testBit_eq; intro i
  rw [Nat.testBit_xor]
  cases i with
  | zero => simp [Nat.testBit_zero]
  | succ i =>
    have h2 : 2 ≤ 2 ^ (i + 1) := by
      rw [Nat.pow_succ]; have := Nat.pow_pos (a := 2) (n := i) (by decide); omega
    have h1 : (x % 2).testBit (i + 1) = false := Nat.testBit_lt_two_pow (by omega)
    rw [h1, ← Nat.testBit_div_two, ← Nat.testBit_div_two, Nat.mul_div_cancel_left _ (by decide)]; simp
/-- A number's bits, the lowest first, come to its xor, that many steps on. -/
theorem feed_num (r x : Nat) (n : Nat) : feed r (fun i => x.testBit i) n ^^^ x / 2 ^ n = Ls n (r ^^^ x) := by
  induction n with
  | zero => simp [feed, Ls]
  | succ n ih =>
    rw [Ls, ← ih, feed, L_xor, L_xor]
    have e : x / 2 ^ n = (x.testBit n).toNat ^^^ 2 * (x / 2 ^ (n + 1)) := by
      have := half (x / 2 ^ n)
      rw [Nat.div_div_eq_div_mul, ← Nat.pow_succ] at this
      rw [Nat.toNat_testBit]; exact this
    conv => rhs; rw [e, L_xor, L_even, ← Nat.xor_assoc]
theorem feed_all {r x : Nat} {n : Nat} (h : x < 2 ^ n) : feed r (fun i => x.testBit i) n = Ls n (r ^^^ x) := by
  have := feed_num r x n
  rwa [Nat.div_eq_of_lt h, Nat.xor_zero] at this

/-! ### The program's steps -/
theorem bitStep_nat (r : Nat) (h : r < 4294967296) : bitStep (r : Int) = (L r : Nat) := by
  unfold bitStep L
  have e1 : Go.bits .and .u32 (r : Int) 1 = ((r % 2 : Nat) : Int) := by
    have := Go.u32_and_nat r 1 h (by decide)
    rw [Nat.and_one_is_mod] at this
    exact this
  rw [e1]
  have e2 : (r : Int) / 2 = ((r / 2 : Nat) : Int) := by omega
  rw [e2]
  by_cases ho : r % 2 = 1
  · rw [if_pos (by omega), if_pos ho]
    exact Go.u32_xor_nat (r / 2) poly (by omega) (by decide)
  · rw [if_neg (by omega), if_neg ho, Nat.xor_zero]
theorem bitSteps_nat (n r : Nat) (h : r < 4294967296) : bitSteps n (r : Int) = (Ls n r : Nat) := by
  induction n with
  | zero => rfl
  | succ n ih => rw [bitSteps_succ, ih, bitStep_nat _ (Ls_lt n h)]; rfl
theorem byteStep_nat (r c : Nat) (h : r < 4294967296) (hc : c < 256) : byteStep (r : Int) (c : Int) = (feed r (fun i => c.testBit i) 8 : Nat) := by
  unfold byteStep
  rw [Go.u32_xor_nat _ _ h (by omega), bitSteps_nat _ _ (Nat.xor_lt_two_pow (n := 32) h (by omega)), feed_all (by omega)]
/-- The bits of bytes. -/
def B (bs : List Int) (j : Nat) : Bool := (bs.getD (j / 8) 0).toNat.testBit (j % 8)
theorem crcOn_feed (bs : List Int) (hb : Bytes bs) : ∀ r : Nat, r < 4294967296 → crcOn (r : Int) bs = (feed r (B bs) (8 * bs.length) : Nat) := by
  induction bs with
  | nil => intro r _; rfl
  | cons b bs ih =>
    intro r hr
    have h0 := hb b (by simp)
    obtain ⟨c, rfl⟩ := Int.eq_ofNat_of_zero_le h0.1
    have e1 : crcOn (r : Int) ((c : Int) :: bs) = crcOn (byteStep r c) bs := rfl
    rw [e1, byteStep_nat _ _ hr (by omega), ih (fun x hx => hb x (by simp [hx])) _ (feed_lt hr _ _)]
    rw [List.length_cons, show 8 * (bs.length + 1) = 8 + 8 * bs.length by omega, feed_add]
    have e2 : feed r (B ((c : Int) :: bs)) 8 = feed r (fun i => c.testBit i) 8 := feed_congr 8 fun i hi => by
      unfold B; rw [Nat.div_eq_of_lt hi, Nat.mod_eq_of_lt hi]; rfl
    have e3 : (fun i => B ((c : Int) :: bs) (8 + i)) = B bs := by
      funext i
      unfold B
      rw [show (8 + i) / 8 = i / 8 + 1 by omega, show (8 + i) % 8 = i % 8 by omega]; rfl
    rw [e2, e3]
theorem crcNot_nat (r : Nat) (h : r < 4294967296) : crcNot (r : Int) = ((4294967295 ^^^ r : Nat) : Int) := by
  unfold crcNot
  rw [show IntKind.u32.max = ((4294967295 : Nat) : Int) from rfl, Go.u32_xor_nat _ _ (by omega) (by omega)]
theorem B_sum (x : Nat) (h : x < 4294967296) (j : Nat) (hj : j < 32) : B (sumBytes (x : Int) 4) j = x.testBit j := by
  unfold B
  have e : (sumBytes (x : Int) 4).getD (j / 8) 0 = ((x / 2 ^ (8 * (j / 8)) % 256 : Nat) : Int) := by
    simp only [sumBytes, List.getD_eq_getElem?_getD, List.getElem?_map]
    rw [List.getElem?_range (by omega)]
    simp
  rw [e, Int.toNat_natCast, show (256 : Nat) = 2 ^ 8 from rfl, Nat.testBit_mod_two_pow, Nat.testBit_div_two_pow]
  have h1 : j % 8 < 8 := Nat.mod_lt _ (by decide)
  simp only [h1, decide_true, Bool.true_and]
  congr 1; omega
/-- What is sealed comes to one and the same register. -/
theorem seal_reg (bs : List Int) (hb : Bytes bs) : crcOn 4294967295 (crcSeal bs) = (Ls 32 4294967295 : Nat) := by
  have h1 := crcOn_feed bs hb 4294967295 (by decide)
  obtain ⟨R, hR⟩ : ∃ R : Nat, feed 4294967295 (B bs) (8 * bs.length) = R := ⟨_, rfl⟩
  have hlt := feed_lt (r := 4294967295) (by decide) (B bs) (8 * bs.length)
  rw [hR] at h1 hlt
  have h2 : crcMore 0 bs = ((4294967295 ^^^ R : Nat) : Int) := by
    unfold crcMore
    rw [show crcNot 0 = ((4294967295 : Nat) : Int) by decide +kernel, h1, crcNot_nat R hlt]
  have h3 : (4294967295 ^^^ R : Nat) < 4294967296 := Nat.xor_lt_two_pow (n := 32) (by omega) hlt
  unfold crcSeal
  rw [crcOn_append, show (4294967295 : Int) = ((4294967295 : Nat) : Int) from rfl, h1, crcOn_feed _ (sumBytes_bd _ _) R hlt, h2]
  rw [sumBytes_length, feed_congr (g := fun i => (4294967295 ^^^ R).testBit i) _ (fun i hi => B_sum _ h3 i (by omega)), feed_all (by omega)]
  rw [← Nat.xor_assoc, Nat.xor_comm R, Nat.xor_assoc, Nat.xor_self, Nat.xor_zero]
theorem feed_false (r : Nat) (n : Nat) : feed r (fun _ => false) n = Ls n r := by
  induction n with
  | zero => rfl
  | succ n ih => rw [feed, ih, Ls]; simp
theorem Ls_zero (n : Nat) : Ls n 0 = 0 := by
  induction n with
  | zero => rfl
  | succ n ih => rw [Ls, ih]; exact L_zero
/-- Bits that were turned within 32 come to something, whatever is behind them. -/
theorem burst_ne (a m N : Nat) (hm : m < 4294967296) (h0 : m ≠ 0) (hN : a + 32 ≤ N) :
    feed 0 (fun j => decide (a ≤ j) && decide (j < a + 32) && m.testBit (j - a)) N ≠ 0 := by
  obtain ⟨r, rfl⟩ : ∃ r, N = a + (32 + r) := ⟨N - a - 32, by omega⟩
  rw [feed_add, feed_congr (g := fun _ => false) a (fun i hi => by simp; omega), feed_false, Ls_zero, feed_add,
    feed_congr (g := fun i => m.testBit i) 32 (fun i hi => by simp; omega), feed_all hm, Nat.zero_xor,
    feed_congr (g := fun _ => false) r (fun i hi => by simp; omega), feed_false]
  exact Ls_ne _ (Ls_lt _ hm) (Ls_ne _ hm h0)
theorem burst_not (bs xs : List Int) (hb : Bytes bs) (hx : Bytes xs) (n a m : Nat) (hn : bs.length = n) (hl : xs.length = n + 4) (hm : m < 4294967296) (h0 : m ≠ 0) (ha : a ≤ 8 * n)
    (h : ∀ j, B xs j = (B (crcSeal bs) j ^^ (decide (a ≤ j) && decide (j < a + 32) && m.testBit (j - a)))) : crcSeal (xs.take n) ≠ xs := by
  intro he
  have hs : (crcSeal bs).length = n + 4 := by rw [crcSeal, List.length_append, sumBytes_length, hn]
  have h1 := seal_reg (xs.take n) (bytes_take hx n)
  rw [he] at h1
  have h2 := seal_reg bs hb
  rw [show (4294967295 : Int) = ((4294967295 : Nat) : Int) from rfl] at h1 h2
  rw [crcOn_feed _ hx _ (by decide)] at h1
  rw [crcOn_feed _ (crcSeal_bd hb) _ (by decide)] at h2
  rw [hl] at h1
  rw [hs] at h2
  have h3 := feed_xor 4294967295 0 (B (crcSeal bs)) (fun j => decide (a ≤ j) && decide (j < a + 32) && m.testBit (j - a)) (8 * (n + 4))
  rw [← funext h, Nat.xor_zero] at h3
  have h4 : feed 4294967295 (B xs) (8 * (n + 4)) = feed 4294967295 (B (crcSeal bs)) (8 * (n + 4)) := by omega
  rw [h4] at h3
  refine burst_ne a m (8 * (n + 4)) hm h0 (by omega) ?_
  have h5 := congrArg (fun x => feed 4294967295 (B (crcSeal bs)) (8 * (n + 4)) ^^^ x) h3
  simp only [← Nat.xor_assoc, Nat.xor_self, Nat.zero_xor] at h5
  exact h5.symm
theorem B_inj {xs ys : List Int} (hx : Bytes xs) (hy : Bytes ys) (hl : xs.length = ys.length) (h : ∀ j, B xs j = B ys j) : xs = ys := by
  apply List.ext_getElem hl
  intro i h1 h2
  have hx' := hx.at_ i
  have hy' := hy.at_ i
  have e : (xs.getD i 0).toNat = (ys.getD i 0).toNat := by
    apply Nat.eq_of_testBit_eq
    intro j
    by_cases hj : j < 8
    · have := h (8 * i + j)
      unfold B at this
      rwa [show (8 * i + j) / 8 = i by omega, show (8 * i + j) % 8 = j by omega] at this
    · have hp : 256 ≤ 2 ^ j := by
        have := Nat.pow_le_pow_right (n := 2) (by decide) (show 8 ≤ j by omega)
        omega
      rw [Nat.testBit_lt_two_pow (by omega), Nat.testBit_lt_two_pow (by omega)]
  simp only [List.getD_eq_getElem?_getD, List.getElem?_eq_getElem h1, List.getElem?_eq_getElem h2, Option.getD_some] at e hx' hy'
  omega
theorem flip_B (xs : List Int) (hx : Bytes xs) (p : Nat) (hp : p / 8 < xs.length) (q : Int) (hq : q = ((p / 8 : Nat) : Int)) :
    Bytes (xs.set (p / 8) (Go.bits .xor .u8 (rd xs q) (2 ^ (p % 8) % 256))) ∧ ∀ j, B (xs.set (p / 8) (Go.bits .xor .u8 (rd xs q) (2 ^ (p % 8) % 256))) j = (B xs j ^^ decide (j = p)) := by
  subst hq
  have h1 := hx.at_ (p / 8)
  obtain ⟨x, hx0⟩ := Int.eq_ofNat_of_zero_le h1.1
  have hr : rd xs ((p / 8 : Nat) : Int) = (x : Int) := hx0
  have h8 : p % 8 < 8 := Nat.mod_lt _ (by decide)
  have hpow : 2 ^ (p % 8) < 2 ^ 8 := Nat.pow_lt_pow_of_lt (by decide) h8
  have e2 : (2 : Int) ^ (p % 8) % 256 = ((2 ^ (p % 8) : Nat) : Int) := by
    have : (2 : Int) ^ (p % 8) = ((2 ^ (p % 8) : Nat) : Int) := by simp
    rw [this]
    generalize 2 ^ (p % 8) = t at hpow
    omega
  rw [hr, e2, Go.u8_xor_nat x (2 ^ (p % 8)) (by omega) hpow]
  have hlt : x ^^^ 2 ^ (p % 8) < 256 := Nat.xor_lt_two_pow (n := 8) (by omega) hpow
  refine ⟨fun b hb => ?_, fun j => ?_⟩
  · rcases List.mem_or_eq_of_mem_set hb with h | h
    · exact hx b h
    · subst h; omega
  · unfold B
    simp only [List.getD_eq_getElem?_getD] at hx0 ⊢
    by_cases hj : j / 8 = p / 8
    · rw [hj, List.getElem?_set_self hp]
      simp only [Option.getD_some, Int.toNat_natCast, Nat.testBit_xor, Nat.testBit_two_pow]
      rw [hx0, Int.toNat_natCast]
      congr 1
      by_cases h : j = p
      · subst h; simp
      · rw [decide_eq_false (by omega), decide_eq_false h]
    · rw [List.getElem?_set_ne (by omega), decide_eq_false (by intro h; subst h; exact hj rfl)]; simp
theorem test_bit (m k : Nat) (hm : m < 4294967296) : (Go.bits .and .u32 ((m : Int) / 2 ^ k) 1 == 1) = m.testBit k := by
  have e1 : (m : Int) / 2 ^ k = ((m / 2 ^ k : Nat) : Int) := by simp
  have hle : m / 2 ^ k ≤ m := Nat.div_le_self _ _
  have e2 := Go.u32_and_nat (m / 2 ^ k) 1 (by omega) (by decide)
  rw [Nat.and_one_is_mod] at e2
  rw [e1, show (1 : Int) = ((1 : Nat) : Int) from rfl, e2, Nat.testBit_eq_decide_div_mod_eq]
  by_cases h : m / 2 ^ k % 2 = 1
  · rw [h]; simp
  · have : m / 2 ^ k % 2 = 0 := by omega
    rw [this]; rfl
theorem burst_step (s : Bool) (a k m j : Nat) : ((s ^^ (decide (a ≤ j) && decide (j < a + k) && m.testBit (j - a))) ^^ (m.testBit k && decide (j = a + k))) = (s ^^ (decide (a ≤ j) && decide (j < a + (k + 1)) && m.testBit (j - a))) := by
  by_cases h : j = a + k
  · subst h
    have e : a + k - a = k := by omega
    simp [e]
  · rw [decide_eq_false h]
    have e : decide (j < a + (k + 1)) = decide (j < a + k) := by rw [decide_eq_decide]; omega
    rw [e]; simp
end Go.Proofs.Ytdkmkiiaklkcgaa
