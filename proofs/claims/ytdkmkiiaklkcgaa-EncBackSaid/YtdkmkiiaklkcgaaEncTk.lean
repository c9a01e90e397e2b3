/- The reader of the program: counts, whole numbers and sized bytes taken off. -/
import Derived.Test.YtdkmkiiaklkcgaaEncRd
set_option linter.unusedVariables false
set_option linter.unusedSimpArgs false
namespace Go.Proofs.Ytdkmkiiaklkcgaa
open Go.RowKit Go.Proofs.YtdkmkiiaklkcgaaW.PrintWords
theorem numL_size (ys : List Int) : ∀ (k a n s : Nat), numL ys k a = (n, s, 0) → k < s ∧ s ≤ k + ys.length := by
  induction ys with
  | nil => intro k a n s h; simp [numL] at h
  | cons c cs ih =>
    intro k a n s h
    rw [numL] at h
    split at h
    · simp at h
    · split at h
      · split at h
        · simp at h
        · simp only [Prod.mk.injEq] at h; simp; omega
      · have := ih _ _ _ _ h; simp; omega
def rcount (bs : List Int) (p : Nat) (limit : Int) : Nat × Nat × Nat :=
  if (numL (bs.drop p) 0 0).2.2 ≠ 0 then (0, p, (numL (bs.drop p) 0 0).2.2)
  else if 9223372036854775808 ≤ (numL (bs.drop p) 0 0).1 then (0, p, 4)
  else if limit < 0 ∨ limit < (numL (bs.drop p) 0 0).1 then (0, p, 7)
  else ((numL (bs.drop p) 0 0).1, p + (numL (bs.drop p) 0 0).2.1, 0)
def CountPost (w : World) (g : Nat) (A : Option Addr) (c : Nat) (bs : List Int) (r : Nat × Nat × Nat) (e : Ending) (w' : World) : Prop :=
  e = .returned (.int .i64 (r.1 : Int)) ∧ Mod [g] w w' ∧ Rdr w' g A c bs r.2.1 (r.2.2 : Int)
theorem u64_int (n : Nat) (h : n < 9223372036854775808) : IntKind.i64.wrap (n : Int) = (n : Int) := IntWalk.i64_in _ (by omega)
def big : Nat := 9223372036854775808
set_option maxRecDepth 100000 in
set_option maxHeartbeats 1000000 in
theorem count_ready (g : Nat) (A : Option Addr) (c : Nat) (bs : List Int) (p : Nat) (limit : Int) (w : World) (h : Rdr w g A c bs p 0) (hl0 : -9223372036854775808 ≤ limit) (hl1 : limit ≤ 9223372036854775807) :
    Calls Try.prog 43 #[.pointer (some ⟨g, 0, none⟩), .int .i64 limit] w (CountPost w g A c bs (rcount bs p limit)) := by
  obtain ⟨⟨n, s, f⟩, hn⟩ : ∃ r, numL (bs.drop p) 0 0 = r := ⟨_, rfl⟩
  obtain ⟨R, hR⟩ : ∃ R, rcount bs p limit = R := ⟨_, rfl⟩
  rw [hR]
  unfold rcount at hR
  rw [hn] at hR
  have HR := Lib.hid hR
  have HN := Lib.hid hn
  clear hR hn
  have HL0 := Lib.hid hl0
  have HL1 := Lib.hid hl1
  clear hl0 hl1
  go_enter Try.func43, Try.ntmps43
  go_wp2_with fail
  refine (ready_any g A c bs p 0 w h).mono ?_
  rintro e w1 ⟨rfl, rfl⟩
  go_wp2_with fail
  refine (number_any g A c bs p 0 w h).mono ?_
  rintro e w1 ⟨rfl, hm⟩
  have h1 := h.mod hm (by simp) (by simp)
  rw [HN.out]
  unfold numV
  simp only
  by_cases hf : f = 0
  · subst hf
    have hs := numL_size _ _ _ _ _ HN.out
    have hlen := h.max
    have hle := h.le
    simp only [List.length_drop] at hs
    have t1 : (((0 : Nat) : Int) != 0) = false := rfl
    by_cases hbig : 9223372036854775808 ≤ n
    · have HF := Lib.hid (show R = (0, p, 4) by rw [← HR.out, if_neg (by simp), if_pos hbig])
      have t2 : decide ((9223372036854775808 : Int) ≤ (n : Int)) = true := by simp; omega
      clear hbig
      go_wp2_with fail
      refine (fail_ok g A c bs p 4 w1 h1).mono ?_
      rintro e w2 ⟨rfl, hm2, h2⟩
      go_wp2
      go_ret
      exact ⟨by rw [HF.out]; rfl, Mod.trans (Mod.weak hm (by simp)) hm2 (by simp), by rw [HF.out]; exact h2⟩
    · have t2 : decide ((9223372036854775808 : Int) ≤ (n : Int)) = false := by simp; omega
      have HB := Lib.hid hbig
      clear hbig
      by_cases hl : limit < 0 ∨ limit < n
      · have HF := Lib.hid (show R = (0, p, 7) by rw [← HR.out, if_neg (by simp), if_neg HB.out, if_pos hl])
        by_cases hl2 : limit < 0
        · have t3 : decide (limit < 0) = true := by simpa using hl2
          clear hl hl2
          go_wp2_with fail
          refine (fail_ok g A c bs p 7 w1 h1).mono ?_
          rintro e w2 ⟨rfl, hm2, h2⟩
          go_wp2
          go_ret
          exact ⟨by rw [HF.out]; rfl, Mod.trans (Mod.weak hm (by simp)) hm2 (by simp), by rw [HF.out]; exact h2⟩
        · have t3 : decide (limit < 0) = false := by simpa using hl2
          have q1 : IntKind.u64.wrap limit = limit := by rw [IntKind.wrap_u64]; have := HL1.out; omega
          have t4 : decide (limit < (n : Int)) = true := by simp; omega
          clear hl hl2
          go_wp2_with fail
          refine (fail_ok g A c bs p 7 w1 h1).mono ?_
          rintro e w2 ⟨rfl, hm2, h2⟩
          go_wp2
          go_ret
          exact ⟨by rw [HF.out]; rfl, Mod.trans (Mod.weak hm (by simp)) hm2 (by simp), by rw [HF.out]; exact h2⟩
      · have HF := Lib.hid (show R = (n, p + s, 0) by rw [← HR.out, if_neg (by simp), if_neg HB.out, if_neg hl])
        have hl2 : ¬ limit < 0 := fun h => hl (.inl h)
        have t3 : decide (limit < 0) = false := by simpa using hl2
        have q1 : IntKind.u64.wrap limit = limit := by rw [IntKind.wrap_u64]; have := HL1.out; omega
        have t4 : decide (limit < (n : Int)) = false := by simp; omega
        have q2 := u64_int n (by have := HB.out; omega)
        have c1 := h1.c1
        have f1 := h1.fz 1
        clear hl hl2
        go_wp2
        go_ret
        have hm2 := (Mod.refl [g] w1).setCell (p := ⟨g, 1, none⟩) (by simp) (.int .i64 ((p : Int) + s))
        refine ⟨by rw [HF.out]; rfl, Mod.trans (Mod.weak hm (by simp)) hm2 (by simp), ?_⟩
        rw [HF.out]
        exact h1.set hm2 (p + s) 0 (by omega) (by rw [blk_set h1.blk]; simp)
  · have t1 : ((f : Int) != 0) = true := by simp; omega
    have HF := Lib.hid (show R = (0, p, f) by rw [← HR.out, if_pos hf])
    clear hf
    go_wp2_with fail
    refine (fail_ok g A c bs p f w1 h1).mono ?_
    rintro e w2 ⟨rfl, hm2, h2⟩
    go_wp2
    go_ret
    exact ⟨by rw [HF.out]; rfl, Mod.trans (Mod.weak hm (by simp)) hm2 (by simp), by rw [HF.out]; exact h2⟩
theorem numL_lt (ys : List Int) : ∀ (k a n s f : Nat), Bytes ys → k ≤ 9 → a < 128 ^ k → numL ys k a = (n, s, f) → n < 18446744073709551616 := by
  induction ys with
  | nil => intro k a n s f _ _ _ h; simp [numL] at h; omega
  | cons c cs ih =>
    intro k a n s f hb hk ha h
    have hc := hb c (by simp)
    rw [numL] at h
    have hp9 : (128 : Nat) ^ k ≤ 128 ^ 9 := Nat.pow_le_pow_right (by decide) hk
    split at h
    · simp at h; omega
    · rename_i h1
      have hstep : c.toNat % 128 * 128 ^ k ≤ 127 * 128 ^ k := Nat.mul_le_mul_right _ (by omega)
      split at h
      · split at h
        · simp at h; omega
        · simp only [Prod.mk.injEq] at h
          rcases Nat.lt_or_ge k 9 with h9 | h9
          · have hp8 : (128 : Nat) ^ k ≤ 128 ^ 8 := Nat.pow_le_pow_right (by decide) (by omega)
            omega
          · obtain rfl : k = 9 := by omega
            have : c.toNat % 128 * 128 ^ 9 ≤ 1 * 128 ^ 9 := Nat.mul_le_mul_right _ (by omega)
            omega
      · rename_i h128
        have h9 : k < 9 := by omega
        refine ih (k + 1) _ n s f (fun b hb' => hb b (by simp [hb'])) (by omega) ?_ h
        rw [Nat.pow_succ]; omega
def unzz (n : Nat) : Int := if n % 2 = 0 then ((n / 2 : Nat) : Int) else -((n / 2 : Nat) : Int) - 1
theorem unzz_zz (x : Int) : unzz (zz x) = x := by
  unfold unzz zz
  split <;> split <;> omega
theorem unzz_bits (n : Nat) (h : n < 18446744073709551616) : Go.bits .xor .i64 (wrap64 ((n : Int) / 2)) (wrap64 (-wrap64 (Go.bits .and .u64 (n : Int) 1))) = unzz n := by
  have e1 : Go.bits .and .u64 (n : Int) 1 = ((n % 2 : Nat) : Int) := by
    rw [show (1 : Int) = ((1 : Nat) : Int) from rfl, Go.u64_and_nat n 1 h (by decide), Nat.and_one_is_mod]
  have e2 : wrap64 ((n : Int) / 2) = ((n / 2 : Nat) : Int) := by unfold wrap64; omega
  rw [e1, e2]
  generalize hm : n / 2 = m
  have hmlt : m < 9223372036854775808 := by omega
  have e3 : BitVec.ofInt 64 (m : Int) = BitVec.ofNat 64 m := by simp
  unfold unzz
  rw [hm]
  by_cases hz : n % 2 = 0
  · rw [if_pos hz, hz]
    have e4 : wrap64 (-wrap64 ((0 : Nat) : Int)) = 0 := by unfold wrap64; omega
    rw [e4]
    show IntKind.i64.wrap ((BitVec.ofInt 64 (m : Int) ^^^ BitVec.ofInt 64 0).toNat : Int) = _
    rw [e3, show BitVec.ofInt 64 0 = 0#64 from rfl, BitVec.xor_zero, BitVec.toNat_ofNat, IntKind.wrap_i64]; omega
  · have h1 : n % 2 = 1 := by omega
    rw [if_neg hz, h1]
    have e4 : wrap64 (-wrap64 ((1 : Nat) : Int)) = -1 := by unfold wrap64; omega
    rw [e4]
    show IntKind.i64.wrap ((BitVec.ofInt 64 (m : Int) ^^^ BitVec.ofInt 64 (-1)).toNat : Int) = _
    rw [e3, show BitVec.ofInt 64 (-1) = BitVec.allOnes 64 from by decide, BitVec.xor_allOnes, BitVec.toNat_not, BitVec.toNat_ofNat, IntKind.wrap_i64]; omega
def rwhole (bs : List Int) (p : Nat) : Int × Nat × Nat :=
  if (numL (bs.drop p) 0 0).2.2 ≠ 0 then (0, p, (numL (bs.drop p) 0 0).2.2) else (unzz (numL (bs.drop p) 0 0).1, p + (numL (bs.drop p) 0 0).2.1, 0)
def WholePost (w : World) (g : Nat) (A : Option Addr) (c : Nat) (bs : List Int) (r : Int × Nat × Nat) (e : Ending) (w' : World) : Prop :=
  e = .returned (.int .i64 r.1) ∧ Mod [g] w w' ∧ Rdr w' g A c bs r.2.1 (r.2.2 : Int)
set_option maxRecDepth 100000 in
set_option maxHeartbeats 1000000 in
theorem whole_ready (g : Nat) (A : Option Addr) (c : Nat) (bs : List Int) (p : Nat) (w : World) (h : Rdr w g A c bs p 0) :
    Calls Try.prog 44 #[.pointer (some ⟨g, 0, none⟩)] w (WholePost w g A c bs (rwhole bs p)) := by
  obtain ⟨⟨n, s, f⟩, hn⟩ : ∃ r, numL (bs.drop p) 0 0 = r := ⟨_, rfl⟩
  obtain ⟨R, hR⟩ : ∃ R, rwhole bs p = R := ⟨_, rfl⟩
  rw [hR]
  unfold rwhole at hR
  rw [hn] at hR
  have HR := Lib.hid hR
  have HN := Lib.hid hn
  clear hR hn
  go_enter Try.func44, Try.ntmps44
  go_wp2_with fail
  refine (ready_any g A c bs p 0 w h).mono ?_
  rintro e w1 ⟨rfl, rfl⟩
  go_wp2_with fail
  refine (number_any g A c bs p 0 w h).mono ?_
  rintro e w1 ⟨rfl, hm⟩
  have h1 := h.mod hm (by simp) (by simp)
  rw [HN.out]
  unfold numV
  simp only
  by_cases hf : f = 0
  · subst hf
    have hs := numL_size _ _ _ _ _ HN.out
    have hlt := numL_lt _ 0 0 _ _ _ (fun b hb => h.bytes b (List.mem_of_mem_drop hb)) (by omega) (by omega) HN.out
    have HLT := Lib.hid hlt
    clear hlt
    have hlen := h.max
    have hle := h.le
    simp only [List.length_drop] at hs
    have t1 : (((0 : Nat) : Int) != 0) = false := rfl
    have HF := Lib.hid (show R = (unzz n, p + s, 0) by rw [← HR.out, if_neg (by simp)])
    have c1 := h1.c1
    have f1 := h1.fz 1
    go_wp2
    go_ret
    have hm2 := (Mod.refl [g] w1).setCell (p := ⟨g, 1, none⟩) (by simp) (.int .i64 ((p : Int) + s))
    refine ⟨by rw [HF.out, ← unzz_bits n HLT.out]; rfl, Mod.trans (Mod.weak hm (by simp)) hm2 (by simp), ?_⟩
    rw [HF.out]
    exact h1.set hm2 (p + s) 0 (by omega) (by rw [blk_set h1.blk]; simp)
  · have t1 : ((f : Int) != 0) = true := by simp; omega
    have HF := Lib.hid (show R = (0, p, f) by rw [← HR.out, if_pos hf])
    clear hf
    go_wp2_with fail
    refine (fail_ok g A c bs p f w1 h1).mono ?_
    rintro e w2 ⟨rfl, hm2, h2⟩
    go_wp2
    go_ret
    exact ⟨by rw [HF.out]; rfl, Mod.trans (Mod.weak hm (by simp)) hm2 (by simp), by rw [HF.out]; exact h2⟩
end Go.Proofs.Ytdkmkiiaklkcgaa
