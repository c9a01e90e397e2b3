/- The walk of the law CrcBursts: for every input it comes to true. -/
import Derived.Test.YtdkmkiiaklkcgaaCrcMath
set_option linter.unusedVariables false
set_option linter.unusedSimpArgs false
namespace Go.Proofs.Ytdkmkiiaklkcgaa
open Go.RowKit Go.Proofs.YtdkmkiiaklkcgaaW.PrintWords
theorem crcBursts_any (A : Option Addr) (n c : Nat) (bs : List Int) (at' mask : Int) (w : World) (hn : n ≤ 140737488351232)
    (hr : ReadsInt w .u8 A n bs) (hbs : Bytes bs) (ha0 : -9223372036854775808 ≤ at') (ha1 : at' ≤ 9223372036854775807) (hk0 : 0 ≤ mask) (hk1 : mask ≤ 4294967295) :
    Calls Try.prog 8 #[.slice A n c, .int .i64 at', .int .u32 mask] w fun e w' => e = .returned (.bool true) ∧ Mod [] w w' := by
  have HL := Lib.hid hr.1
  go_enter Try.func8, Try.ntmps8
  go_wp2_with fail
  refine (seal_any A n c bs w hr hbs (by omega)).mono ?_
  rintro e w1 ⟨v, rfl, hm1, hown⟩
  obtain ⟨g, c1, rfl, hgb, hgl⟩ := hown.form (by omega)
  by_cases hlight : n ≤ 2000 ∧ 0 ≤ at' ∧ at' ≤ 8 * n
  · obtain ⟨l1, l2, l3⟩ := hlight
    obtain ⟨a, rfl⟩ := Int.eq_ofNat_of_zero_le l2
    obtain ⟨m, rfl⟩ := Int.eq_ofNat_of_zero_le hk0
    have l1' : ¬ (2000 : Int) < n := by omega
    have l2' : ¬ (a : Int) < 0 := by omega
    have HM1 := Lib.hid hm1
    have HO := Lib.hid hown
    clear hown hm1
    go_wp2
    go_loopw [8] (fun i wr => ∃ (k : Nat) (xs : List Int), k ≤ 32 ∧ i = .int .i64 k ∧ Mod [] w wr ∧ Bytes xs ∧ (∀ j, B xs j = (B (crcSeal bs) j ^^ (decide (a ≤ j) && decide (j < a + k) && m.testBit (j - a)))) ∧ wr.ownsRow w.heap.size 5 1 (.slice (some ⟨g, 0, none⟩) (n + 4) c1) (n + 4) (nums .u8 xs)) (fun i _ => 32 - (intOf i).toNat)
    case atStart => exact ⟨0, crcSeal bs, by omega, rfl, HM1.out, crcSeal_bd hbs, fun j => by
        have : (decide (a ≤ j) && decide (j < a + 0)) = false := by simp
        rw [this]; simp, HO.out⟩
    case round =>
      obtain ⟨k, xs, hk, rfl, hm, hxs, hB, hown⟩ := hrel
      have HB := Lib.hid hB
      have hxl := own_length hown
      have HX := Lib.hid hxl
      clear hB hxl
      have HT := Lib.hid (test_bit m k (by omega))
      by_cases hlt : k < 32
      · have hc := own_at hown (((a + k) / 8 : Nat) : Int) (by omega) (by omega)
        rw [Int.toNat_natCast] at hc
        obtain ⟨hc, hf⟩ := hc
        have hst := own_store hown (((a + k) / 8 : Nat) : Int)
        rw [Int.toNat_natCast] at hst
        have HS := Lib.hid hst
        have hfl := flip_B xs hxs (a + k) (by have := HX.out; omega) (((a : Int) + k) / 8) (by omega)
        have HF := Lib.hid hfl
        clear hst hfl
        go_wp2
        · have hbit : m.testBit k = true := by rw [← HT.out]; assumption
          refine ⟨⟨k + 1, _, by omega, by go_num, hm.setCell (.inr hgb) _, HF.out.1, fun j => ?_, (HS.out _).1⟩, by simp [intOf]; omega⟩
          rw [HF.out.2, HB.out, ← burst_step, hbit, Bool.true_and]
        · have hbit : m.testBit k = false := by rw [← HT.out]; assumption
          refine ⟨⟨k + 1, xs, by omega, by go_num, hm, hxs, fun j => ?_, hown⟩, by simp [intOf]; omega⟩
          rw [HB.out, ← burst_step, hbit, Bool.false_and, Bool.xor_false]
      · have : k = 32 := by omega
        subst this
        obtain ⟨A1, c1', hv, hc1, hr1, hA1⟩ := own_form hown
        obtain ⟨rfl, _, rfl⟩ := Value.slice.inj hv
        clear hv hown
        go_wp2_with fail
        refine (open_any _ (n + 4) c1 xs wr hr1 hxs (by omega) hc1 (by omega)).mono ?_
        rintro e w2 ⟨hm2, hpost, hpost'⟩
        have e4 : n + 4 - 4 = n := by omega
        rw [e4] at hpost hpost'
        have hm12 := hm.trans0 hm2
        by_cases h0 : m = 0
        · subst h0
          have hxe : xs = crcSeal bs := B_inj hxs (crcSeal_bd hbs) (by rw [HX.out, crcSeal, List.length_append, sumBytes_length, HL.out]) (fun j => by rw [HB.out]; simp)
          have ht : xs.take n = bs := by rw [hxe, crcSeal, ← HL.out]; simp
          obtain ⟨A2, rfl, hr2, hA2⟩ := hpost (by rw [ht, hxe])
          rw [ht] at hr2
          have k1 := string_of_reads (src := 22) (dst := 9) (c := n) Try.underlying22 Try.underlying5 Try.underlying9 hr2
          have k2 := string_of_reads (src := 22) (dst := 9) (c := c) Try.underlying22 Try.underlying5 Try.underlying9 (hm12.reads hr (by simp))
          clear hpost hpost' hxe ht hr2 hr1 hA2 hA1
          go_wp2_with fail
          refine (lives_any _).mono ?_
          rintro e w4 ⟨rfl, hm3⟩
          go_wp2
          go_ret
          exact ⟨rfl, hm12.trans0 hm3⟩
        · have hne := burst_not bs xs hbs hxs n a m HL.out HX.out (by omega) h0 (by omega) HB.out
          have hp' := hpost' hne
          subst hp'
          have h0' : ((m : Int) == 0) = false := by rw [beq_eq_false_iff_ne]; omega
          clear hpost hpost' hne hr1 hA1 h0
          go_wp2_with fail
          refine (lives_any _).mono ?_
          rintro e w4 ⟨rfl, hm3⟩
          go_wp2
          go_ret
          exact ⟨rfl, hm12.trans0 hm3⟩
  · have hL : (decide (2000 < (n : Int)) || decide (at' < 0) || decide (8 * ((n : Int) + 4) - 32 < at')) = true := by
      simp; omega
    go_wp2_with fail
    all_goals
      refine (lives_any _).mono ?_
      rintro e w4 ⟨rfl, hm3⟩
      go_wp2
      go_ret
      exact ⟨rfl, hm1.trans0 hm3⟩
theorem crcBursts_walk (A : Option Addr) (n c : Nat) (bs : List Int) (at' mask : Int) (w : World) (hr : ReadsInt w .u8 A n bs) (_ : n ≤ c) (hb : ∀ x ∈ bs, (Lit.int .u8 x).wf = true) (hn : n * 1 ≤ 140737488351232)
    (h1 : (Lit.int .i64 at').wf = true) (h2 : (Lit.int .u32 mask).wf = true) :
    Calls Try.prog 8 #[.slice A n c, .int .i64 at', .int .u32 mask] w fun e w' => e = .returned (.bool true) ∧ Mod [] w w' :=
  crcBursts_any A n c bs at' mask w (by omega) hr (bytes_wf hb) (bounds_i64 h1).1 (bounds_i64 h1).2 (bounds_u32 h2).1 (bounds_u32 h2).2
end Go.Proofs.Ytdkmkiiaklkcgaa
