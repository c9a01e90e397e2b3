/- The laws of texts: walked, with what they compute. -/
import Derived.Test.YtijhlofmangpgaaFixParseR
set_option linter.unusedVariables false
set_option linter.unusedSimpArgs false
namespace Go.Proofs.Ytijhlofmangpgaa
open Go.RowKit Go.Proofs.YtijhlofmangpgaaW.PrintWords
theorem text_not (a b : Int) (w : World) (hb : ¬ (2 ≤ b ∧ b ≤ 16)) : Calls Try.prog 30 #[.int .i64 a, .int .i64 b] w fun e w' => e = .returned (.string ⟨#[]⟩) ∧ w = w' := by
  have hB := based_any b w
  rw [decide_eq_false hb] at hB
  go_enter Try.func30, Try.ntmps30
  go_wp2_with fail
  refine hB.mono ?_
  rintro e w1 ⟨rfl, rfl⟩
  go_wp2
  go_ret
  exact ⟨rfl, rfl⟩
set_option maxRecDepth 100000 in
set_option maxHeartbeats 1000000 in
theorem texts_walk (a : Int) (s : ByteArray) (b : Int) (w : World) (ha : (Lit.int .i64 a).wf = true) (hs : s.size ≤ 140737488351232) (hb : (Lit.int .i64 b).wf = true) :
    Calls Try.prog 8 #[.int .i64 a, .string s, .int .i64 b] w fun e w' => e = .returned (.bool true) ∧ Mod [] w w' := by
  obtain ⟨a0, a1⟩ := bounds_i64 ha
  have hbb := bounds_i64 hb
  clear ha hb
  by_cases h300 : 300 < s.size
  · have h1 : (300 : Int) < (s.size : Int) := by omega
    go_enter Try.func8, Try.ntmps8
    go_wp2_with fail
    refine (lives_any w).mono ?_
    rintro e w1 ⟨rfl, hm⟩
    go_wp2
    go_ret
    exact ⟨rfl, hm⟩
  · have h1 : ¬ (300 : Int) < (s.size : Int) := by omega
    by_cases hB : 2 ≤ b ∧ b ≤ 16
    · obtain ⟨B, rfl⟩ := Int.eq_ofNat_of_zero_le (by omega : 0 ≤ b)
      have hb0 : 2 ≤ B := by omega
      have hb1 : B ≤ 16 := by omega
      have hp := fun w => parse_any s B w (by omega) hb0 hb1
      have hq := fun w => rparse_any s B w (by omega) hb0 hb1
      have ht := fun w => text_any a B w a0 a1 hb0 hb1
      have hu := fun w => rtext_any a B w a0 a1 hb0 hb1
      have n1 : ¬ (B : Int) < 2 := by omega
      have n2 : ¬ (16 : Int) < (B : Int) := by omega
      clear hB hbb
      generalize (parseOf B s).1 = v1 at *
      generalize (parseOf B s).2 = v2 at *
      generalize strOfNums (txt a B) = tx at *
      go_enter Try.func8, Try.ntmps8
      go_wp2_with fail
      refine (hp _).mono ?_
      rintro e w1 ⟨rfl, hm1⟩
      go_wp2_with fail
      refine (hq _).mono ?_
      rintro e w2 ⟨rfl, hm2⟩
      have hm := hm1.trans0 hm2
      clear hm1 hm2 hp hq
      go_wp2_with fail
      refine (ht _).mono ?_
      rintro e w3 ⟨rfl, hm3⟩
      go_wp2_with fail
      refine (hu _).mono ?_
      rintro e w4 ⟨rfl, hm4⟩
      have hm5 := (hm.trans0 hm3).trans0 hm4
      clear hm hm3 hm4 ht hu
      go_wp2_with fail
      refine (lives_any _).mono ?_
      rintro e w5 ⟨rfl, hm6⟩
      go_wp2
      go_ret
      exact ⟨rfl, hm5.trans0 hm6⟩
    · have hp := fun w => parse_not s b w hB
      have hq := fun w => rparse_not s b w hB
      have ht := fun w => text_not a b w hB
      have hcase : b < 2 ∨ ¬ b < 2 ∧ 16 < b := by omega
      clear hB
      obtain n1 | ⟨n1, n2⟩ := hcase
      all_goals
        go_enter Try.func8, Try.ntmps8
        go_wp2_with fail
        refine (hp _).mono ?_
        rintro e w1 ⟨rfl, rfl⟩
        go_wp2_with fail
        refine (hq _).mono ?_
        rintro e w1 ⟨rfl, rfl⟩
        go_wp2_with fail
        refine (ht _).mono ?_
        rintro e w1 ⟨rfl, rfl⟩
        clear hp hq ht
        go_wp2_with fail
        refine (lives_any _).mono ?_
        rintro e w5 ⟨rfl, hm6⟩
        go_wp2
        go_ret
        exact ⟨rfl, hm6⟩
end Go.Proofs.Ytijhlofmangpgaa
