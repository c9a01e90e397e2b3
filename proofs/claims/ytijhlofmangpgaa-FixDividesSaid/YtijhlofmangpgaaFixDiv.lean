/- The greatest divisor divides both, and is divided by each that does. -/
import Derived.Test.YtijhlofmangpgaaFixGcd
set_option linter.unusedVariables false
set_option linter.unusedSimpArgs false
namespace Go.Proofs.Ytijhlofmangpgaa
open Go.RowKit Go.Proofs.YtijhlofmangpgaaW.PrintWords Go.Proofs.Ytijhlofmangpgaa.Dig
theorem gcd_div (a b c : Int) (h1 : a.tmod c = 0) (h2 : b.tmod c = 0) : ((Nat.gcd a.natAbs b.natAbs : Nat) : Int).tmod c = 0 := by
  refine Int.tmod_eq_zero_of_dvd ?_
  rw [← Int.natAbs_dvd, Int.natCast_dvd_natCast]
  exact Nat.dvd_gcd (Int.natAbs_dvd_natAbs.2 (Int.dvd_of_tmod_eq_zero h1)) (Int.natAbs_dvd_natAbs.2 (Int.dvd_of_tmod_eq_zero h2))
theorem div_gcd (a b : Int) : a.tmod ((Nat.gcd a.natAbs b.natAbs : Nat) : Int) = 0 ∧ b.tmod ((Nat.gcd a.natAbs b.natAbs : Nat) : Int) = 0 :=
  ⟨Int.tmod_eq_zero_of_dvd (by rw [← Int.dvd_natAbs, Int.natCast_dvd_natCast]; exact Nat.gcd_dvd_left _ _),
   Int.tmod_eq_zero_of_dvd (by rw [← Int.dvd_natAbs, Int.natCast_dvd_natCast]; exact Nat.gcd_dvd_right _ _)⟩
theorem gcd_big (x y : Nat) (hx : x ≤ 9223372036854775808) (hy : y ≤ 9223372036854775808) :
    (9223372036854775807 < Nat.gcd x y ↔ (x = 0 ∨ x = 9223372036854775808) ∧ (y = 0 ∨ y = 9223372036854775808) ∧ (x ≠ 0 ∨ y ≠ 0)) := by
  constructor
  · intro h
    have d1 := Nat.gcd_dvd_left x y
    have d2 := Nat.gcd_dvd_right x y
    have e1 : x = 0 ∨ Nat.gcd x y ≤ x := (Nat.eq_zero_or_pos x).imp id (fun p => Nat.le_of_dvd p d1)
    have e2 : y = 0 ∨ Nat.gcd x y ≤ y := (Nat.eq_zero_or_pos y).imp id (fun p => Nat.le_of_dvd p d2)
    have e3 : x = 0 → y = 0 → Nat.gcd x y = 0 := fun a b => by subst a b; rfl
    omega
  · rintro ⟨rfl | rfl, rfl | rfl, h⟩
    · omega
    · rw [Nat.gcd_zero_left]; omega
    · rw [Nat.gcd_zero_right]; omega
    · rw [Nat.gcd_self]; omega
theorem tmod_i64 (a c : Int) (ha : -9223372036854775808 ≤ a ∧ a ≤ 9223372036854775807) : -9223372036854775808 ≤ a.tmod c ∧ a.tmod c ≤ 9223372036854775807 := by
  have := Int.natAbs_tmod a c
  have h2 := Nat.mod_le a.natAbs c.natAbs
  rw [← this] at h2
  by_cases h0 : 0 ≤ a
  · have := Int.tmod_nonneg c h0
    omega
  · have h3 := Int.tmod_nonneg c (show 0 ≤ -a by omega)
    rw [Int.neg_tmod] at h3
    omega
set_option maxRecDepth 100000 in
set_option maxHeartbeats 2000000 in
theorem divides_any (a b c : Int) (w : World) (ha : -9223372036854775808 ≤ a ∧ a ≤ 9223372036854775807) (hb : -9223372036854775808 ≤ b ∧ b ≤ 9223372036854775807) (hcb : -9223372036854775808 ≤ c ∧ c ≤ 9223372036854775807) :
    Calls Try.prog 4 #[.int .i64 a, .int .i64 b, .int .i64 c] w fun e w' => e = .returned (.bool true) ∧ Mod [] w w' := by
  have CG := gcd_any a b w ha hb
  obtain ⟨d1, d2⟩ := div_gcd a b
  have d3 := gcd_div a b c
  have d4 := gcd_big a.natAbs b.natAbs (by omega) (by omega)
  have d5 : Nat.gcd a.natAbs b.natAbs = 0 → a = 0 ∧ b = 0 := fun h => by
    have := Nat.gcd_eq_zero_iff.1 h
    omega
  have d6 : a = 0 → b = 0 → Nat.gcd a.natAbs b.natAbs = 0 := fun p q => by subst p q; rfl
  have hma := tmod_i64 a c ha
  have hmb := tmod_i64 b c hb
  generalize Nat.gcd a.natAbs b.natAbs = g at *
  by_cases hf : g ≤ 9223372036854775807
  · have hgb : -9223372036854775808 ≤ (g : Int) ∧ (g : Int) ≤ 9223372036854775807 := by omega
    have hmg := tmod_i64 (g : Int) c hgb
    have hfit : fitN (g : Int) = ((g : Int), true) := by unfold fitN; rw [if_pos (by omega)]
    rw [hfit] at CG
    have D1 := Lib.hid d1
    have D2 := Lib.hid d2
    have D3 := Lib.hid d3
    have D4 := Lib.hid d4
    have D5 := Lib.hid d5
    have D6 := Lib.hid d6
    have HMA := Lib.hid hma
    have HMB := Lib.hid hmb
    have HMG := Lib.hid hmg
    clear d1 d2 d3 d4 d5 d6 hfit hma hmb hmg
    go_enter Try.func4, Try.ntmps4
    go_wp2_with fail
    refine CG.mono ?_
    rintro e w1 ⟨⟨r1, r2, hr, rfl⟩, hm1⟩
    obtain ⟨rfl, rfl⟩ := hr
    go_upto_region 5 with fail
    go_cut [106] (fun t wx => t = .bool false ∧ wx = w1)
    case first =>
      by_cases hz : g = 0
      · obtain ⟨rfl, rfl⟩ := D5.out hz
        subst hz
        go_wp2
        go_meet
        exact ⟨rfl, rfl⟩
      · have g1 : 0 < g := Nat.pos_of_ne_zero hz
        have g2 : (0 : Int) < (g : Int) := by omega
        have g3 : (g == 0) = false := by simpa using hz
        have g4 : ((g : Int) == 0) = false := by simp; omega
        have q1 : IntKind.i64.wrap (a.tmod g) = 0 := by rw [D1.out]; rfl
        have q2 : IntKind.i64.wrap (b.tmod g) = 0 := by rw [D2.out]; rfl
        have hno := D4.out
        by_cases a0 : a = 0
        · subst a0
          by_cases b0 : b = 0
          · exact absurd (D6.out rfl b0) hz
          · by_cases b1 : b = -9223372036854775808
            · exact absurd (hno.2 (by omega)) (by omega)
            · have e1 : (b == 0) = false := by simpa using b0
              have e2 : (b != 0) = true := by simpa using b0
              have e3 : (b == -9223372036854775808) = false := by simpa using b1
              clear hno b0 b1 hz
              go_wp2
              go_meet
              exact ⟨rfl, rfl⟩
        · by_cases a1 : a = -9223372036854775808
          · have e4 : (a == 0) = false := by simpa using a0
            have e5 : (a != 0) = true := by simpa using a0
            have e6 : (a == -9223372036854775808) = true := by simpa using a1
            by_cases b0 : b = 0
            · exact absurd (hno.2 (by omega)) (by omega)
            · by_cases b1 : b = -9223372036854775808
              · exact absurd (hno.2 (by omega)) (by omega)
              · have e1 : (b == 0) = false := by simpa using b0
                have e2 : (b != 0) = true := by simpa using b0
                have e3 : (b == -9223372036854775808) = false := by simpa using b1
                clear hno b0 b1 hz a0 a1
                go_wp2
                go_meet
                exact ⟨rfl, rfl⟩
          · have e1 : (a == 0) = false := by simpa using a0
            have e2 : (a != 0) = true := by simpa using a0
            have e3 : (a == -9223372036854775808) = false := by simpa using a1
            clear hno hz a0 a1
            go_wp2
            go_meet
            exact ⟨rfl, rfl⟩
    case rest =>
      obtain ⟨rfl, rfl⟩ := hcut
      have HM := Lib.hid hm1
      clear hm1
      by_cases hc1 : c < 1
      · go_wp2_with (go_at_call 13; refine (lives_any _).mono ?_; rintro e w8 ⟨rfl, hm8⟩)
        go_ret
        exact ⟨rfl, HM.out.trans0 hm8⟩
      · have c1 : (c == 0) = false := by simp; omega
        have q1 : IntKind.i64.wrap (a.tmod c) = a.tmod c := IntWalk.i64_in _ HMA.out
        have q2 : IntKind.i64.wrap (b.tmod c) = b.tmod c := IntWalk.i64_in _ HMB.out
        have q3 : IntKind.i64.wrap ((g : Int).tmod c) = (g : Int).tmod c := IntWalk.i64_in _ HMG.out
        have hd := D3.out
        clear D3
        generalize hA : a.tmod c = ma at *
        generalize hB : b.tmod c = mb at *
        generalize hG : (g : Int).tmod c = mg at *
        by_cases h1 : ma = 0
        · by_cases h2 : mb = 0
          · have h3 := hd h1 h2
            subst h1 h2 h3
            go_wp2_with (go_at_call 13; refine (lives_any _).mono ?_; rintro e w8 ⟨rfl, hm8⟩)
            go_ret
            exact ⟨rfl, HM.out.trans0 hm8⟩
          · have h4 : (mb != 0) = true := by simpa using h2
            subst h1
            clear hd h2
            go_wp2_with (go_at_call 13; refine (lives_any _).mono ?_; rintro e w8 ⟨rfl, hm8⟩)
            go_ret
            exact ⟨rfl, HM.out.trans0 hm8⟩
        · have h4 : (ma != 0) = true := by simpa using h1
          clear hd h1
          go_wp2_with (go_at_call 13; refine (lives_any _).mono ?_; rintro e w8 ⟨rfl, hm8⟩)
          go_ret
          exact ⟨rfl, HM.out.trans0 hm8⟩
  · have hfit : fitN (g : Int) = (0, false) := by unfold fitN; rw [if_neg (by omega)]
    rw [hfit] at CG
    have hx := d4.1 (by omega)
    clear d1 d2 d3 d4 d5 d6 hfit hma hmb hf
    have hab : (a = 0 ∨ a = -9223372036854775808) ∧ (b = 0 ∨ b = -9223372036854775808) ∧ (a ≠ 0 ∨ b ≠ 0) := by omega
    clear hx ha hb hcb
    obtain ⟨rfl | rfl, rfl | rfl, hne⟩ := hab
    · exact absurd hne (by simp)
    all_goals
      clear hne
      go_enter Try.func4, Try.ntmps4
      go_wp2_with fail
      refine CG.mono ?_
      rintro e w1 ⟨⟨r1, r2, hr, rfl⟩, hm1⟩
      obtain ⟨rfl, rfl⟩ := hr
      have HM := Lib.hid hm1
      clear hm1
      go_wp2_with (go_at_call 13; refine (lives_any _).mono ?_; rintro e w8 ⟨rfl, hm8⟩)
      go_ret
      exact ⟨rfl, HM.out.trans0 hm8⟩
theorem divides_walk (a b c : Int) (w : World) (ha : (Lit.int .i64 a).wf = true) (hb : (Lit.int .i64 b).wf = true) (hc : (Lit.int .i64 c).wf = true) :
    Calls Try.prog 4 #[.int .i64 a, .int .i64 b, .int .i64 c] w fun e w' => e = .returned (.bool true) ∧ Mod [] w w' := divides_any a b c w (bounds_i64 ha) (bounds_i64 hb) (bounds_i64 hc)
end Go.Proofs.Ytijhlofmangpgaa
