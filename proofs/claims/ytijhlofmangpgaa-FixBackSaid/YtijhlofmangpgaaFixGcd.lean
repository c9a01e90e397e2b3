/- The program's sign, negation, absolute value and greatest divisor. -/
import Derived.Test.YtijhlofmangpgaaFixNum
set_option linter.unusedVariables false
set_option linter.unusedSimpArgs false
namespace Go.Proofs.Ytijhlofmangpgaa
open Go.RowKit Go.Proofs.YtijhlofmangpgaaW.PrintWords Go.Proofs.Ytijhlofmangpgaa.Dig
def sgn (b : Bool) (x : Nat) : Int := if b then -(x : Int) else x
theorem signed_any (n : Nat) (b : Bool) (w : World) (hn : n < 18446744073709551616) :
    Calls Try.prog 37 #[.int .u64 (n : Int), .bool b] w (FitPost w (fitN (sgn b n))) := by
  cases b with
  | true =>
    by_cases h : n ≤ 9223372036854775808
    · have t1 : decide (n ≤ 9223372036854775808) = true := by simpa using h
      have t2 : decide ((n : Int) ≤ 9223372036854775808) = true := by simp; omega
      have q1 : IntKind.i64.wrap (IntKind.u64.wrap (-(n : Int))) = -(n : Int) := by rw [IntKind.wrap_u64, IntKind.wrap_i64]; omega
      rw [show fitN (sgn true n) = (-(n : Int), true) by unfold fitN sgn; rw [if_pos (by simp; omega)]; rfl]
      clear h
      go_enter Try.func37, Try.ntmps37
      go_wp2
      go_ret2
      exact ⟨rfl, rfl⟩
    · have t1 : decide (n ≤ 9223372036854775808) = false := by simpa using h
      have t2 : decide ((n : Int) ≤ 9223372036854775808) = false := by simp; omega
      rw [show fitN (sgn true n) = (0, false) by unfold fitN sgn; rw [if_neg (by simp; omega)]]
      clear h
      go_enter Try.func37, Try.ntmps37
      go_wp2
      go_ret2
      exact ⟨rfl, rfl⟩
  | false =>
    by_cases h : n ≤ 9223372036854775807
    · have t1 : decide (n ≤ 9223372036854775807) = true := by simpa using h
      have t2 : decide ((n : Int) ≤ 9223372036854775807) = true := by simp; omega
      have q1 : IntKind.i64.wrap (n : Int) = (n : Int) := by rw [IntKind.wrap_i64]; omega
      rw [show fitN (sgn false n) = ((n : Int), true) by unfold fitN sgn; rw [if_pos (by simp; omega)]; rfl]
      clear h
      go_enter Try.func37, Try.ntmps37
      go_wp2
      go_ret2
      exact ⟨rfl, rfl⟩
    · have t1 : decide (n ≤ 9223372036854775807) = false := by simpa using h
      have t2 : decide ((n : Int) ≤ 9223372036854775807) = false := by simp; omega
      rw [show fitN (sgn false n) = (0, false) by unfold fitN sgn; rw [if_neg (by simp; omega)]]
      clear h
      go_enter Try.func37, Try.ntmps37
      go_wp2
      go_ret2
      exact ⟨rfl, rfl⟩
theorem neg_any (a : Int) (w : World) (ha : -9223372036854775808 ≤ a ∧ a ≤ 9223372036854775807) :
    Calls Try.prog 21 #[.int .i64 a] w (FitPost w (fitN (-a))) := by
  have h := sub_any 0 a w (by omega) ha
  rw [Int.zero_sub] at h
  generalize fitN (-a) = R at *
  obtain ⟨r1, r2⟩ := R
  go_enter Try.func21, Try.ntmps21
  go_wp2_with fail
  refine h.mono ?_
  rintro e w1 ⟨rfl, rfl⟩
  go_wp2
  go_ret2
  exact ⟨rfl, rfl⟩
theorem abs_any (a : Int) (w : World) (ha : -9223372036854775808 ≤ a ∧ a ≤ 9223372036854775807) :
    Calls Try.prog 22 #[.int .i64 a] w (FitPost w (fitN a.natAbs)) := by
  have h := size_any a w ha.1 ha.2
  have h2 := signed_any a.natAbs false w (by omega)
  rw [show sgn false a.natAbs = (a.natAbs : Int) from rfl] at h2
  generalize fitN a.natAbs = R at *
  obtain ⟨r1, r2⟩ := R
  go_enter Try.func22, Try.ntmps22
  go_wp2_with fail
  refine h.mono ?_
  rintro e w1 ⟨rfl, rfl⟩
  go_wp2_with fail
  refine h2.mono ?_
  rintro e w1 ⟨rfl, rfl⟩
  go_wp2
  go_ret2
  exact ⟨rfl, rfl⟩
theorem gcd_any (a b : Int) (w : World) (ha : -9223372036854775808 ≤ a ∧ a ≤ 9223372036854775807) (hb : -9223372036854775808 ≤ b ∧ b ≤ 9223372036854775807) :
    Calls Try.prog 18 #[.int .i64 a, .int .i64 b] w fun e w' => (∃ r1 r2, fitN (Nat.gcd a.natAbs b.natAbs : Nat) = (r1, r2) ∧ e = .returned (.tuple #[.int .i64 r1, .bool r2])) ∧ Mod [] w w' := by
  have h1 := size_any a w ha.1 ha.2
  have h2 := size_any b w hb.1 hb.2
  obtain ⟨G, hG⟩ : ∃ G, Nat.gcd a.natAbs b.natAbs = G := ⟨_, rfl⟩
  have hx : a.natAbs ≤ 9223372036854775808 := by omega
  have hy : b.natAbs ≤ 9223372036854775808 := by omega
  rw [hG]
  have HG := Lib.hid hG
  clear hG
  generalize a.natAbs = x0 at *
  generalize b.natAbs = y0 at *
  go_enter Try.func18, Try.ntmps18
  go_wp2_with fail
  refine h1.mono ?_
  rintro e w1 ⟨rfl, rfl⟩
  go_wp2_with fail
  refine h2.mono ?_
  rintro e w1 ⟨rfl, rfl⟩
  go_wp2_with fail
  go_loopw [6, 7] (fun u v wr => ∃ x y : Nat, u = .int .u64 (x : Int) ∧ v = .int .u64 (y : Int) ∧ x ≤ 9223372036854775808 ∧ y ≤ 9223372036854775808 ∧ Nat.gcd x y = G ∧ Mod [] w wr) (fun _ v _ => (intOf v).toNat)
  case atStart => exact ⟨x0, y0, rfl, rfl, hx, hy, HG.out, Mod.refl _ _⟩
  case round =>
    obtain ⟨x, y, rfl, rfl, hxx, hyy, hg, hm⟩ := hrel
    by_cases h0 : y = 0
    · subst h0
      rw [Nat.gcd_zero_right] at hg
      have HGX := Lib.hid hg
      have hs := signed_any x false wr (by omega)
      rw [show sgn false x = (x : Int) from rfl] at hs
      obtain ⟨⟨r1, r2⟩, hR⟩ : ∃ R, fitN (x : Int) = R := ⟨_, rfl⟩
      rw [hR] at hs
      have HR := Lib.hid hR
      clear hg hR
      go_wp2_with fail
      refine hs.mono ?_
      rintro e w1 ⟨rfl, rfl⟩
      go_wp2
      go_ret2
      exact ⟨⟨r1, r2, by rw [← HGX.out]; exact HR.out, rfl⟩, hm⟩
    · have q1 : ((x : Int).tmod (y : Int)) = ((x % y : Nat) : Int) := by rw [Int.tmod_eq_emod_of_nonneg (by omega)]; rfl
      have hlt := Nat.mod_lt x (Nat.pos_of_ne_zero h0)
      have HGX := Lib.hid (show Nat.gcd y (x % y) = G by rw [← hg, Nat.gcd_comm x y, Nat.gcd_rec y x, Nat.gcd_comm])
      have t1 : (y == 0) = false := by simpa using h0
      have t2 : ((y : Int) == 0) = false := by simp; omega
      clear hg
      generalize x % y = z at *
      go_wp2_with fail
      go_quiet (fail)
      go_wp2
      go_roundw
      case rel => exact ⟨y, z, rfl, rfl, hyy, by omega, HGX.out, hm.drewN _⟩
      case measure => simp [intOf]; omega
end Go.Proofs.Ytijhlofmangpgaa
