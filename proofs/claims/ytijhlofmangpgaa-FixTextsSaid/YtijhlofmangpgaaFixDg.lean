/- The digits of a base, the beginning of a text, and the sum of two words: what these functions give. -/
import Derived.Test.YtijhlofmangpgaaFixProd
import Derived.Test.YtijhlofmangpgaaStr
import Derived.Laws.Externs
set_option linter.unusedVariables false
set_option linter.unusedSimpArgs false
namespace Go.Proofs.Ytijhlofmangpgaa
open Go.RowKit Go.Proofs.YtijhlofmangpgaaW.PrintWords
/-- A digit's number; -1: it is none. -/
def dref (c : Int) : Int := if 48 ≤ c ∧ c ≤ 57 then c - 48 else if 97 ≤ c ∧ c ≤ 102 then c - 87 else if 65 ≤ c ∧ c ≤ 70 then c - 55 else -1
/-- The same, of a base. -/
def dgt (b : Nat) (c : Int) : Int := if 0 ≤ dref c ∧ dref c < b then dref c else -1
set_option maxRecDepth 100000 in
theorem dref_any (c : Int) (w : World) (h0 : 0 ≤ c) (h1 : c ≤ 255) : Calls Try.prog 44 #[.int .u8 c] w fun e w' => e = .returned (.int .i64 (dref c)) ∧ w = w' := by
  unfold dref
  by_cases d1 : 48 ≤ c ∧ c ≤ 57
  · rw [if_pos d1]
    obtain ⟨e1, e2⟩ := d1
    go_enter Try.func44, Try.ntmps44
    go_wp2
    go_ret
    exact ⟨rfl, rfl⟩
  · rw [if_neg d1]
    have g1 : (decide (48 ≤ c) && decide (c ≤ 57)) = false := by simpa using d1
    by_cases d2 : 97 ≤ c ∧ c ≤ 102
    · rw [if_pos d2]
      obtain ⟨e1, e2⟩ := d2
      have e3 : 48 ≤ c := by omega
      have e4 : ¬ c ≤ 57 := by omega
      go_enter Try.func44, Try.ntmps44
      go_wp2
      go_ret
      exact ⟨rfl, rfl⟩
    · rw [if_neg d2]
      by_cases d3 : 65 ≤ c ∧ c ≤ 70
      · rw [if_pos d3]
        obtain ⟨e1, e2⟩ := d3
        have e3 : 48 ≤ c := by omega
        have e4 : ¬ c ≤ 57 := by omega
        have e5 : ¬ 97 ≤ c := by omega
        go_enter Try.func44, Try.ntmps44
        go_wp2
        go_ret
        exact ⟨rfl, rfl⟩
      · rw [if_neg d3]
        by_cases k1 : 48 ≤ c
        · have k2 : ¬ c ≤ 57 := fun h => d1 ⟨k1, h⟩
          by_cases k3 : 97 ≤ c
          · have k4 : ¬ c ≤ 102 := fun h => d2 ⟨k3, h⟩
            have k5 : 65 ≤ c := by omega
            have k6 : ¬ c ≤ 70 := by omega
            go_enter Try.func44, Try.ntmps44
            go_wp2
            go_ret
            exact ⟨rfl, rfl⟩
          · by_cases k5 : 65 ≤ c
            · have k6 : ¬ c ≤ 70 := fun h => d3 ⟨k5, h⟩
              go_enter Try.func44, Try.ntmps44
              go_wp2
              go_ret
              exact ⟨rfl, rfl⟩
            · go_enter Try.func44, Try.ntmps44
              go_wp2
              go_ret
              exact ⟨rfl, rfl⟩
        · have k3 : ¬ 97 ≤ c := by omega
          have k5 : ¬ 65 ≤ c := by omega
          go_enter Try.func44, Try.ntmps44
          go_wp2
          go_ret
          exact ⟨rfl, rfl⟩
theorem index_any (s : ByteArray) (c : Int) (w : World) : Calls Try.prog 49 #[.string s, .int .u8 c] w fun e w' => e = .returned (.int .i64 (firstIdx s c.toNat.toUInt8)) ∧ w = w' := by
  have h52 : Calls Try.prog 52 #[.string s, .int .u8 c] w fun e w' => e = .returned (.int .i64 (firstIdx s c.toNat.toUInt8)) ∧ w = w' := by
    go_enter Try.func52, Try.ntmps52
    go_wp2
    rw [run_callFunc_extern Try.func53 (by kernel_rfl) (by kernel_rfl) (by kernel_rfl) (e := Extern.BytealgIndexByte.indexByte) (by kernel_rfl), run_indexByte_string]
    simp only [Result.andThen]
    rw [Oper.upon_value]
    go_wp2
    go_ret
    exact ⟨rfl, rfl⟩
  go_enter Try.func49, Try.ntmps49
  go_wp2_with fail
  refine h52.mono ?_
  rintro e w1 ⟨rfl, rfl⟩
  go_wp2
  go_ret
  exact ⟨rfl, rfl⟩
theorem adds_any (x y : Nat) (w : World) (hx : x < 18446744073709551616) (hy : y < 18446744073709551616) : Calls Try.prog 43 #[.int .u64 (x : Int), .int .u64 (y : Int), .int .u64 0] w fun e w' => e = .returned (.tuple #[.int .u64 (((x + y) % 18446744073709551616 : Nat) : Int), .int .u64 (((x + y) / 18446744073709551616 : Nat) : Int)]) ∧ w = w' := by
  have h1 : ((x : Int) + (y : Int) + 0) % 18446744073709551616 = (((x + y) % 18446744073709551616 : Nat) : Int) := by omega
  have h2 : ((x : Int) + (y : Int) + 0) / 18446744073709551616 = (((x + y) / 18446744073709551616 : Nat) : Int) := by omega
  go_enter Try.func43, Try.ntmps43
  go_wp2
  rw [run_callFunc_extern Try.func51 (by kernel_rfl) (by kernel_rfl) (by kernel_rfl) (e := add64Entry) (by kernel_rfl), run_add64 (x : Int) (y : Int) 0 (by omega) (by omega) (by omega) (by omega), h1, h2]
  simp only [Result.andThen]
  rw [Oper.upon_value]
  go_wp2
  go_ret2
  exact ⟨rfl, rfl⟩
/-- The digits to the base 16. -/
def hexs : ByteArray := ⟨#[48, 49, 50, 51, 52, 53, 54, 55, 56, 57, 97, 98, 99, 100, 101, 102]⟩
def lowC (c : Int) : Int := if 65 ≤ c ∧ c ≤ 70 then c + 32 else c
theorem hex_all : ((List.range 17).all fun b => (List.range 256).all fun c => decide (firstIdx (hexs.extract 0 b) (lowC (c : Int)).toNat.toUInt8 = dgt b (c : Int))) = true := by kernel_rfl
theorem hex_at (b : Nat) (c : Int) (hb : b ≤ 16) (h0 : 0 ≤ c) (h1 : c ≤ 255) : firstIdx (hexs.extract 0 b) (lowC c).toNat.toUInt8 = dgt b c := by
  obtain ⟨n, rfl⟩ := Int.eq_ofNat_of_zero_le h0
  have h := List.all_eq_true.1 (List.all_eq_true.1 hex_all b (List.mem_range.2 (by omega))) n (List.mem_range.2 (by omega))
  exact of_decide_eq_true h
set_option maxRecDepth 100000 in
theorem digit_any (c : Int) (b : Nat) (w : World) (h0 : 0 ≤ c) (h1 : c ≤ 255) (hb : b ≤ 16) :
    Calls Try.prog 42 #[.int .u8 c, .int .i64 (b : Int)] w fun e w' => e = .returned (.tuple #[.int .u64 (max (dgt b c) 0), .bool (decide (0 ≤ dgt b c))]) ∧ w = w' := by
  have hx := hex_at b c hb h0 h1
  have hI := index_any (hexs.extract 0 b) (lowC c) w
  rw [hx, hexs] at hI
  have hd0 : -1 ≤ dgt b c ∧ dgt b c ≤ 15 := by unfold dgt; split <;> omega
  generalize dgt b c = d at *
  have hb16 : (b : Int) ≤ 16 := by omega
  have hmx : 0 ≤ max d 0 ∧ max d 0 ≤ 15 := by omega
  by_cases hd : 0 ≤ d
  · have hm2 : max d 0 = d := by omega
    rw [hm2, decide_eq_true hd]
    by_cases hu : 65 ≤ c ∧ c ≤ 70
    · rw [lowC, if_pos hu] at hI
      obtain ⟨u1, u2⟩ := hu
      go_enter Try.func42, Try.ntmps42
      go_wp2_with fail
      refine hI.mono ?_
      rintro e w1 ⟨rfl, rfl⟩
      go_wp2
      go_ret2
      exact ⟨rfl, rfl⟩
    · rw [lowC, if_neg hu] at hI
      by_cases u1 : 65 ≤ c
      · have u2 : ¬ c ≤ 70 := fun h => hu ⟨u1, h⟩
        go_enter Try.func42, Try.ntmps42
        go_wp2_with fail
        refine hI.mono ?_
        rintro e w1 ⟨rfl, rfl⟩
        go_wp2
        go_ret2
        exact ⟨rfl, rfl⟩
      · skip
        go_enter Try.func42, Try.ntmps42
        go_wp2_with fail
        refine hI.mono ?_
        rintro e w1 ⟨rfl, rfl⟩
        go_wp2
        go_ret2
        exact ⟨rfl, rfl⟩
  · have hm2 : max d 0 = 0 := by omega
    rw [hm2]
    by_cases hu : 65 ≤ c ∧ c ≤ 70
    · rw [lowC, if_pos hu] at hI
      obtain ⟨u1, u2⟩ := hu
      go_enter Try.func42, Try.ntmps42
      go_wp2_with fail
      refine hI.mono ?_
      rintro e w1 ⟨rfl, rfl⟩
      go_wp2
      go_ret2
      exact ⟨rfl, rfl⟩
    · rw [lowC, if_neg hu] at hI
      by_cases u1 : 65 ≤ c
      · have u2 : ¬ c ≤ 70 := fun h => hu ⟨u1, h⟩
        go_enter Try.func42, Try.ntmps42
        go_wp2_with fail
        refine hI.mono ?_
        rintro e w1 ⟨rfl, rfl⟩
        go_wp2
        go_ret2
        exact ⟨rfl, rfl⟩
      · skip
        go_enter Try.func42, Try.ntmps42
        go_wp2_with fail
        refine hI.mono ?_
        rintro e w1 ⟨rfl, rfl⟩
        go_wp2
        go_ret2
        exact ⟨rfl, rfl⟩
/-- Does a text begin with a byte? -/
def pre (s : ByteArray) (c : Int) : Bool := decide (0 < s.size ∧ bt s 0 = c)
theorem pre_eq (s : ByteArray) (c : UInt8) (h : 0 < s.size) : ((s.extract 0 1).toList == [c]) = pre s (c.toNat : Int) := by
  rw [toList_eq_data, data_ext]
  obtain ⟨⟨l⟩⟩ := s
  cases l with
  | nil => exact absurd h (by simp [ByteArray.size])
  | cons x t =>
    have h1 : bt ⟨⟨x :: t⟩⟩ 0 = ((x.toNat : Nat) : Int) := by
      unfold bt
      rw [dif_pos (by simpa using h)]
      rfl
    rw [pre, h1]
    simp only [List.take_succ_cons, List.take_zero, List.drop_zero]
    by_cases hx : x = c
    · subst hx; simp [ByteArray.size]
    · have h2 : ¬ (x.toNat : Int) = (c.toNat : Int) := fun e => hx (UInt8.toNat_inj.1 (by omega))
      simp [hx, h2]
theorem prefix_any (s : ByteArray) (c : UInt8) (w : World) (hs : s.size ≤ 1000000) : Calls Try.prog 41 #[.string s, .string ⟨#[c]⟩] w fun e w' => e = .returned (.bool (pre s (c.toNat : Int))) ∧ w = w' := by
  have h48 : Calls Try.prog 48 #[.string s, .string ⟨#[c]⟩] w fun e w' => e = .returned (.bool (pre s (c.toNat : Int))) ∧ w = w' := by
    have hc1 : (⟨#[c]⟩ : ByteArray).size = 1 := rfl
    by_cases h : 0 < s.size
    · have h1 : (1 : Int) ≤ (s.size : Int) := by omega
      go_enter Try.func48, Try.ntmps48
      have he := pre_eq s c h
      go_wp2
      go_ret
      exact ⟨by rw [← he]; rfl, rfl⟩
    · have h1 : ¬ (1 : Int) ≤ (s.size : Int) := by omega
      have h2 : pre s (c.toNat : Int) = false := by simp [pre, h]
      rw [h2]
      go_enter Try.func48, Try.ntmps48
      go_wp2
      go_ret
      exact ⟨rfl, rfl⟩
  go_enter Try.func41, Try.ntmps41
  go_wp2_with fail
  refine h48.mono ?_
  rintro e w1 ⟨rfl, rfl⟩
  go_wp2
  go_ret
  exact ⟨rfl, rfl⟩
end Go.Proofs.Ytijhlofmangpgaa
