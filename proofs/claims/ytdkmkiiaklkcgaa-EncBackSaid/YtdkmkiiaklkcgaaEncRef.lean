/- The document's writing of numbers and bytes: each comes to the same lists of bytes as the program's. -/
import Derived.Test.YtdkmkiiaklkcgaaEnc
import Derived.Deep.RegionHeld3
import Derived.OpenShut
import Derived.IntWalk
set_option linter.unusedVariables false
set_option linter.unusedSimpArgs false
namespace Go.Proofs.Ytdkmkiiaklkcgaa
open Go.RowKit Go.Proofs.YtdkmkiiaklkcgaaW.PrintWords
theorem conv_new (w : World) (y : Int) : (convert 22 9 (.slice (some ⟨w.heap.size, 0, none⟩) 1 1)).run Try.prog (w.alloc (.cells #[.int .u8 y] 5)) = .ok (.string (strOfNums [y])) (w.alloc (.cells #[.int .u8 y] 5)) :=
  string_of_reads Try.underlying22 Try.underlying5 Try.underlying9 (reads_lit w .u8 [y] 5 (0, 0) (by simp))
theorem conv_drew (w : World) (y : Int) : (convert 22 9 (.slice (some ⟨w.heap.size, 0, none⟩) 1 1)).run Try.prog (w.alloc (.cells #[.int .u8 y] 5)).drew = .ok (.string (strOfNums [y])) (w.alloc (.cells #[.int .u8 y] 5)).drew :=
  string_of_reads Try.underlying22 Try.underlying5 Try.underlying9 (reads_lit w .u8 [y] 5 (0, 0) (by simp))
theorem conv_later {w W w1 : World} {y : Int} (hm : Mod [] W w1) (hW : W.heap = (w.alloc (.cells #[.int .u8 y] 5)).heap) :
    (convert 22 9 (.slice (some ⟨w.heap.size, 0, none⟩) 1 1)).run Try.prog w1 = .ok (.string (strOfNums [y])) w1 := by
  have h : ReadsInt W .u8 (some ⟨w.heap.size, 0, none⟩) 1 [y] := by
    have := reads_lit w .u8 [y] 5 (0, 0) (by simp)
    refine ⟨rfl, by omega, fun _ => ⟨_, rfl, fun j hj => ?_⟩⟩
    obtain ⟨ad, e, hc⟩ := this.2.2 (by simp)
    cases e
    have h1 := hc j (by simpa using hj)
    rw [← h1]
    unfold World.cell?
    rw [hW]; rfl
  exact string_of_reads Try.underlying22 Try.underlying5 Try.underlying9 (hm.reads h (by simp))
theorem uput_small (n : Nat) (h : n < 18446744073709551616) : (strOfNums (uput n)).size ≤ 10 := by rw [strOfNums_size]; exact uput_len10 h
set_option maxRecDepth 100000 in
theorem refPut_any (x : Nat) : ∀ (w : World), x < 18446744073709551616 →
    Calls Try.prog 40 #[.int .u64 (x : Int)] w fun e w' => e = .returned (.string (strOfNums (uput x))) ∧ Mod [] w w' := by
  induction x using Nat.strongRecOn with
  | _ x ih =>
    intro w hx
    have HX := Lib.hid hx
    have HI := Lib.hid ih
    clear hx ih
    have kc := conv_new
    have kd := conv_drew
    by_cases hlt : x < 128
    · have e1 : (strOfNums (uput x)) = strOfNums [(x : Int)] := by rw [uput_lo hlt]
      have E1 := Lib.hid e1
      clear e1
      go_enter Try.func40, Try.ntmps40
      go_wp2
      go_ret
      exact ⟨by rw [E1.out]; rfl, (Mod.refl [] w).alloc _⟩
    · have hge : 128 ≤ x := by omega
      have hsm := uput_small (x / 128) (by have := HX.out; omega)
      have hone : ∀ y : Int, (strOfNums [y]).size = 1 := fun y => strOfNums_size _
      have e2 : (x : Int) % 128 + 128 = ((x % 128 + 128 : Nat) : Int) := by omega
      have E1 := Lib.hid (show strOfNums (uput x) = strOfNums [(x : Int) % 128 + 128] ++ strOfNums (uput (x / 128)) by rw [uput_hi hlt, strOfNums_append, e2]; rfl)
      clear e2
      have q1 : IntKind.u64.wrap ((x : Int) / 128) = (x : Int) / 128 := by rw [IntKind.wrap_u64]; have := HX.out; omega
      have q2 : (x : Int).tmod 128 = (x : Int) % 128 := Int.tmod_eq_emod_of_nonneg (by omega)
      have q3 : IntKind.u64.wrap ((x : Int) % 128 + 128) = (x : Int) % 128 + 128 := by rw [IntKind.wrap_u64]; omega
      have q4 : IntKind.u8.wrap ((x : Int) % 128 + 128) = (x : Int) % 128 + 128 := by rw [IntKind.wrap_u8]; omega
      have E3 := Lib.hid (show (x : Int) / 128 = ((x / 128 : Nat) : Int) by omega)
      go_enter Try.func40, Try.ntmps40
      go_wp2_with fail
      go_region_with (first
        | (go_at_call 40; rw [E3.out]; refine (HI.out (x / 128) (by omega) _ (by have := HX.out; omega)).mono ?_; rintro e w1 ⟨rfl, hm1⟩; try (have k4 := conv_later (w := w) hm1 rfl)))
      all_goals
        go_wp2
        go_ret
        refine ⟨by rw [E1.out]; rfl, ?_⟩
        first
          | exact (((Mod.refl [] w).alloc _).drew).trans0 hm1
          | exact (((Mod.refl [] w).drew).trans0 hm1).alloc _
theorem refCount_any (x : Int) (w : World) (hx : -9223372036854775808 ≤ x) (hx' : x ≤ 9223372036854775807) :
    Calls Try.prog 22 #[.int .i64 x] w fun e w' => e = .returned (.string (strOfNums (uput x.toNat))) ∧ Mod [] w w' := by
  by_cases h0 : 0 ≤ x
  · obtain ⟨y, rfl⟩ := Int.eq_ofNat_of_zero_le h0
    have h0' : ¬ (y : Int) < 0 := by omega
    go_enter Try.func22, Try.ntmps22
    go_wp2_with fail
    refine (refPut_any y w (by omega)).mono ?_
    rintro e w1 ⟨rfl, hm⟩
    go_wp2
    go_ret
    exact ⟨rfl, hm⟩
  · have h0' : x < 0 := by omega
    have E0 := Lib.hid (show x.toNat = 0 by omega)
    go_enter Try.func22, Try.ntmps22
    go_wp2_with fail
    refine (refPut_any 0 w (by omega)).mono ?_
    rintro e w1 ⟨rfl, hm⟩
    go_wp2
    go_ret
    exact ⟨by rw [E0.out]; rfl, hm⟩
theorem refWhole_any (x : Int) (w : World) (hx : -9223372036854775808 ≤ x) (hx' : x ≤ 9223372036854775807) :
    Calls Try.prog 23 #[.int .i64 x] w fun e w' => e = .returned (.string (strOfNums (uput (zz x)))) ∧ Mod [] w w' := by
  have hz := zz_lt hx hx'
  by_cases h0 : 0 ≤ x
  · go_enter Try.func23, Try.ntmps23
    go_wp2_with fail
    rw [show 2 * x = (zz x : Int) by unfold zz; rw [if_pos h0]; omega]
    refine (refPut_any (zz x) w hz).mono ?_
    rintro e w1 ⟨rfl, hm⟩
    go_wp2
    go_ret
    exact ⟨rfl, hm⟩
  · have h0' : x < 0 := by omega
    go_enter Try.func23, Try.ntmps23
    go_wp2_with fail
    rw [show 2 * -(x + 1) + 1 = (zz x : Int) by unfold zz; rw [if_neg (by omega)]; omega]
    refine (refPut_any (zz x) w hz).mono ?_
    rintro e w1 ⟨rfl, hm⟩
    go_wp2
    go_ret
    exact ⟨rfl, hm⟩
theorem refSized_any (s : List Int) (w : World) (hs : s.length ≤ 1000000) :
    Calls Try.prog 24 #[.string (strOfNums s)] w fun e w' => e = .returned (.string (strOfNums (uput s.length ++ s))) ∧ Mod [] w w' := by
  have hz : (strOfNums s).size = s.length := strOfNums_size s
  have hsm := uput_small s.length (by omega)
  have HE := Lib.hid (strOfNums_append (uput s.length) s)
  go_enter Try.func24, Try.ntmps24
  go_wp2_with fail
  refine (refCount_any s.length w (by omega) (by omega)).mono ?_
  rintro e w1 ⟨rfl, hm⟩
  rw [Int.toNat_natCast]
  go_wp2
  go_ret
  exact ⟨by rw [← HE.out]; rfl, hm⟩
end Go.Proofs.Ytdkmkiiaklkcgaa
