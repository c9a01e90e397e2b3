/- The text of a number, the document's: what it gives. -/
import Derived.Test.YtijhlofmangpgaaFixParse
set_option linter.unusedVariables false
set_option linter.unusedSimpArgs false
namespace Go.Proofs.Ytijhlofmangpgaa
open Go.RowKit Go.Proofs.YtijhlofmangpgaaW.PrintWords
theorem sgn_tdiv (B : Bool) (x b : Nat) : (sgn B x).tdiv (b : Int) = sgn B (x / b) := by
  have h : ((x : Int)).tdiv (b : Int) = ((x / b : Nat) : Int) := by rw [Int.tdiv_eq_ediv_of_nonneg (by omega)]; rfl
  cases B
  · exact h
  · show (-(x : Int)).tdiv (b : Int) = -((x / b : Nat) : Int)
    rw [Int.neg_tdiv, h]
theorem sgn_tmod (B : Bool) (x b : Nat) : (sgn B x).tmod (b : Int) = sgn B (x % b) := by
  have h : ((x : Int)).tmod (b : Int) = ((x % b : Nat) : Int) := by rw [Int.tmod_eq_emod_of_nonneg (by omega)]; rfl
  cases B
  · exact h
  · show (-(x : Int)).tmod (b : Int) = -((x % b : Nat) : Int)
    rw [Int.neg_tmod, h]
theorem sgn_abs (B : Bool) (x : Nat) : (sgn B x).natAbs = x := by cases B <;> simp [sgn]
theorem sgn_of (a : Int) : sgn (decide (a < 0)) a.natAbs = a := by
  by_cases h : a < 0
  · rw [decide_eq_true h]
    show -((a.natAbs : Nat) : Int) = a
    omega
  · rw [decide_eq_false h]
    show ((a.natAbs : Nat) : Int) = a
    omega
theorem str_emp (xs : List Int) : (strOfNums xs).toList.isEmpty = decide (xs = []) := by
  rw [toList_eq_data, strOfNums_data]
  cases xs <;> simp
theorem str_nil (xs : List Int) : ((strOfNums xs).toList == ([] : List UInt8)) = decide (xs = []) := by
  rw [toList_eq_data, strOfNums_data]
  cases xs <;> simp
set_option maxRecDepth 100000 in
set_option maxHeartbeats 2000000 in
theorem rtext_any (a : Int) (b : Nat) (w : World) (h0 : -9223372036854775808 ≤ a) (h1 : a ≤ 9223372036854775807) (hb0 : 2 ≤ b) (hb1 : b ≤ 16) :
    Calls Try.prog 31 #[.int .i64 a, .int .i64 (b : Int)] w fun e w' => e = .returned (.string (strOfNums (txt a b))) ∧ Mod [] w w' := by
  have hbn : ¬ (b : Int) = 0 := by omega
  have hbz : ((b : Int) == 0) = false := by simp; omega
  have hbm : ((b : Int) == -1) = false := by simp
  have hbw : IntKind.i64.wrap (b : Int) = (b : Int) := IntWalk.i64_in _ (by omega)
  have HT : txt a b = (if decide (a < 0) = true then [45] else []) ++ (TT b a.natAbs).reverse := by unfold txt; by_cases h : a < 0 <;> simp [h]
  have hsa := sgn_of a
  have HT' := Lib.hid HT
  rw [HT]
  clear HT
  go_enter Try.func31, Try.ntmps31
  go_wp2_with fail
  have hX2 : decide (a < 0) = false → a.natAbs ≤ 9223372036854775807 := fun h => by have := of_decide_eq_false h; omega
  generalize hB : decide (a < 0) = B at *
  have hX : a.natAbs ≤ 9223372036854775808 := by omega
  have hXb := hX
  have HXA : ∃ X, a.natAbs = X := ⟨_, rfl⟩
  obtain ⟨X, hXA⟩ := HXA
  have HX := Lib.hid hXA
  rw [hXA] at hsa hX2 hX hXb
  have HSA := Lib.hid hsa
  have hXL := Lib.hid hXb
  clear hXA hsa
  go_loopw [0, 5] (fun av sv wr => ∃ (x : Nat) (os : List Int), av = .int .i64 (sgn B x) ∧ sv = .string (strOfNums os.reverse) ∧ os ++ TB b x = TB b X ∧ x ≤ 9223372036854775808 ∧ (B = false → x ≤ 9223372036854775807) ∧ Mod [] w wr) (fun av _ _ => (intOf av).natAbs)
  case atStart => exact ⟨X, [], by rw [HSA.out], rfl, rfl, hX, hX2, Mod.refl [] w⟩
  case round =>
    obtain ⟨x, os, rfl, rfl, hos, hx, hx2, hm⟩ := hrel
    by_cases hx0 : x = 0
    · have e1 : (sgn B x != 0) = false := by subst hx0; cases B <;> simp [sgn]
      have he := str_nil os.reverse
      have hos2 : os = TB b X := by rw [← hos, hx0, TB_zero, List.append_nil]
      have hTT := Lib.hid (show os ≠ [] → TT b X = os from fun h => by rw [TT, if_neg (fun h2 => h (by rw [hos2, h2, TB_zero])), hos2])
      have hT0 := Lib.hid (show os = [] → X = 0 from fun h => by
        by_cases h2 : X = 0
        · exact h2
        · rw [h, TB_pos h2 hb0] at hos2; exact absurd hos2.symm (by simp))
      clear hos hos2
      by_cases hnil : os = []
      · subst hnil
        have hX0 := hT0.out rfl
        subst hX0
        have hB0 : B = false := by
          cases B
          · rfl
          · have : a = 0 := by rw [← HSA.out]; simp [sgn]
            subst this
            simp at hB
        subst hB0
        have he2 : (strOfNums ([] : List Int)).toList.isEmpty = true := by rw [str_emp]; simp
        go_wp2
        go_ret
        rw [HX.out]
        exact ⟨rfl, hm⟩
      · have he2 : (strOfNums os.reverse).toList.isEmpty = false := by rw [str_emp]; simpa using hnil
        have h3 := hTT.out hnil
        clear hTT hT0 he
        have hol : os.length ≤ 64 := by rw [← h3, TT]; split; · simp
                                        · exact TB_len b X hb0 64 (by have := hXL.out; omega)
        have hsz : ¬ 9223372036854775807 < (⟨#[45]⟩ : ByteArray).size + (strOfNums os.reverse).size := by
          rw [str_size, List.length_reverse]; show ¬ _ < 1 + _; omega
        have hsz2 : ¬ 9223372036854775807 < 1 + (strOfNums os.reverse).size := hsz
        have H3 := Lib.hid h3
        clear h3
        cases B
        · go_wp2
          go_ret
          rw [HX.out, H3.out]
          exact ⟨rfl, hm⟩
        · go_wp2
          go_ret
          rw [HX.out, H3.out]
          exact ⟨congrArg (fun s => Ending.returned (.string s)) (str_append [45] os.reverse).symm, hm⟩
    · have e0 : (sgn B x != 0) = true := by cases B <;> simp [sgn] <;> omega
      have e1 : (sgn B x == 0) = false := by cases B <;> simp [sgn] <;> omega
      have e2 := sgn_tmod B x b
      have e3 := sgn_tdiv B x b
      have hlt : x % b < b := Nat.mod_lt _ (by omega)
      have hol : os.length ≤ 64 := by
        have h1 := TB_len b X hb0 64 (by have := hXL.out; omega)
        rw [← hos, List.length_append] at h1
        omega
      have hsz : ∀ c : Int, ¬ 9223372036854775807 < (strOfNums [c]).size + (strOfNums os.reverse).size := fun c => by
        rw [str_size, str_size, List.length_reverse]; simp; omega
      have HOS := Lib.hid (show (os ++ [ch (x % b)]) ++ TB b (x / b) = TB b X by rw [← hos, TB_pos hx0 hb0]; simp)
      have hdl : x / b < x := Nat.div_lt_self (by omega) (by omega)
      have hab := sgn_abs B x
      have hab2 := sgn_abs B (x / b)
      clear hos
      generalize x % b = md at *
      generalize x / b = dv at *
      have hr : (sgn B md < 0 → -(sgn B md) = (md : Int)) ∧ (¬ sgn B md < 0 → sgn B md = (md : Int)) ∧ -16 ≤ sgn B md := by cases B <;> simp [sgn] <;> omega
      generalize sgn B md = r at *
      have HM := Lib.hid hm
      clear hm
      go_upto_if 17 with fail
      go_cut [7] (fun t wx => t = .int .i64 (md : Int) ∧ wx = wr)
      case first =>
        by_cases hr0 : r < 0
        · have hr1 := hr.1 hr0
          have hw1 : IntKind.i64.wrap (-r) = (md : Int) := by rw [hr1]; exact IntWalk.i64_in _ (by omega)
          go_wp2
          go_meet
          exact ⟨rfl, rfl⟩
        · have hr1 := hr.2.1 hr0
          go_wp2
          go_meet
          exact ⟨rfl, rfl⟩
      case rest =>
        obtain ⟨rfl, rfl⟩ := hcut
        have w1 : IntKind.i64.wrap (48 + (md : Int)) = 48 + (md : Int) := IntWalk.i64_in _ (by omega)
        have w2 : IntKind.i64.wrap (87 + (md : Int)) = 87 + (md : Int) := IntWalk.i64_in _ (by omega)
        have w3 : IntKind.u8.wrap (48 + (md : Int)) = 48 + (md : Int) := by rw [IntKind.wrap_u8]; omega
        have w4 : IntKind.u8.wrap (87 + (md : Int)) = 87 + (md : Int) := by rw [IntKind.wrap_u8]; omega
        go_upto_if 24 with fail
        go_cut [8] (fun t wx => t = .int .u8 (ch md) ∧ wx = wc)
        case first =>
          by_cases h9 : 9 < md
          · have h9' : (9 : Int) < (md : Int) := by omega
            have hch : ch md = 87 + (md : Int) := by unfold ch; rw [if_neg (by omega)]
            have HC := Lib.hid hch
            clear hch
            go_wp2
            go_meet
            exact ⟨by rw [HC.out], rfl⟩
          · have h9' : ¬ (9 : Int) < (md : Int) := by omega
            have hch : ch md = 48 + (md : Int) := by unfold ch; rw [if_pos (by omega)]
            have HC := Lib.hid hch
            clear hch
            go_wp2
            go_meet
            exact ⟨by rw [HC.out], rfl⟩
        case rest =>
          obtain ⟨rfl, rfl⟩ := hcut
          have hcv := string_of_reads (src := 54) (dst := 9) Try.underlying54 Try.underlying5 Try.underlying9 (reads_lit wc .u8 [ch md] 5 (0, 0) (by simp)) (c := 1)
          have HMA := Lib.hid (HM.out.alloc (.cells #[.int .u8 (ch md)] 5))
          have hcv' : (convert 54 9 (.slice (some ⟨wc.heap.size, 0, none⟩) 1 1)).run Try.prog (wc.alloc (.cells #[.int .u8 (ch md)] 5)) = .ok (.string (strOfNums [ch md])) (wc.alloc (.cells #[.int .u8 (ch md)] 5)) := hcv
          clear hcv
          have hsz1 := hsz (ch md)
          clear hsz
          generalize ch md = cm at *
          go_wp2
          refine ⟨⟨dv, os ++ [cm], rfl, ?_, HOS.out, by omega, fun h => ?_, HMA.out⟩, ?_⟩
          · rw [← str_append]; simp
          · have := hx2 h; omega
          · simp only [intOf]; rw [hab, hab2]; exact hdl
end Go.Proofs.Ytijhlofmangpgaa
