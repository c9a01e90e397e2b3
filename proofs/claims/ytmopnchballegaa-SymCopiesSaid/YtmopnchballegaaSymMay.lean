/- Which texts may be names. -/
import Derived.Test.YtmopnchballegaaStr
import Derived.Test.YtmopnchballegaaPSymPlaysx1
import Derived.LoopTactic
import Derived.Deep.LoopGhost
import Derived.Deep.DeepMust
import Derived.WalkSpells
import Derived.Deep.RegionHeld3
import Derived.BigQuiet
import Derived.Deep.QuietTactic
set_option linter.unusedVariables false
set_option linter.unusedSimpArgs false
namespace Go.Proofs.Ytmopnchballegaa
open Go.RowKit Go.Proofs.YtmopnchballegaaW.PrintWords
def okc (c : Int) : Prop := 33 ≤ c ∧ c ≤ 126
def mayB (s : ByteArray) : Bool := decide (0 < s.size ∧ s.size ≤ 32 ∧ ∀ j, j < s.size → 33 ≤ bt s (j : Int) ∧ bt s (j : Int) ≤ 126)
theorem mayB_true {s : ByteArray} : mayB s = true ↔ 0 < s.size ∧ s.size ≤ 32 ∧ ∀ j : Nat, j < s.size → 33 ≤ bt s (j : Int) ∧ bt s (j : Int) ≤ 126 := by simp [mayB]
theorem mayB_false {s : ByteArray} (h : ¬ (0 < s.size ∧ s.size ≤ 32 ∧ ∀ j : Nat, j < s.size → 33 ≤ bt s (j : Int) ∧ bt s (j : Int) ≤ 126)) : mayB s = false := by simpa [mayB] using h
set_option maxRecDepth 100000 in
set_option maxHeartbeats 1000000 in
theorem may_any (s : ByteArray) (w : World) : Calls Try.prog 11 #[.string s] w fun e w' => e = .returned (.bool (mayB s)) ∧ Mod [] w w' := by
  by_cases h0 : s.size = 0
  · have HM := Lib.hid (mayB_false (s := s) (by omega))
    have t0 : s.toList = [] := nil_of s h0
    clear h0
    go_enter Try.func11, Try.ntmps11
    go_wp2
    go_ret
    exact ⟨by rw [HM.out]; rfl, Mod.refl [] w⟩
  · have t0 : s.toList.isEmpty = false := isEmpty_of s h0
    by_cases h1 : 32 < s.size
    · have HM := Lib.hid (mayB_false (s := s) (by omega))
      have t1 : decide ((32 : Int) < (s.size : Int)) = true := by simp; omega
      have t2 : decide (32 < s.size) = true := by simpa using h1
      clear h0
      go_enter Try.func11, Try.ntmps11
      go_wp2
      go_ret
      exact ⟨by rw [HM.out]; rfl, Mod.refl [] w⟩
    · have t1 : decide ((32 : Int) < (s.size : Int)) = false := by simp; omega
      have t2 : decide (32 < s.size) = false := by simpa using h1
      have hsz : s.size ≤ 32 := by omega
      obtain ⟨w1, c, hrun, hm, hc, hr, hz⟩ := conv_str (P := Try.prog) w 9 51 5 s Try.underlying9 Try.underlying51 Try.underlying5 (by omega)
      have HS : 0 < s.size := by omega
      clear h0 h1
      have HZ := Lib.hid hz
      clear hz
      generalize w.heap.size = g at *
      go_enter Try.func11, Try.ntmps11
      go_wp2
      go_loop [15, 4] (fun i _ => ∃ k : Nat, k ≤ s.size ∧ i = .int .i64 (k : Int) ∧ ∀ j : Nat, j < k → 33 ≤ bt s (j : Int) ∧ bt s (j : Int) ≤ 126) (fun i _ => (s.size : Nat) - (intOf i).toNat)
      case atStart => exact ⟨0, by omega, rfl, fun j hj => by omega⟩
      case round =>
        obtain ⟨k, hk, rfl, hall⟩ := hrel
        have HA := Lib.hid hall
        clear hall
        by_cases hlt : k < s.size
        · obtain ⟨a, ha, hcell⟩ := hr.at_ k (by omega) (by omega)
          rw [Int.toNat_natCast, show rd (bys s) (k : Int) = bt s (k : Int) from bys_getD s k hlt] at hcell
          have hrg := bt_range s (k : Int)
          obtain rfl : ⟨g, 0, none⟩ = a := by simpa using ha
          rw [add_plain] at hcell
          obtain ⟨b, hb⟩ : ∃ b, bt s (k : Int) = b := ⟨_, rfl⟩
          rw [hb] at hcell hrg
          have HB := Lib.hid hb
          clear hb ha
          by_cases hb1 : b < 33
          · have HM := Lib.hid (mayB_false (s := s) (fun h => by have := h.2.2 k hlt; rw [HB.out] at this; omega))
            go_wp2
            go_ret
            exact ⟨by rw [HM.out]; rfl, hm⟩
          · by_cases hb2 : 126 < b
            · have HM := Lib.hid (mayB_false (s := s) (fun h => by have := h.2.2 k hlt; rw [HB.out] at this; omega))
              go_wp2
              go_ret
              exact ⟨by rw [HM.out]; rfl, hm⟩
            · go_wp2
              go_round
              case rel => exact ⟨k + 1, by omega, by go_num, fun j hj => by
                by_cases e : j = k
                · subst e; rw [HB.out]; omega
                · exact HA.out j (by omega)⟩
              case measure => simp [intOf]; omega
        · have HM := Lib.hid (mayB_true.2 ⟨HS, hsz, fun j hj => HA.out j (by omega)⟩)
          go_wp2
          go_ret
          exact ⟨by rw [HM.out]; rfl, hm⟩
end Go.Proofs.Ytmopnchballegaa
