/- Which parts, and which records, may be. -/
import Derived.Test.YtopfaafgfgjfaaaObLives
import Derived.LoopTactic
import Derived.Deep.LoopGhost
import Derived.Deep.DeepMust
import Derived.WalkSpells
import Derived.Deep.RegionHeld3
import Derived.BigQuiet
import Derived.Deep.QuietTactic
set_option linter.unusedVariables false
set_option linter.unusedSimpArgs false
namespace Go.Proofs.Ytopfaafgfgjfaaa
open Go.RowKit Go.Proofs.YtopfaafgfgjfaaaW.PrintWords Go.Proofs.Ytopfaafgfgjfaaa.PObjLinks
def okc (c : Int) : Prop := 33 ≤ c ∧ c ≤ 126
def mayB (s : ByteArray) : Bool := decide (0 < s.size ∧ s.size ≤ 32 ∧ ∀ j, j < s.size → 33 ≤ bt s (j : Int) ∧ bt s (j : Int) ≤ 126)
theorem mayB_true {s : ByteArray} : mayB s = true ↔ 0 < s.size ∧ s.size ≤ 32 ∧ ∀ j : Nat, j < s.size → 33 ≤ bt s (j : Int) ∧ bt s (j : Int) ≤ 126 := by simp [mayB]
theorem mayB_false {s : ByteArray} (h : ¬ (0 < s.size ∧ s.size ≤ 32 ∧ ∀ j : Nat, j < s.size → 33 ≤ bt s (j : Int) ∧ bt s (j : Int) ≤ 126)) : mayB s = false := by simpa [mayB] using h
set_option maxRecDepth 100000 in
set_option maxHeartbeats 1000000 in
theorem smay_any (s : ByteArray) (w : World) : Calls Try.prog 47 #[.string s] w fun e w' => e = .returned (.bool (mayB s)) ∧ Mod [] w w' := by
  by_cases h0 : s.size = 0
  · have HM := Lib.hid (mayB_false (s := s) (by omega))
    have t0 : s.toList = [] := nil_of s h0
    clear h0
    go_enter Try.func47, Try.ntmps47
    go_wp2
    go_ret
    exact ⟨by rw [HM.out]; rfl, Mod.refl [] w⟩
  · have t0 : s.toList.isEmpty = false := isEmpty_of s h0
    by_cases h1 : 32 < s.size
    · have HM := Lib.hid (mayB_false (s := s) (by omega))
      have t1 : decide ((32 : Int) < (s.size : Int)) = true := by simp; omega
      have t2 : decide (32 < s.size) = true := by simpa using h1
      clear h0
      go_enter Try.func47, Try.ntmps47
      go_wp2
      go_ret
      exact ⟨by rw [HM.out]; rfl, Mod.refl [] w⟩
    · have t1 : decide ((32 : Int) < (s.size : Int)) = false := by simp; omega
      have t2 : decide (32 < s.size) = false := by simpa using h1
      have hsz : s.size ≤ 32 := by omega
      obtain ⟨w1, c, hrun, hm, hc, hr, hz⟩ := conv_str (P := Try.prog) w 9 50 5 s Try.underlying9 Try.underlying50 Try.underlying5 (by omega)
      have HS : 0 < s.size := by omega
      clear h0 h1
      have HZ := Lib.hid hz
      clear hz
      generalize w.heap.size = g at *
      go_enter Try.func47, Try.ntmps47
      go_wp2
      go_loop [15, 4] (fun i _ => ∃ k : Nat, k ≤ s.size ∧ i = .int .i64 (k : Int) ∧ ∀ j : Nat, j < k → 33 ≤ bt s (j : Int) ∧ bt s (j : Int) ≤ 126) (fun i _ => (s.size : Nat) - (intOf i).toNat)
      case atStart => exact ⟨0, by omega, rfl, fun j hj => by omega⟩
      case round =>
        obtain ⟨k, hk, rfl, hall⟩ := hrel
        have HA := Lib.hid hall
        clear hall
        by_cases hlt : k < s.size
        · obtain ⟨a, ha, hcell⟩ := hr.at_ k (by omega) (by omega)
          rw [Int.toNat_natCast, show rd (bys s) (k : Int) = bt s (k : Int) from bys_getD s k hlt] at hcell
          have hrg := bt_range s (k : Int)
          obtain rfl : ⟨g, 0, none⟩ = a := by simpa using ha
          rw [add_plain] at hcell
          obtain ⟨b, hb⟩ : ∃ b, bt s (k : Int) = b := ⟨_, rfl⟩
          rw [hb] at hcell hrg
          have HB := Lib.hid hb
          clear hb ha
          by_cases hb1 : b < 33
          · have HM := Lib.hid (mayB_false (s := s) (fun h => by have := h.2.2 k hlt; rw [HB.out] at this; omega))
            go_wp2
            go_ret
            exact ⟨by rw [HM.out]; rfl, hm⟩
          · by_cases hb2 : 126 < b
            · have HM := Lib.hid (mayB_false (s := s) (fun h => by have := h.2.2 k hlt; rw [HB.out] at this; omega))
              go_wp2
              go_ret
              exact ⟨by rw [HM.out]; rfl, hm⟩
            · go_wp2
              go_round
              case rel => exact ⟨k + 1, by omega, by go_num, fun j hj => by
                by_cases e : j = k
                · subst e; rw [HB.out]; omega
                · exact HA.out j (by omega)⟩
              case measure => simp [intOf]; omega
        · have HM := Lib.hid (mayB_true.2 ⟨HS, hsz, fun j hj => HA.out j (by omega)⟩)
          go_wp2
          go_ret
          exact ⟨by rw [HM.out]; rfl, hm⟩
theorem within_any (n a b : Int) (w : World) : Calls Try.prog 45 #[.int .i64 n, .int .i64 a, .int .i64 b] w fun e w' => e = .returned (.bool (decide (a ≤ n ∧ n ≤ b))) ∧ Mod [] w w' := by
  have h : obj_within.f n a b = some (decide (a ≤ n ∧ n ≤ b)) := by
    unfold obj_within.f
    by_cases h0 : a ≤ n
    · rw [if_pos h0]; simp [h0]
    · rw [if_neg (by omega)]; simp [h0]
  refine (obj_within.calls n a b _ w h).mono ?_
  rintro e w1 ⟨rfl, hd⟩
  exact ⟨rfl, Mod.of_below hd.below⟩
/-- May a part be? -/
def pmB (p : S54) : Bool :=
  if p.f0 = 4 then decide (p.f1 = 0) && mayB p.f2 else if p.f2.size ≠ 0 then false
  else if p.f0 = 0 ∨ p.f0 = 6 ∨ p.f0 = 7 then decide (p.f1 = 0) else if p.f0 = 1 then decide (0 ≤ p.f1 ∧ p.f1 ≤ 1) else if p.f0 = 3 then decide (0 ≤ p.f1 ∧ p.f1 ≤ 127)
  else if p.f0 = 5 then decide (0 ≤ p.f1 ∧ p.f1 ≤ 255) else if p.f0 = 8 then decide (1 ≤ p.f1 ∧ p.f1 ≤ 16384) else decide (p.f0 = 2)
theorem size_toList {s : ByteArray} : s.toList = [] ↔ s.size = 0 := by
  rw [toList_eq_data, ← size_data]
  exact List.length_eq_zero_iff.symm
set_option maxRecDepth 100000 in
set_option maxHeartbeats 4000000 in
theorem partMay_any (p : S54) (w : World) : Calls Try.prog 28 #[.agg #[.int .i64 p.f0, .int .i64 p.f1, .string p.f2]] w fun e w' => e = .returned (.bool (pmB p)) ∧ Mod [] w w' := by
  obtain ⟨K, N, S⟩ := p
  dsimp only
  have hm := (Mod.refl [] w).alloc (.cells #[.int .i64 K, .int .i64 N, .string S] 54)
  have hk := blk_new w (.cells #[.int .i64 K, .int .i64 N, .string S] 54)
  have HM := Lib.hid hm
  have HK := Lib.hid hk
  clear hm
  by_cases h4 : K = 4
  · subst h4
    have z0 := (blk_cell hk 0).trans rfl
    have z1 := (blk_cell hk 1).trans rfl
    have z2 := (blk_cell hk 2).trans rfl
    clear hk
    have HP := Lib.hid (show pmB ⟨4, N, S⟩ = (decide (N = 0) && mayB S) from rfl)
    rw [HP.out]
    by_cases hN : N = 0
    · subst hN
      go_enter Try.func28, Try.ntmps28
      go_wp2_with fail
      refine (smay_any S _).mono ?_
      rintro e w1 ⟨rfl, hm1⟩
      have HM1 := Lib.hid (HM.out.trans0 hm1)
      clear hm1
      go_wp2
      go_ret
      exact ⟨by simp, HM1.out⟩
    · have n0 : (N == 0) = false := by simpa using hN
      have HN := Lib.hid hN
      clear hN
      go_enter Try.func28, Try.ntmps28
      go_wp2
      go_ret
      exact ⟨by rw [decide_eq_false HN.out]; rfl, HM.out⟩
  · have n4 : (K == 4) = false := by simpa using h4
    have H4 := Lib.hid h4
    clear h4
    by_cases hS : S.size = 0
    · have t0 : S.toList = [] := nil_of S hS
      have HS := Lib.hid hS
      clear hS hk
      have hcat : K = 0 ∨ K = 6 ∨ K = 7 ∨ K = 1 ∨ K = 3 ∨ K = 5 ∨ K = 8 ∨ K = 2 ∨ ((K == 0) = false ∧ (K == 6) = false ∧ (K == 7) = false ∧ (K == 1) = false ∧ (K == 3) = false ∧ (K == 5) = false ∧ (K == 8) = false ∧ (K == 2) = false) := by
        simp; omega
      rcases hcat with rfl | rfl | rfl | rfl | rfl | rfl | rfl | rfl | ⟨n0, n6, n7, n1, n3, n5, n8, n2⟩
      · have z0 := (blk_cell HK.out 0).trans rfl
        have z1 := (blk_cell HK.out 1).trans rfl
        have z2 := (blk_cell HK.out 2).trans rfl
        have HP : Hid (pmB ⟨0, N, S⟩ = (N == 0)) := Lib.hid (by unfold pmB; simp [HS.out]; rfl)
        rw [HP.out]
        go_enter Try.func28, Try.ntmps28
        go_wp2
        go_ret
        exact ⟨rfl, HM.out⟩
      · have z0 := (blk_cell HK.out 0).trans rfl
        have z1 := (blk_cell HK.out 1).trans rfl
        have z2 := (blk_cell HK.out 2).trans rfl
        have HP : Hid (pmB ⟨6, N, S⟩ = (N == 0)) := Lib.hid (by unfold pmB; simp [HS.out]; rfl)
        rw [HP.out]
        go_enter Try.func28, Try.ntmps28
        go_wp2
        go_ret
        exact ⟨rfl, HM.out⟩
      · have z0 := (blk_cell HK.out 0).trans rfl
        have z1 := (blk_cell HK.out 1).trans rfl
        have z2 := (blk_cell HK.out 2).trans rfl
        have HP : Hid (pmB ⟨7, N, S⟩ = (N == 0)) := Lib.hid (by unfold pmB; simp [HS.out]; rfl)
        rw [HP.out]
        go_enter Try.func28, Try.ntmps28
        go_wp2
        go_ret
        exact ⟨rfl, HM.out⟩
      · have z0 := (blk_cell HK.out 0).trans rfl
        have z1 := (blk_cell HK.out 1).trans rfl
        have z2 := (blk_cell HK.out 2).trans rfl
        have HP : Hid (pmB ⟨1, N, S⟩ = decide (0 ≤ N ∧ N ≤ 1)) := Lib.hid (by unfold pmB; simp [HS.out])
        rw [HP.out]
        go_enter Try.func28, Try.ntmps28
        go_wp2_with fail
        refine (within_any N 0 1 _).mono ?_
        rintro e w1 ⟨rfl, hm1⟩
        have HM1 := Lib.hid (HM.out.trans0 hm1)
        clear hm1
        go_wp2
        go_ret
        exact ⟨by rw [Bool.decide_and]; rfl, HM1.out⟩
      · have z0 := (blk_cell HK.out 0).trans rfl
        have z1 := (blk_cell HK.out 1).trans rfl
        have z2 := (blk_cell HK.out 2).trans rfl
        have HP : Hid (pmB ⟨3, N, S⟩ = decide (0 ≤ N ∧ N ≤ 127)) := Lib.hid (by unfold pmB; simp [HS.out])
        rw [HP.out]
        go_enter Try.func28, Try.ntmps28
        go_wp2_with fail
        refine (within_any N 0 127 _).mono ?_
        rintro e w1 ⟨rfl, hm1⟩
        have HM1 := Lib.hid (HM.out.trans0 hm1)
        clear hm1
        go_wp2
        go_ret
        exact ⟨by rw [Bool.decide_and]; rfl, HM1.out⟩
      · have z0 := (blk_cell HK.out 0).trans rfl
        have z1 := (blk_cell HK.out 1).trans rfl
        have z2 := (blk_cell HK.out 2).trans rfl
        have HP : Hid (pmB ⟨5, N, S⟩ = decide (0 ≤ N ∧ N ≤ 255)) := Lib.hid (by unfold pmB; simp [HS.out])
        rw [HP.out]
        go_enter Try.func28, Try.ntmps28
        go_wp2_with fail
        refine (within_any N 0 255 _).mono ?_
        rintro e w1 ⟨rfl, hm1⟩
        have HM1 := Lib.hid (HM.out.trans0 hm1)
        clear hm1
        go_wp2
        go_ret
        exact ⟨by rw [Bool.decide_and]; rfl, HM1.out⟩
      · have z0 := (blk_cell HK.out 0).trans rfl
        have z1 := (blk_cell HK.out 1).trans rfl
        have z2 := (blk_cell HK.out 2).trans rfl
        have HP : Hid (pmB ⟨8, N, S⟩ = decide (1 ≤ N ∧ N ≤ 16384)) := Lib.hid (by unfold pmB; simp [HS.out])
        rw [HP.out]
        go_enter Try.func28, Try.ntmps28
        go_wp2_with fail
        refine (within_any N 1 16384 _).mono ?_
        rintro e w1 ⟨rfl, hm1⟩
        have HM1 := Lib.hid (HM.out.trans0 hm1)
        clear hm1
        go_wp2
        go_ret
        exact ⟨by rw [Bool.decide_and]; rfl, HM1.out⟩
      · have z0 := (blk_cell HK.out 0).trans rfl
        have z1 := (blk_cell HK.out 1).trans rfl
        have z2 := (blk_cell HK.out 2).trans rfl
        have HP : Hid (pmB ⟨2, N, S⟩ = true) := Lib.hid (by unfold pmB; simp [HS.out])
        rw [HP.out]
        go_enter Try.func28, Try.ntmps28
        go_wp2
        go_ret
        exact ⟨rfl, HM.out⟩
      · have z0 := (blk_cell HK.out 0).trans rfl
        have z1 := (blk_cell HK.out 1).trans rfl
        have z2 := (blk_cell HK.out 2).trans rfl
        have HP : Hid (pmB ⟨K, N, S⟩ = false) := Lib.hid (by
          have m0 : K ≠ 0 := by simpa using n0
          have m6 : K ≠ 6 := by simpa using n6
          have m7 : K ≠ 7 := by simpa using n7
          have m1 : K ≠ 1 := by simpa using n1
          have m3 : K ≠ 3 := by simpa using n3
          have m5 : K ≠ 5 := by simpa using n5
          have m8 : K ≠ 8 := by simpa using n8
          have m2 : K ≠ 2 := by simpa using n2
          have m4 : K ≠ 4 := H4.out
          unfold pmB
          simp [HS.out, m0, m1, m2, m3, m4, m5, m6, m7, m8])
        rw [HP.out]
        go_enter Try.func28, Try.ntmps28
        go_wp2
        go_ret
        exact ⟨rfl, HM.out⟩
    · have t0 : S.toList.isEmpty = false := isEmpty_of S hS
      have z0 := (blk_cell hk 0).trans rfl
      have z1 := (blk_cell hk 1).trans rfl
      have z2 := (blk_cell hk 2).trans rfl
      have HP : Hid (pmB ⟨K, N, S⟩ = false) := Lib.hid (by
        have m4 : K ≠ 4 := H4.out
        unfold pmB
        simp [hS, m4])
      rw [HP.out]
      clear hk hS
      go_enter Try.func28, Try.ntmps28
      go_wp2
      go_ret
      exact ⟨rfl, HM.out⟩
theorem may1_any (p : S54) (w : World) : Calls Try.prog 27 #[.agg #[.int .i64 p.f0, .int .i64 p.f1, .string p.f2]] w fun e w' => e = .returned (.bool (!pmB p)) ∧ Mod [] w w' := by
  have hm := (Mod.refl [] w).alloc (.cells #[.int .i64 p.f0, .int .i64 p.f1, .string p.f2] 54)
  have HM := Lib.hid hm
  have hk := blk_new w (.cells #[.int .i64 p.f0, .int .i64 p.f1, .string p.f2] 54)
  have z0 := (blk_cell hk 0).trans rfl
  have z1 := (blk_cell hk 1).trans rfl
  have z2 := (blk_cell hk 2).trans rfl
  clear hm hk
  have hc := partMay_any p (w.alloc (.cells #[.int .i64 p.f0, .int .i64 p.f1, .string p.f2] 54))
  generalize pmB p = b at *
  go_enter Try.func27, Try.ntmps27
  go_wp2_with fail
  refine hc.mono ?_
  rintro e w1 ⟨rfl, hm⟩
  have HM1 := Lib.hid (HM.out.trans0 hm)
  clear hm
  go_wp2
  go_ret
  exact ⟨rfl, HM1.out⟩
set_option maxRecDepth 100000 in
set_option maxHeartbeats 1000000 in
theorem index_g (A : Option Addr) (c : Nat) (l : List S54) (w : World) (hr : Kd.C k54 w A l.length l) (hc : l.length ≤ c) (hl : l.length ≤ 10000) :
    Calls Try.prog 46 #[.slice A l.length c, .func (.func 27) #[] #[]] w fun e w' => ∃ r : Int, e = .returned (.int .i64 r) ∧ decide (0 ≤ r) = l.any (fun p => !pmB p) ∧ Mod [] w w' := by
  go_enter Try.func46, Try.ntmps46
  go_wp2_with fail
  go_loopw [8] (fun iv wr => ∃ i : Nat, iv = .int .i64 (i : Int) ∧ i ≤ l.length ∧ (l.take i).any (fun p => !pmB p) = false ∧ Mod [] w wr) (fun iv _ => l.length - (intOf iv).toNat)
  case atStart => exact ⟨0, rfl, Nat.zero_le _, by simp, Mod.refl _ _⟩
  case round =>
    obtain ⟨i, rfl, hi, hall, hm⟩ := hrel
    have HM := Lib.hid hm
    have HA := Lib.hid hall
    clear hm hall
    by_cases hlt : i < l.length
    · have hi0 : (0 : Int) ≤ (i : Int) := by omega
      have hlt2 : (i : Int) < (l.length : Int) := by omega
      obtain ⟨ad, rfl, e0, e1, e2⟩ := at_T54 (Kd.C_below hr HM.out.below0) (i : Int) hi0 hlt2
      rw [rd54 l i hlt, Int.toNat_natCast] at e0 e1 e2
      have hct := may1_any l[i] wr
      have HT := Lib.hid (show (l.take (i + 1)).any (fun p => !pmB p) = ((l.take i).any (fun p => !pmB p) || !pmB l[i]) by
        rw [List.take_add_one, List.getElem?_eq_getElem hlt, List.any_append]; simp)
      have HX := Lib.hid (fun (h : pmB l[i] = false) => show l.any (fun p => !pmB p) = true from List.any_eq_true.2 ⟨l[i], List.getElem_mem hlt, by simp [h]⟩)
      generalize l[i] = p at *
      cases hp : pmB p
      · rw [hp] at hct
        have HX' := Lib.hid (HX.out hp)
        clear HX HT hp
        go_wp2_with fail
        refine hct.mono ?_
        rintro e w1 ⟨rfl, hm1⟩
        have HM1 := Lib.hid (HM.out.trans0 hm1)
        clear hm1 hct e0 e1 e2
        go_wp2
        go_ret
        exact ⟨(i : Int), rfl, by rw [HX'.out]; simp, HM1.out⟩
      · rw [hp] at hct
        rw [hp, HA.out] at HT
        clear HX hp
        go_wp2_with fail
        refine hct.mono ?_
        rintro e w1 ⟨rfl, hm1⟩
        have HM1 := Lib.hid (HM.out.trans0 hm1)
        clear hm1 hct e0 e1 e2
        go_wp2
        refine ⟨⟨i + 1, by go_num, by omega, HT.out, HM1.out⟩, ?_⟩
        simp [intOf]; omega
    · obtain rfl : i = l.length := by omega
      have hlt2 : ¬ (l.length : Int) < (l.length : Int) := by omega
      rw [List.take_length] at HA
      go_wp2
      go_ret
      exact ⟨-1, rfl, by rw [HA.out]; rfl, HM.out⟩
theorem contains_g (A : Option Addr) (c : Nat) (l : List S54) (w : World) (hr : Kd.C k54 w A l.length l) (hc : l.length ≤ c) (hl : l.length ≤ 10000) :
    Calls Try.prog 26 #[.slice A l.length c, .func (.func 27) #[] #[]] w fun e w' => e = .returned (.bool (l.any (fun p => !pmB p))) ∧ Mod [] w w' := by
  have hct := index_g A c l w hr hc hl
  go_enter Try.func26, Try.ntmps26
  go_wp2_with fail
  refine hct.mono ?_
  rintro e w1 ⟨r, rfl, hr1, hm⟩
  have HM := Lib.hid hm
  have HR := Lib.hid hr1
  clear hm hr1 hct
  go_wp2
  go_ret
  exact ⟨by rw [← HR.out]; rfl, HM.out⟩
end Go.Proofs.Ytopfaafgfgjfaaa
