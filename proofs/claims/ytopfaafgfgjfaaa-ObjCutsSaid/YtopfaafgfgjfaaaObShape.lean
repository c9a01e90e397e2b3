/- Which records may be: their shape, and all of them. -/
import Derived.Test.YtopfaafgfgjfaaaObMay
set_option linter.unusedVariables false
set_option linter.unusedSimpArgs false
namespace Go.Proofs.Ytopfaafgfgjfaaa
open Go.RowKit Go.Proofs.YtopfaafgfgjfaaaW.PrintWords Go.Proofs.Ytopfaafgfgjfaaa.PObjLinks
theorem lb0 (n : Nat) : ((n : Int) == 0) = decide (n = 0) := by rw [Bool.eq_iff_iff]; simp
theorem lb1 (n : Nat) : ((n : Int) == 1) = decide (n = 1) := by rw [Bool.eq_iff_iff]; simp; omega
theorem lb2 (n : Nat) : ((n : Int) == 2) = decide (n = 2) := by rw [Bool.eq_iff_iff]; simp; omega
def linkB (p : S54) (orNil : Bool) : Bool := decide (p.f0 = 8) || (orNil && decide (p.f0 = 0))
theorem link_any (p : S54) (b : Bool) (w : World) : Calls Try.prog 44 #[.agg #[.int .i64 p.f0, .int .i64 p.f1, .string p.f2], .bool b] w fun e w' => e = .returned (.bool (linkB p b)) ∧ Mod [] w w' := by
  have h : obj_link.f p.f0 p.f1 p.f2 b = some (linkB p b) := by
    unfold obj_link.f linkB
    by_cases h8 : p.f0 = 8
    · rw [if_pos h8, decide_eq_true h8]; rfl
    · rw [if_neg h8, decide_eq_false h8]
      cases b <;> rfl
  refine (obj_link.calls p.f0 p.f1 p.f2 b _ w h).mono ?_
  rintro e w1 ⟨rfl, hd⟩
  exact ⟨rfl, Mod.of_below hd⟩
def ascB (s : ByteArray) : Bool := decide (∀ j : Nat, j < s.size → bt s (j : Int) ≤ 127)
/-- Are parts and bytes what a kind asks for? -/
def shB (a : Int) (l : List S54) (s : ByteArray) : Bool :=
  if a = 2 then ascB s && decide (l.length = 0) else if a = 3 then decide (l.length = 0) else if s.size ≠ 0 then false
  else if a = 0 ∨ a = 8 then decide (l.length = 2) else if a = 4 then decide (l.length = 1)
  else if a = 5 then decide (l.length = 2) && (linkB (rd_T54 l 0) false && linkB (rd_T54 l 1) true)
  else if a = 6 then decide (1 ≤ l.length) && linkB (rd_T54 l 0) true
  else if a = 7 then decide (1 ≤ l.length) && (decide ((rd_T54 l 0).f0 = 2) && decide (0 ≤ (rd_T54 l 0).f1 ∧ (rd_T54 l 0).f1 ≤ 63)) else decide (a = 1 ∨ a = 9)
set_option maxRecDepth 100000 in
set_option maxHeartbeats 8000000 in
theorem shaped_any (a : Int) (A : Option Addr) (c : Nat) (l : List S54) (s : ByteArray) (w : World) (hr : Kd.C k54 w A l.length l) (hc : l.length ≤ c) (hl : l.length ≤ 10000) (hs : s.size ≤ 100000) :
    Calls Try.prog 25 #[.agg #[.int .i64 a, .slice A l.length c, .string s]] w fun e w' => e = .returned (.bool (shB a l s)) ∧ Mod [] w w' := by
  have hm := (Mod.refl [] w).alloc (.cells #[.int .i64 a, .slice A l.length c, .string s] 32)
  have hk := blk_new w (.cells #[.int .i64 a, .slice A l.length c, .string s] 32)
  have HM := Lib.hid hm
  have HK := Lib.hid hk
  have HR := Lib.hid (Kd.C_below hr hm.below0)
  clear hm hk hr
  have hcat : a = 2 ∨ a = 3 ∨ (a ≠ 2 ∧ a ≠ 3) := by omega
  rcases hcat with rfl | rfl | ⟨h2, h3⟩
  · obtain ⟨W, hW⟩ : ∃ W, W = w.alloc (.cells #[.int .i64 2, .slice A l.length c, .string s] 32) := ⟨_, rfl⟩
    obtain ⟨w1, k1, hrun, hm1, hck, hrd, hz⟩ := conv_str (P := Try.prog) (w.alloc (.cells #[.int .i64 2, .slice A l.length c, .string s] 32)) 9 50 5 s Try.underlying9 Try.underlying50 Try.underlying5 (by omega)
    have HM1 := Lib.hid (HM.out.trans0 hm1)
    have HRD := Lib.hid hrd
    have HP := Lib.hid (show shB 2 l s = (ascB s && decide (l.length = 0)) from rfl)
    rw [HP.out]
    have z0 := (blk_cell HK.out 0).trans rfl
    have z1 := (blk_cell HK.out 1).trans rfl
    have z2 := (blk_cell HK.out 2).trans rfl
    clear hm1 hz hW W
    generalize hg : (w.alloc (.cells #[.int .i64 2, .slice A l.length c, .string s] 32)).heap.size = g at *
    clear hg
    go_enter Try.func25, Try.ntmps25
    go_wp2_with fail
    clear hrun z0 z1 z2
    go_loopw [19] (fun iv wr => ∃ i : Nat, iv = .int .i64 (i : Int) ∧ i ≤ s.size ∧ (∀ j : Nat, j < i → bt s (j : Int) ≤ 127) ∧ Mod [] w1 wr) (fun iv _ => s.size - (intOf iv).toNat)
    case atStart => exact ⟨0, rfl, Nat.zero_le _, fun j hj => absurd hj (Nat.not_lt_zero j), Mod.refl _ _⟩
    case round =>
      obtain ⟨i, rfl, hi, hall, hmr⟩ := hrel
      have HA := Lib.hid hall
      have HMR := Lib.hid hmr
      have HM1 := Lib.hid (HM1.out.trans0 hmr)
      have HRD := Lib.hid (hmr.reads HRD.out (by simp))
      clear hmr
      clear hall
      by_cases hlt : i < s.size
      · have hlt2 : (i : Int) < (s.size : Int) := by omega
        obtain ⟨ad, had, hcell⟩ := HRD.out.at_ i (by omega) (by omega)
        rw [Int.toNat_natCast, show rd (bys s) (i : Int) = bt s (i : Int) from bys_getD s i hlt] at hcell
        obtain rfl : ⟨g, 0, none⟩ = ad := by simpa using had
        rw [own_addr] at hcell
        have hrg := bt_range s (i : Int)
        obtain ⟨b, hb⟩ : ∃ b, bt s (i : Int) = b := ⟨_, rfl⟩
        rw [hb] at hcell hrg
        have HB := Lib.hid hb
        clear hb had
        by_cases hb1 : 127 < b
        · have HF : Hid (ascB s = false) := Lib.hid (decide_eq_false (fun h => by have := h i hlt; rw [HB.out] at this; omega))
          go_wp2
          go_ret
          exact ⟨by rw [HF.out]; rfl, HM1.out⟩
        · go_wp2
          refine ⟨⟨i + 1, by go_num, by omega, fun j hj => ?_, HMR.out⟩, ?_⟩
          · by_cases e : j = i
            · subst e; rw [HB.out]; omega
            · exact HA.out j (by omega)
          · simp [intOf]; omega
      · have hlt2 : ¬ (i : Int) < (s.size : Int) := by omega
        have HF : Hid (ascB s = true) := Lib.hid (decide_eq_true (fun j hj => HA.out j (by omega)))
        go_wp2
        go_ret
        exact ⟨by rw [HF.out]; show Ending.returned (.bool ((l.length : Int) == 0)) = _; rw [lb0]; simp, HM1.out⟩
  · have HP := Lib.hid (show shB 3 l s = decide (l.length = 0) from rfl)
    rw [HP.out]
    have z0 := (blk_cell HK.out 0).trans rfl
    have z1 := (blk_cell HK.out 1).trans rfl
    have z2 := (blk_cell HK.out 2).trans rfl
    go_enter Try.func25, Try.ntmps25
    go_wp2
    go_ret
    exact ⟨by show Ending.returned (.bool ((l.length : Int) == 0)) = _; rw [lb0], HM.out⟩
  · have n2 : (a == 2) = false := by simpa using h2
    have n3 : (a == 3) = false := by simpa using h3
    by_cases hz : s.size = 0
    case neg =>
      have t0 : s.toList.isEmpty = false := isEmpty_of s hz
      have HP : Hid (shB a l s = false) := Lib.hid (by unfold shB; simp [h2, h3, hz])
      rw [HP.out]
      clear h2 h3 hz
      have z0 := (blk_cell HK.out 0).trans rfl
      have z1 := (blk_cell HK.out 1).trans rfl
      have z2 := (blk_cell HK.out 2).trans rfl
      go_enter Try.func25, Try.ntmps25
      go_wp2
      go_ret
      exact ⟨rfl, HM.out⟩
    have t0 : s.toList = [] := nil_of s hz
    have HZ := Lib.hid hz
    clear hz
    have hcat : a = 0 ∨ a = 8 ∨ a = 4 ∨ a = 5 ∨ a = 6 ∨ a = 7 ∨ ((a == 0) = false ∧ (a == 8) = false ∧ (a == 4) = false ∧ (a == 5) = false ∧ (a == 6) = false ∧ (a == 7) = false) := by
      simp; omega
    clear h2 h3
    rcases hcat with rfl | rfl | rfl | rfl | rfl | rfl | ⟨n0, n8, n4, n5, n6, n7⟩
    · have HP : Hid (shB 0 l s = decide (l.length = 2)) := Lib.hid (by unfold shB; simp [HZ.out])
      rw [HP.out]
      have z0 := (blk_cell HK.out 0).trans rfl
      have z1 := (blk_cell HK.out 1).trans rfl
      have z2 := (blk_cell HK.out 2).trans rfl
      go_enter Try.func25, Try.ntmps25
      go_wp2
      go_ret
      exact ⟨by show Ending.returned (.bool ((l.length : Int) == 2)) = _; rw [lb2], HM.out⟩
    · have HP : Hid (shB 8 l s = decide (l.length = 2)) := Lib.hid (by unfold shB; simp [HZ.out])
      rw [HP.out]
      have z0 := (blk_cell HK.out 0).trans rfl
      have z1 := (blk_cell HK.out 1).trans rfl
      have z2 := (blk_cell HK.out 2).trans rfl
      go_enter Try.func25, Try.ntmps25
      go_wp2
      go_ret
      exact ⟨by show Ending.returned (.bool ((l.length : Int) == 2)) = _; rw [lb2], HM.out⟩
    · have HP : Hid (shB 4 l s = decide (l.length = 1)) := Lib.hid (by unfold shB; simp [HZ.out])
      rw [HP.out]
      have z0 := (blk_cell HK.out 0).trans rfl
      have z1 := (blk_cell HK.out 1).trans rfl
      have z2 := (blk_cell HK.out 2).trans rfl
      go_enter Try.func25, Try.ntmps25
      go_wp2
      go_ret
      exact ⟨by show Ending.returned (.bool ((l.length : Int) == 1)) = _; rw [lb1], HM.out⟩
    · have HP : Hid (shB 5 l s = (decide (l.length = 2) && (linkB (rd_T54 l 0) false && linkB (rd_T54 l 1) true))) := Lib.hid (by unfold shB; simp [HZ.out])
      rw [HP.out]
      by_cases hl2 : l.length = 2
      · have m2 : ((l.length : Int) == 2) = true := by rw [lb2]; exact decide_eq_true hl2
        obtain ⟨ad, hA, e0, e1, e2⟩ := at_T54 HR.out 0 (by omega) (by omega)
        obtain ⟨ad', hA', f0, f1, f2⟩ := at_T54 HR.out 1 (by omega) (by omega)
        obtain rfl : ad = ad' := by rw [hA] at hA'; exact Option.some.inj hA'
        subst hA
        clear hA'
        rw [decide_eq_true hl2]
        have e0 : (w.alloc (.cells #[.int .i64 5, .slice (some ad) l.length c, .string s] 32)).cell? ad = some (.int .i64 (rd_T54 l 0).f0) := e0
        have e1 : (w.alloc (.cells #[.int .i64 5, .slice (some ad) l.length c, .string s] 32)).cell? ⟨ad.block, ad.off + 1, none⟩ = some (.int .i64 (rd_T54 l 0).f1) := e1
        have e2 : (w.alloc (.cells #[.int .i64 5, .slice (some ad) l.length c, .string s] 32)).cell? ⟨ad.block, ad.off + 2, none⟩ = some (.string (rd_T54 l 0).f2) := e2
        have f0 : (w.alloc (.cells #[.int .i64 5, .slice (some ad) l.length c, .string s] 32)).cell? ⟨ad.block, ad.off + 3, none⟩ = some (.int .i64 (rd_T54 l 1).f0) := f0
        have f1 : (w.alloc (.cells #[.int .i64 5, .slice (some ad) l.length c, .string s] 32)).cell? ⟨ad.block, ad.off + 3 + 1, none⟩ = some (.int .i64 (rd_T54 l 1).f1) := f1
        have f2 : (w.alloc (.cells #[.int .i64 5, .slice (some ad) l.length c, .string s] 32)).cell? ⟨ad.block, ad.off + 3 + 2, none⟩ = some (.string (rd_T54 l 1).f2) := f2
        have q0 : (0 : Int) < (l.length : Int) := by omega
        have q1 : (1 : Int) < (l.length : Int) := by omega
        have q0' : 0 < l.length := by omega
        have q1' : 1 < l.length := by omega
        clear hl2
        generalize rd_T54 l 0 = p at *
        generalize rd_T54 l 1 = q at *
        have hc0 := link_any p false (w.alloc (.cells #[.int .i64 5, .slice (some ad) l.length c, .string s] 32))
        have z0 := (blk_cell HK.out 0).trans rfl
        have z1 := (blk_cell HK.out 1).trans rfl
        have z2 := (blk_cell HK.out 2).trans rfl
        cases hlb : linkB p false
        · rw [hlb] at hc0
          clear hlb
          go_enter Try.func25, Try.ntmps25
          go_wp2_with fail
          refine hc0.mono ?_
          rintro e w1 ⟨rfl, hm1⟩
          clear hc0
          have HM1 := Lib.hid (HM.out.trans0 hm1)
          have HK1 := Lib.hid (hm1.blk HK.out (by simp))
          have f0 := hm1.cell f0 (by simp)
          have f1 := hm1.cell f1 (by simp)
          have f2 := hm1.cell f2 (by simp)
          have y1 := (blk_cell HK1.out 1).trans rfl
          clear hm1 e0 e1 e2 z0 z1 z2
          go_wp2
          go_ret
          exact ⟨rfl, HM1.out⟩
        · rw [hlb] at hc0
          clear hlb
          go_enter Try.func25, Try.ntmps25
          go_wp2_with fail
          refine hc0.mono ?_
          rintro e w1 ⟨rfl, hm1⟩
          clear hc0
          have HM1 := Lib.hid (HM.out.trans0 hm1)
          have HK1 := Lib.hid (hm1.blk HK.out (by simp))
          have f0 := hm1.cell f0 (by simp)
          have f1 := hm1.cell f1 (by simp)
          have f2 := hm1.cell f2 (by simp)
          have y1 := (blk_cell HK1.out 1).trans rfl
          clear hm1 e0 e1 e2 z0 z1 z2
          have hc1 := link_any q true w1
          go_wp2_with fail
          refine hc1.mono ?_
          rintro e w2 ⟨rfl, hm2⟩
          have HM2 := Lib.hid (HM1.out.trans0 hm2)
          clear hm2 hc1
          go_wp2
          go_ret
          exact ⟨by simp, HM2.out⟩
      · have m2 : ((l.length : Int) == 2) = false := by rw [lb2]; exact decide_eq_false hl2
        rw [decide_eq_false hl2]
        clear hl2
        have z0 := (blk_cell HK.out 0).trans rfl
        have z1 := (blk_cell HK.out 1).trans rfl
        have z2 := (blk_cell HK.out 2).trans rfl
        go_enter Try.func25, Try.ntmps25
        go_wp2
        go_ret
        exact ⟨rfl, HM.out⟩
    · have HP : Hid (shB 6 l s = (decide (1 ≤ l.length) && linkB (rd_T54 l 0) true)) := Lib.hid (by unfold shB; simp [HZ.out])
      rw [HP.out]
      by_cases hl1 : 1 ≤ l.length
      · have m1 : (1 : Int) ≤ (l.length : Int) := by omega
        obtain ⟨ad, hA, e0, e1, e2⟩ := at_T54 HR.out 0 (by omega) (by omega)
        subst hA
        rw [decide_eq_true hl1]
        have e0 : (w.alloc (.cells #[.int .i64 6, .slice (some ad) l.length c, .string s] 32)).cell? ad = some (.int .i64 (rd_T54 l 0).f0) := e0
        have e1 : (w.alloc (.cells #[.int .i64 6, .slice (some ad) l.length c, .string s] 32)).cell? ⟨ad.block, ad.off + 1, none⟩ = some (.int .i64 (rd_T54 l 0).f1) := e1
        have e2 : (w.alloc (.cells #[.int .i64 6, .slice (some ad) l.length c, .string s] 32)).cell? ⟨ad.block, ad.off + 2, none⟩ = some (.string (rd_T54 l 0).f2) := e2
        have q0 : (0 : Int) < (l.length : Int) := by omega
        have q0' : 0 < l.length := by omega
        generalize rd_T54 l 0 = p at *
        have hc0 := link_any p true (w.alloc (.cells #[.int .i64 6, .slice (some ad) l.length c, .string s] 32))
        have z0 := (blk_cell HK.out 0).trans rfl
        have z1 := (blk_cell HK.out 1).trans rfl
        have z2 := (blk_cell HK.out 2).trans rfl
        go_enter Try.func25, Try.ntmps25
        go_wp2_with fail
        refine hc0.mono ?_
        rintro e w1 ⟨rfl, hm1⟩
        clear hc0
        have HM1 := Lib.hid (HM.out.trans0 hm1)
        clear hm1
        go_wp2
        go_ret
        exact ⟨by simp, HM1.out⟩
      · have m1 : ¬ (1 : Int) ≤ (l.length : Int) := by omega
        rw [decide_eq_false hl1]
        clear hl1
        have z0 := (blk_cell HK.out 0).trans rfl
        have z1 := (blk_cell HK.out 1).trans rfl
        have z2 := (blk_cell HK.out 2).trans rfl
        go_enter Try.func25, Try.ntmps25
        go_wp2
        go_ret
        exact ⟨rfl, HM.out⟩
    · have HP : Hid (shB 7 l s = (decide (1 ≤ l.length) && (decide ((rd_T54 l 0).f0 = 2) && decide (0 ≤ (rd_T54 l 0).f1 ∧ (rd_T54 l 0).f1 ≤ 63)))) := Lib.hid (by unfold shB; simp [HZ.out])
      rw [HP.out]
      by_cases hl1 : 1 ≤ l.length
      · have m1 : (1 : Int) ≤ (l.length : Int) := by omega
        obtain ⟨ad, hA, e0, e1, e2⟩ := at_T54 HR.out 0 (by omega) (by omega)
        subst hA
        rw [decide_eq_true hl1]
        have e0 : (w.alloc (.cells #[.int .i64 7, .slice (some ad) l.length c, .string s] 32)).cell? ad = some (.int .i64 (rd_T54 l 0).f0) := e0
        have e1 : (w.alloc (.cells #[.int .i64 7, .slice (some ad) l.length c, .string s] 32)).cell? ⟨ad.block, ad.off + 1, none⟩ = some (.int .i64 (rd_T54 l 0).f1) := e1
        have e2 : (w.alloc (.cells #[.int .i64 7, .slice (some ad) l.length c, .string s] 32)).cell? ⟨ad.block, ad.off + 2, none⟩ = some (.string (rd_T54 l 0).f2) := e2
        have q0 : (0 : Int) < (l.length : Int) := by omega
        have q0' : 0 < l.length := by omega
        generalize rd_T54 l 0 = p at *
        obtain ⟨K, N, S⟩ := p
        dsimp only at *
        have z0 := (blk_cell HK.out 0).trans rfl
        have z1 := (blk_cell HK.out 1).trans rfl
        have z2 := (blk_cell HK.out 2).trans rfl
        by_cases hK : K = 2
        · subst hK
          have hc0 := within_any N 0 63 (w.alloc (.cells #[.int .i64 7, .slice (some ad) l.length c, .string s] 32))
          go_enter Try.func25, Try.ntmps25
          go_wp2_with fail
          refine hc0.mono ?_
          rintro e w1 ⟨rfl, hm1⟩
          clear hc0
          have HM1 := Lib.hid (HM.out.trans0 hm1)
          clear hm1
          go_wp2
          go_ret
          exact ⟨by rw [Bool.decide_and]; simp, HM1.out⟩
        · have n2' : (K == 2) = false := by simpa using hK
          rw [decide_eq_false hK]
          clear hK
          go_enter Try.func25, Try.ntmps25
          go_wp2
          go_ret
          exact ⟨rfl, HM.out⟩
      · have m1 : ¬ (1 : Int) ≤ (l.length : Int) := by omega
        rw [decide_eq_false hl1]
        clear hl1
        have z0 := (blk_cell HK.out 0).trans rfl
        have z1 := (blk_cell HK.out 1).trans rfl
        have z2 := (blk_cell HK.out 2).trans rfl
        go_enter Try.func25, Try.ntmps25
        go_wp2
        go_ret
        exact ⟨rfl, HM.out⟩
    · have HP : Hid (shB a l s = decide (a = 1 ∨ a = 9)) := Lib.hid (by
        have m2 : a ≠ 2 := by simpa using n2
        have m3 : a ≠ 3 := by simpa using n3
        have m0 : a ≠ 0 := by simpa using n0
        have m8 : a ≠ 8 := by simpa using n8
        have m4 : a ≠ 4 := by simpa using n4
        have m5 : a ≠ 5 := by simpa using n5
        have m6 : a ≠ 6 := by simpa using n6
        have m7 : a ≠ 7 := by simpa using n7
        unfold shB
        simp [HZ.out, m0, m2, m3, m4, m5, m6, m7, m8])
      rw [HP.out]
      by_cases h1 : a = 1
      · subst h1
        have z0 := (blk_cell HK.out 0).trans rfl
        have z1 := (blk_cell HK.out 1).trans rfl
        have z2 := (blk_cell HK.out 2).trans rfl
        go_enter Try.func25, Try.ntmps25
        go_wp2
        go_ret
        exact ⟨rfl, HM.out⟩
      · have n1 : (a == 1) = false := by simpa using h1
        have H1 := Lib.hid h1
        clear h1
        have z0 := (blk_cell HK.out 0).trans rfl
        have z1 := (blk_cell HK.out 1).trans rfl
        have z2 := (blk_cell HK.out 2).trans rfl
        go_enter Try.func25, Try.ntmps25
        go_wp2
        go_ret
        exact ⟨by have e : decide (a = 1 ∨ a = 9) = (a == 9) := (by rw [Bool.eq_iff_iff]; simp [H1.out])
                  rw [e]; rfl, HM.out⟩
end Go.Proofs.Ytopfaafgfgjfaaa
