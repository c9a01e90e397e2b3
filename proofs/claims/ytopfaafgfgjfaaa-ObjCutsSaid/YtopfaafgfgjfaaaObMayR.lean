/- Which records may be; a record encoded. -/
import Derived.Test.YtopfaafgfgjfaaaObShape
set_option linter.unusedVariables false
set_option linter.unusedSimpArgs false
namespace Go.Proofs.Ytopfaafgfgjfaaa
open Go.RowKit Go.Proofs.YtopfaafgfgjfaaaW.PrintWords Go.Proofs.Ytopfaafgfgjfaaa.PObjLinks
def keptB (a : Int) : Bool := decide (0 ≤ a ∧ a ≤ 9)
/-- May a record be? -/
def mayR (a : Int) (l : List S54) (s : ByteArray) : Bool :=
  decide (l.length ≤ 256) && (decide (s.size ≤ 4096) && (keptB a && (shB a l s && !l.any (fun p => !pmB p))))
set_option maxRecDepth 100000 in
set_option maxHeartbeats 4000000 in
theorem may_any (a : Int) (A : Option Addr) (c : Nat) (l : List S54) (s : ByteArray) (w : World) (hr : Kd.C k54 w A l.length l) (hc : l.length ≤ c) (hl : l.length ≤ 10000) (hs : s.size ≤ 100000) :
    Calls Try.prog 17 #[.agg #[.int .i64 a, .slice A l.length c, .string s]] w fun e w' => e = .returned (.bool (mayR a l s)) ∧ Mod [] w w' := by
  have hm := (Mod.refl [] w).alloc (.cells #[.int .i64 a, .slice A l.length c, .string s] 32)
  have hk := blk_new w (.cells #[.int .i64 a, .slice A l.length c, .string s] 32)
  have HM := Lib.hid hm
  have HK := Lib.hid hk
  have z0 := (blk_cell hk 0).trans rfl
  have z1 := (blk_cell hk 1).trans rfl
  have z2 := (blk_cell hk 2).trans rfl
  clear hm hk
  unfold mayR
  by_cases h1 : l.length ≤ 256
  case neg =>
    have n1 : (256 : Int) < (l.length : Int) := by omega
    have n1' : 256 < l.length := by omega
    rw [decide_eq_false h1]
    clear h1
    go_enter Try.func17, Try.ntmps17
    go_wp2
    go_ret
    exact ⟨rfl, HM.out⟩
  have n1 : ¬ (256 : Int) < (l.length : Int) := by omega
  have n1' : ¬ 256 < l.length := by omega
  rw [decide_eq_true h1]
  by_cases h2 : s.size ≤ 4096
  case neg =>
    have n2 : (4096 : Int) < (s.size : Int) := by omega
    have n2' : 4096 < s.size := by omega
    rw [decide_eq_false h2]
    clear h2
    go_enter Try.func17, Try.ntmps17
    go_wp2
    go_ret
    exact ⟨rfl, HM.out⟩
  have n2 : ¬ (4096 : Int) < (s.size : Int) := by omega
  have n2' : ¬ 4096 < s.size := by omega
  rw [decide_eq_true h2]
  have hkp := kept_any a (w.alloc (.cells #[.int .i64 a, .slice A l.length c, .string s] 32))
  change Calls Try.prog 18 _ _ (fun e w' => e = .returned (.bool (keptB a)) ∧ _) at hkp
  cases hkb : keptB a
  · rw [hkb] at hkp
    clear hkb
    go_enter Try.func17, Try.ntmps17
    go_wp2_with fail
    refine hkp.mono ?_
    rintro e w1 ⟨rfl, hm1⟩
    have HM1 := Lib.hid (HM.out.trans0 hm1)
    clear hm1 hkp z0 z1 z2
    go_wp2
    go_ret
    exact ⟨rfl, HM1.out⟩
  rw [hkb] at hkp
  clear hkb
  have hsg := fun (w1 : World) (hm1 : Mod [] w w1) => shaped_any a A c l s w1 (Kd.C_below hr hm1.below0) hc hl hs
  cases hsb : shB a l s
  · rw [hsb] at hsg
    clear hsb
    have HSG := Lib.hid hsg
    clear hsg
    go_enter Try.func17, Try.ntmps17
    go_wp2_with fail
    refine hkp.mono ?_
    rintro e w1 ⟨rfl, hm1⟩
    have HM1 := Lib.hid (HM.out.trans0 hm1)
    have HK1 := Lib.hid (hm1.blk HK.out (by simp))
    clear hm1 hkp z0 z1 z2
    have z0 := (blk_cell HK1.out 0).trans rfl
    have z1 := (blk_cell HK1.out 1).trans rfl
    have z2 := (blk_cell HK1.out 2).trans rfl
    go_wp2_with fail
    refine (HSG.out w1 HM1.out).mono ?_
    rintro e w2 ⟨rfl, hm2⟩
    have HM2 := Lib.hid (HM1.out.trans0 hm2)
    clear hm2 z0 z1 z2
    go_wp2
    go_ret
    exact ⟨rfl, HM2.out⟩
  rw [hsb] at hsg
  clear hsb
  have HSG := Lib.hid hsg
  clear hsg
  go_enter Try.func17, Try.ntmps17
  go_wp2_with fail
  refine hkp.mono ?_
  rintro e w1 ⟨rfl, hm1⟩
  have HM1 := Lib.hid (HM.out.trans0 hm1)
  have HK1 := Lib.hid (hm1.blk HK.out (by simp))
  clear hm1 hkp z0 z1 z2
  have z0 := (blk_cell HK1.out 0).trans rfl
  have z1 := (blk_cell HK1.out 1).trans rfl
  have z2 := (blk_cell HK1.out 2).trans rfl
  go_wp2_with fail
  refine (HSG.out w1 HM1.out).mono ?_
  rintro e w2 ⟨rfl, hm2⟩
  have HM2 := Lib.hid (HM1.out.trans0 hm2)
  have HK2 := Lib.hid (hm2.blk HK1.out (by simp))
  clear hm2 z0 z1 z2
  have z1 := (blk_cell HK2.out 1).trans rfl
  have hct := contains_g A c l w2 (Kd.C_below hr HM2.out.below0) hc hl
  go_wp2_with fail
  refine hct.mono ?_
  rintro e w3 ⟨rfl, hm3⟩
  have HM3 := Lib.hid (HM2.out.trans0 hm3)
  clear hm3 hct z1
  go_wp2
  go_ret
  exact ⟨rfl, HM3.out⟩
theorem pm_part {p : S54} (h : pmB p = true) (h0 : -9223372036854775808 ≤ p.f1) (h1 : p.f1 ≤ 9223372036854775807) : Part p := by
  refine ⟨h0, h1, ?_⟩
  unfold pmB at h
  by_cases h4 : p.f0 = 4
  · rw [if_pos h4, Bool.and_eq_true] at h
    have := (mayB_true.1 h.2).2.1
    omega
  · rw [if_neg h4] at h
    by_cases hz : p.f2.size ≠ 0
    · rw [if_pos hz] at h; cases h
    · omega
/-- The parts' numbers are within bounds. -/
def Wf54 (l : List S54) : Prop := ∀ p ∈ l, -9223372036854775808 ≤ p.f1 ∧ p.f1 ≤ 9223372036854775807
theorem may_parts {a : Int} {l : List S54} {s : ByteArray} (h : mayR a l s = true) (hw : Wf54 l) : l.length ≤ 256 ∧ s.size ≤ 4096 ∧ keptB a = true ∧ shB a l s = true ∧ (∀ p ∈ l, pmB p = true) ∧ ∀ p ∈ l, Part p := by
  unfold mayR at h
  simp only [Bool.and_eq_true, decide_eq_true_eq] at h
  obtain ⟨h1, h2, h3, h4, h5⟩ := h
  have h6 : ∀ p ∈ l, pmB p = true := fun p hp => by
    have h5' : l.any (fun p => !pmB p) = false := by simpa using h5
    have := (List.any_eq_false.1 h5') p hp
    simpa using this
  exact ⟨h1, h2, h3, h4, h6, fun p hp => pm_part (h6 p hp) (hw p hp).1 (hw p hp).2⟩
/-- A record's bytes, or why there are none. -/
def encS (a : Int) (l : List S54) (s : ByteArray) : ByteArray := if mayR a l s = true then strOfNums (wbytes a l s) else ⟨#[]⟩
def encE (a : Int) (l : List S54) (s : ByteArray) : Int := if keptB a = true then (if mayR a l s = true then 0 else 1) else 10
theorem may_kept {a : Int} {l : List S54} {s : ByteArray} (h : keptB a = false) : mayR a l s = false := by
  unfold mayR; rw [h]; simp
set_option maxRecDepth 100000 in
set_option maxHeartbeats 4000000 in
theorem encode_any (a : Int) (A : Option Addr) (c : Nat) (l : List S54) (s : ByteArray) (w : World) (hr : Kd.C k54 w A l.length l) (hc : l.length ≤ c) (hl : l.length ≤ 10000) (hs : s.size ≤ 100000) (hw : Wf54 l) :
    Calls Try.prog 16 #[.agg #[.int .i64 a, .slice A l.length c, .string s]] w fun e w' => e = .returned (.tuple #[.string (encS a l s), .int .i64 (encE a l s)]) ∧ Mod [] w w' := by
  have hm := (Mod.refl [] w).alloc (.cells #[.int .i64 a, .slice A l.length c, .string s] 32)
  have hk := blk_new w (.cells #[.int .i64 a, .slice A l.length c, .string s] 32)
  have HM := Lib.hid hm
  have HK := Lib.hid hk
  have z0 := (blk_cell hk 0).trans rfl
  clear hm hk
  have hkp := kept_any a (w.alloc (.cells #[.int .i64 a, .slice A l.length c, .string s] 32))
  change Calls Try.prog 18 _ _ (fun e w' => e = .returned (.bool (keptB a)) ∧ _) at hkp
  cases hkb : keptB a
  · have hS : encS a l s = ⟨#[]⟩ := if_neg (by rw [may_kept hkb]; simp)
    have hE : encE a l s = 10 := if_neg (by rw [hkb]; simp)
    rw [hkb] at hkp
    rw [hS, hE]
    clear hkb hS hE
    go_enter Try.func16, Try.ntmps16
    go_wp2_with fail
    refine hkp.mono ?_
    rintro e w1 ⟨rfl, hm1⟩
    have HM1 := Lib.hid (HM.out.trans0 hm1)
    clear hm1 hkp z0
    go_wp2
    go_ret2
    exact ⟨rfl, HM1.out⟩
  rw [hkb] at hkp
  have hmy := fun (w1 : World) (hm1 : Mod [] w w1) => may_any a A c l s w1 (Kd.C_below hr hm1.below0) hc hl hs
  cases hmb : mayR a l s
  · have hS : encS a l s = ⟨#[]⟩ := if_neg (by rw [hmb]; simp)
    have hE : encE a l s = 1 := by unfold encE; rw [if_pos hkb, if_neg (by rw [hmb]; simp)]
    rw [hmb] at hmy
    rw [hS, hE]
    have HMY := Lib.hid hmy
    clear hkb hmb hS hE hmy
    go_enter Try.func16, Try.ntmps16
    go_wp2_with fail
    refine hkp.mono ?_
    rintro e w1 ⟨rfl, hm1⟩
    have HM1 := Lib.hid (HM.out.trans0 hm1)
    have HK1 := Lib.hid (hm1.blk HK.out (by simp))
    clear hm1 hkp z0
    have z0 := (blk_cell HK1.out 0).trans rfl
    have z1 := (blk_cell HK1.out 1).trans rfl
    have z2 := (blk_cell HK1.out 2).trans rfl
    go_wp2_with fail
    refine (HMY.out w1 HM1.out).mono ?_
    rintro e w2 ⟨rfl, hm2⟩
    have HM2 := Lib.hid (HM1.out.trans0 hm2)
    clear hm2 z0 z1 z2
    go_wp2
    go_ret2
    exact ⟨rfl, HM2.out⟩
  have hS : encS a l s = strOfNums (wbytes a l s) := if_pos hmb
  have hE : encE a l s = 0 := by unfold encE; rw [if_pos hkb, if_pos hmb]
  obtain ⟨p1, p2, _, _, _, p3⟩ := may_parts hmb hw
  rw [hmb] at hmy
  rw [hS, hE]
  have HMY := Lib.hid hmy
  clear hkb hmb hS hE hmy
  obtain ⟨bs, hbs⟩ : ∃ q, wbytes a l s = q := ⟨_, rfl⟩
  have HBS := Lib.hid hbs
  rw [hbs]
  clear hbs
  go_enter Try.func16, Try.ntmps16
  go_wp2_with fail
  refine hkp.mono ?_
  rintro e w1 ⟨rfl, hm1⟩
  have HM1 := Lib.hid (HM.out.trans0 hm1)
  have HK1 := Lib.hid (hm1.blk HK.out (by simp))
  clear hm1 hkp z0
  have z0 := (blk_cell HK1.out 0).trans rfl
  have z1 := (blk_cell HK1.out 1).trans rfl
  have z2 := (blk_cell HK1.out 2).trans rfl
  go_wp2_with fail
  refine (HMY.out w1 HM1.out).mono ?_
  rintro e w2 ⟨rfl, hm2⟩
  have HM2 := Lib.hid (HM1.out.trans0 hm2)
  have HK2 := Lib.hid (hm2.blk HK1.out (by simp))
  clear hm2 z0 z1 z2
  have z0 := (blk_cell HK2.out 0).trans rfl
  have z1 := (blk_cell HK2.out 1).trans rfl
  have z2 := (blk_cell HK2.out 2).trans rfl
  have hct := write_any a A c l s w2 (Kd.C_below hr HM2.out.below0) hc (by omega) p3 (by omega)
  rw [HBS.out] at hct
  go_wp2_with fail
  refine hct.mono ?_
  rintro e w3 ⟨v, rfl, hm3, hown⟩
  have HM3 := Lib.hid (HM2.out.trans0 hm3)
  clear hm3 hct z0 z1 z2
  obtain ⟨A1, c1, rfl, hcc, hr1, hA1⟩ := own_form hown
  have hcv := string_of_reads (P := Try.prog) (dst := 9) (c := c1) Try.underlying50 Try.underlying5 Try.underlying9 hr1
  clear hr1 hown hA1
  generalize bs.length = n at *
  go_wp2
  go_ret2
  exact ⟨rfl, HM3.out⟩
end Go.Proofs.Ytopfaafgfgjfaaa
