/- The chapter's example: a pair is encoded. -/
import Derived.Test.YtopfaafgfgjfaaaObWrite
import Derived.Test.YtopfaafgfgjfaaaObTurn
set_option linter.unusedVariables false
set_option linter.unusedSimpArgs false
namespace Go.Proofs.Ytopfaafgfgjfaaa
open Go.RowKit Go.Proofs.YtopfaafgfgjfaaaW.PrintWords Go.Proofs.Ytopfaafgfgjfaaa.PObjLinks
theorem kept_any (a : Int) (w : World) : Calls Try.prog 18 #[.int .i64 a] w fun e w' => e = .returned (.bool (decide (0 ≤ a ∧ a ≤ 9))) ∧ Mod [] w w' := by
  have h : obj_Kept.f a = some (decide (0 ≤ a ∧ a ≤ 9)) := by
    unfold obj_Kept.f
    by_cases h0 : 0 ≤ a
    · rw [if_pos h0]; simp [h0]
    · rw [if_neg (by omega)]; simp [h0]
  refine (obj_Kept.calls a _ w h).mono ?_
  rintro e w1 ⟨rfl, hd⟩
  exact ⟨rfl, Mod.of_below hd.below⟩
/-- A part that may be. -/
def Okp (p : S54) : Prop := ∀ w : World, Calls Try.prog 28 #[.agg #[.int .i64 p.f0, .int .i64 p.f1, .string p.f2]] w fun e w' => e = .returned (.bool true) ∧ Mod [] w w'
theorem okp_int (n : Int) : Okp ⟨2, n, ⟨#[]⟩⟩ := fun w => by
  have hm := (Mod.refl [] w).alloc (.cells #[.int .i64 2, .int .i64 n, .string ⟨#[]⟩] 54)
  have HM := Lib.hid hm
  clear hm
  go_enter Try.func28, Try.ntmps28
  go_wp2
  go_ret
  exact ⟨rfl, HM.out⟩
theorem okp_nil : Okp ⟨0, 0, ⟨#[]⟩⟩ := fun w => by
  have hm := (Mod.refl [] w).alloc (.cells #[.int .i64 0, .int .i64 0, .string ⟨#[]⟩] 54)
  have HM := Lib.hid hm
  clear hm
  go_enter Try.func28, Try.ntmps28
  go_wp2
  go_ret
  exact ⟨rfl, HM.out⟩
theorem may1 (p : S54) (h : Okp p) (w : World) : Calls Try.prog 27 #[.agg #[.int .i64 p.f0, .int .i64 p.f1, .string p.f2]] w fun e w' => e = .returned (.bool false) ∧ Mod [] w w' := by
  have hm := (Mod.refl [] w).alloc (.cells #[.int .i64 p.f0, .int .i64 p.f1, .string p.f2] 54)
  have HM := Lib.hid hm
  have hk := blk_new w (.cells #[.int .i64 p.f0, .int .i64 p.f1, .string p.f2] 54)
  have z0 := (blk_cell hk 0).trans rfl
  have z1 := (blk_cell hk 1).trans rfl
  have z2 := (blk_cell hk 2).trans rfl
  clear hm hk
  have hc := h (w.alloc (.cells #[.int .i64 p.f0, .int .i64 p.f1, .string p.f2] 54))
  go_enter Try.func27, Try.ntmps27
  go_wp2_with fail
  refine hc.mono ?_
  rintro e w1 ⟨rfl, hm⟩
  have HM1 := Lib.hid (HM.out.trans0 hm)
  clear hm
  go_wp2
  go_ret
  exact ⟨rfl, HM1.out⟩
set_option maxRecDepth 100000 in
theorem index_any (A : Option Addr) (c : Nat) (l : List S54) (w : World) (hr : Kd.C k54 w A l.length l) (hc : l.length ≤ c) (hl : l.length ≤ 10000) (hp : ∀ p ∈ l, Okp p) :
    Calls Try.prog 46 #[.slice A l.length c, .func (.func 27) #[] #[]] w fun e w' => e = .returned (.int .i64 (-1)) ∧ Mod [] w w' := by
  go_enter Try.func46, Try.ntmps46
  go_wp2_with fail
  go_loopw [8] (fun iv wr => ∃ i : Nat, iv = .int .i64 (i : Int) ∧ i ≤ l.length ∧ Mod [] w wr) (fun iv _ => l.length - (intOf iv).toNat)
  case atStart => exact ⟨0, rfl, Nat.zero_le _, Mod.refl _ _⟩
  case round =>
    obtain ⟨i, rfl, hi, hm⟩ := hrel
    have HM := Lib.hid hm
    clear hm
    by_cases hlt : i < l.length
    · have hi0 : (0 : Int) ≤ (i : Int) := by omega
      have hlt2 : (i : Int) < (l.length : Int) := by omega
      obtain ⟨ad, rfl, e0, e1, e2⟩ := at_T54 (Kd.C_below hr HM.out.below0) (i : Int) hi0 hlt2
      rw [rd54 l i hlt, Int.toNat_natCast] at e0 e1 e2
      have hct := may1 l[i] (hp l[i] (List.getElem_mem hlt)) wr
      generalize l[i] = p at *
      go_wp2_with fail
      refine hct.mono ?_
      rintro e w1 ⟨rfl, hm1⟩
      have HM1 := Lib.hid (HM.out.trans0 hm1)
      clear hm1 hct e0 e1 e2
      go_wp2
      refine ⟨⟨i + 1, by go_num, by omega, HM1.out⟩, ?_⟩
      simp [intOf]; omega
    · obtain rfl : i = l.length := by omega
      have hlt2 : ¬ (l.length : Int) < (l.length : Int) := by omega
      go_wp2
      go_ret
      exact ⟨rfl, HM.out⟩
theorem contains_any (A : Option Addr) (c : Nat) (l : List S54) (w : World) (hr : Kd.C k54 w A l.length l) (hc : l.length ≤ c) (hl : l.length ≤ 10000) (hp : ∀ p ∈ l, Okp p) :
    Calls Try.prog 26 #[.slice A l.length c, .func (.func 27) #[] #[]] w fun e w' => e = .returned (.bool false) ∧ Mod [] w w' := by
  have hct := index_any A c l w hr hc hl hp
  go_enter Try.func26, Try.ntmps26
  go_wp2_with fail
  refine hct.mono ?_
  rintro e w1 ⟨rfl, hm⟩
  have HM := Lib.hid hm
  clear hm
  go_wp2
  go_ret
  exact ⟨rfl, HM.out⟩
/-- A pair has the shape of one. -/
theorem shaped_pair (A : Option Addr) (c : Nat) (w : World) : Calls Try.prog 25 #[.agg #[.int .i64 0, .slice A 2 c, .string ⟨#[]⟩]] w fun e w' => e = .returned (.bool true) ∧ Mod [] w w' := by
  have hm := (Mod.refl [] w).alloc (.cells #[.int .i64 0, .slice A 2 c, .string ⟨#[]⟩] 32)
  have HM := Lib.hid hm
  clear hm
  go_enter Try.func25, Try.ntmps25
  go_wp2
  go_ret
  exact ⟨rfl, HM.out⟩
theorem may_pair (A : Option Addr) (c : Nat) (l : List S54) (w : World) (hr : Kd.C k54 w A l.length l) (hc : l.length ≤ c) (hl : l.length = 2) (hp : ∀ p ∈ l, Okp p) : Calls Try.prog 17 #[.agg #[.int .i64 0, .slice A 2 c, .string ⟨#[]⟩]] w fun e w' => e = .returned (.bool true) ∧ Mod [] w w' := by
  have hm := (Mod.refl [] w).alloc (.cells #[.int .i64 0, .slice A 2 c, .string ⟨#[]⟩] 32)
  have hk := blk_new w (.cells #[.int .i64 0, .slice A 2 c, .string ⟨#[]⟩] 32)
  have HM := Lib.hid hm
  have HK := Lib.hid hk
  have HL := Lib.hid hl
  have z0 := (blk_cell hk 0).trans rfl
  have z1 := (blk_cell hk 1).trans rfl
  have z2 := (blk_cell hk 2).trans rfl
  clear hm hk hl
  go_enter Try.func17, Try.ntmps17
  go_wp2_with fail
  generalize w.alloc _ = w0 at *
  generalize w.heap.size = b at *
  refine (kept_any 0 w0).mono ?_
  rintro e w1 ⟨rfl, hm1⟩
  have HM1 := Lib.hid (HM.out.trans0 hm1)
  have HK1 := Lib.hid (hm1.blk HK.out (by simp))
  clear hm1 z0 z1 z2
  have z0 := (blk_cell HK1.out 0).trans rfl
  have z1 := (blk_cell HK1.out 1).trans rfl
  have z2 := (blk_cell HK1.out 2).trans rfl
  go_wp2_with fail
  refine (shaped_pair A c w1).mono ?_
  rintro e w2 ⟨rfl, hm2⟩
  have HM2 := Lib.hid (HM1.out.trans0 hm2)
  have HK2 := Lib.hid (hm2.blk HK1.out (by simp))
  clear hm2 z0 z1 z2
  have z1 := (blk_cell HK2.out 1).trans rfl
  have hct := contains_any A c l w2 (Kd.C_below hr HM2.out.below0) hc (by have := HL.out; omega) hp
  rw [HL.out] at hct
  go_wp2_with fail
  refine hct.mono ?_
  rintro e w3 ⟨rfl, hm3⟩
  have HM3 := Lib.hid (HM2.out.trans0 hm3)
  clear hm3 hct
  go_wp2
  go_ret
  exact ⟨rfl, HM3.out⟩
/-- The example's parts. -/
def exL : List S54 := [⟨2, 1, ⟨#[]⟩⟩, ⟨0, 0, ⟨#[]⟩⟩]
theorem ex_ok : ∀ p ∈ exL, Okp p := fun p hp => by
  simp only [exL, List.mem_cons, List.not_mem_nil, or_false] at hp
  rcases hp with rfl | rfl
  · exact okp_int 1
  · exact okp_nil
theorem ex_part : ∀ p ∈ exL, Part p := fun p hp => by
  simp only [exL, List.mem_cons, List.not_mem_nil, or_false] at hp
  rcases hp with rfl | rfl <;> exact ⟨by decide, by decide, by decide⟩
theorem ex_bytes : wbytes 0 exL ⟨#[]⟩ = [0, 2, 2, 2, 0, 0] := by
  have e2 : uput 2 = [2] := uput_lo (by decide)
  have e0 : uput 0 = [0] := uput_lo (by decide)
  have ez : zz 1 = 2 := by decide
  have es : (⟨#[]⟩ : ByteArray).size = 0 := rfl
  simp [wbytes, hbytes, lbytes, exL, pbytes, ptail, bys, ez, e2, e0, es]
theorem encode_pair (A : Option Addr) (c : Nat) (l : List S54) (w : World) (hr : Kd.C k54 w A l.length l) (hc : l.length ≤ c) (hl : l.length = 2) (hp : ∀ p ∈ l, Okp p) (hp2 : ∀ p ∈ l, Part p) :
    Calls Try.prog 16 #[.agg #[.int .i64 0, .slice A 2 c, .string ⟨#[]⟩]] w fun e w' => e = .returned (.tuple #[.string (strOfNums (wbytes 0 l ⟨#[]⟩)), .int .i64 0]) ∧ Mod [] w w' := by
  have hm := (Mod.refl [] w).alloc (.cells #[.int .i64 0, .slice A 2 c, .string ⟨#[]⟩] 32)
  have hk := blk_new w (.cells #[.int .i64 0, .slice A 2 c, .string ⟨#[]⟩] 32)
  have HM := Lib.hid hm
  have HK := Lib.hid hk
  have HL := Lib.hid hl
  have z0 := (blk_cell hk 0).trans rfl
  clear hm hk hl
  go_enter Try.func16, Try.ntmps16
  go_wp2_with fail
  generalize w.alloc _ = w0 at *
  generalize w.heap.size = b at *
  refine (kept_any 0 w0).mono ?_
  rintro e w1 ⟨rfl, hm1⟩
  have HM1 := Lib.hid (HM.out.trans0 hm1)
  have HK1 := Lib.hid (hm1.blk HK.out (by simp))
  clear hm1 z0
  have z0 := (blk_cell HK1.out 0).trans rfl
  have z1 := (blk_cell HK1.out 1).trans rfl
  have z2 := (blk_cell HK1.out 2).trans rfl
  have hct := may_pair A c l w1 (Kd.C_below hr HM1.out.below0) hc HL.out hp
  go_wp2_with fail
  refine hct.mono ?_
  rintro e w2 ⟨rfl, hm2⟩
  have HM2 := Lib.hid (HM1.out.trans0 hm2)
  have HK2 := Lib.hid (hm2.blk HK1.out (by simp))
  clear hm2 z0 z1 z2 hct
  have z0 := (blk_cell HK2.out 0).trans rfl
  have z1 := (blk_cell HK2.out 1).trans rfl
  have z2 := (blk_cell HK2.out 2).trans rfl
  have hct := write_any 0 A c l ⟨#[]⟩ w2 (Kd.C_below hr HM2.out.below0) hc (by have := HL.out; omega) hp2 (by decide)
  rw [HL.out] at hct
  obtain ⟨bs, hbs⟩ : ∃ q, wbytes 0 l ⟨#[]⟩ = q := ⟨_, rfl⟩
  have HBS := Lib.hid hbs
  rw [hbs] at hct
  clear hbs
  go_wp2_with fail
  refine hct.mono ?_
  rintro e w3 ⟨v, rfl, hm3, hown⟩
  have HM3 := Lib.hid (HM2.out.trans0 hm3)
  clear hm3 hct z0 z1 z2
  obtain ⟨A1, c1, rfl, hcc, hr1, hA1⟩ := own_form hown
  have hcv := string_of_reads (P := Try.prog) (dst := 9) (c := c1) Try.underlying50 Try.underlying5 Try.underlying9 hr1
  clear hr1 hown hA1
  generalize bs.length = n at *
  go_wp2
  go_ret2
  exact ⟨by rw [HBS.out]; rfl, HM3.out⟩
set_option maxRecDepth 100000 in
theorem lives_any (w : World) : Calls Try.prog 7 #[] w fun e w' => e = .returned (.bool true) ∧ Mod [] w w' := by
  go_enter Try.func7, Try.ntmps7
  go_wp2_with fail
  have hk := blk_new w (.cells #[.int .i64 2, .int .i64 1, .string ⟨#[]⟩, .int .i64 0, .int .i64 0, .string ⟨#[]⟩] 54)
  have HM := Lib.hid ((Mod.refl [] w).alloc (.cells #[.int .i64 2, .int .i64 1, .string ⟨#[]⟩, .int .i64 0, .int .i64 0, .string ⟨#[]⟩] 54))
  have hC : Kd.C k54 (w.alloc (.cells #[.int .i64 2, .int .i64 1, .string ⟨#[]⟩, .int .i64 0, .int .i64 0, .string ⟨#[]⟩] 54)) (some ⟨w.heap.size, 0, none⟩) exL.length exL := by
    refine ⟨rfl, by decide, fun _ => ⟨_, rfl, fun j p hp => ?_⟩⟩
    have hj : j < 2 := (List.getElem?_eq_some_iff.1 hp).1
    have hj : j = 0 ∨ j = 1 := by omega
    rcases hj with rfl | rfl
    · obtain rfl := Option.some.inj hp
      refine ⟨[.int .i64 2, .int .i64 1, .string ⟨#[]⟩], rfl, ⟨[.int .i64 2], [.int .i64 1, .string ⟨#[]⟩], rfl, rfl, ⟨[.int .i64 1], [.string ⟨#[]⟩], rfl, rfl, rfl⟩⟩, fun i u hu => ?_⟩
      rw [own_addr]
      refine (blk_cell hk _).trans ?_
      have hi : i < 3 := (List.getElem?_eq_some_iff.1 hu).1
      have hi : i = 0 ∨ i = 1 ∨ i = 2 := by omega
      rcases hi with rfl | rfl | rfl <;> exact hu
    · obtain rfl := Option.some.inj hp
      refine ⟨[.int .i64 0, .int .i64 0, .string ⟨#[]⟩], rfl, ⟨[.int .i64 0], [.int .i64 0, .string ⟨#[]⟩], rfl, rfl, ⟨[.int .i64 0], [.string ⟨#[]⟩], rfl, rfl, rfl⟩⟩, fun i u hu => ?_⟩
      rw [own_addr]
      refine (blk_cell hk _).trans ?_
      have hi : i < 3 := (List.getElem?_eq_some_iff.1 hu).1
      have hi : i = 0 ∨ i = 1 ∨ i = 2 := by omega
      rcases hi with rfl | rfl | rfl <;> exact hu
  have hct := encode_pair (some ⟨w.heap.size, 0, none⟩) 2 exL _ hC (by decide) rfl ex_ok ex_part
  rw [ex_bytes] at hct
  refine hct.mono ?_
  rintro e w1 ⟨rfl, hm1⟩
  have HM1 := Lib.hid (HM.out.trans0 hm1)
  clear hm1 hct hC hk
  have hsq : (strOfNums [0, 2, 2, 2, 0, 0]).toList = (⟨#[0, 2, 2, 2, 0, 0]⟩ : ByteArray).toList := by
    have : strOfNums [0, 2, 2, 2, 0, 0] = (⟨#[0, 2, 2, 2, 0, 0]⟩ : ByteArray) := by decide
    rw [this]
  generalize strOfNums [0, 2, 2, 2, 0, 0] = sx at *
  go_wp2_with fail
  refine (kept_any 4 w1).mono ?_
  rintro e w2 ⟨rfl, hm2⟩
  have HM2 := Lib.hid (HM1.out.trans0 hm2)
  clear hm2 hsq
  go_wp2_with fail
  refine (kept_any 11 w2).mono ?_
  rintro e w3 ⟨rfl, hm3⟩
  have HM3 := Lib.hid (HM2.out.trans0 hm3)
  clear hm3
  go_wp2
  go_ret
  exact ⟨rfl, HM3.out⟩
end Go.Proofs.Ytopfaafgfgjfaaa
