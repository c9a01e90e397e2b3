/- A table has just some names; the chapter's example. -/
import Derived.Test.YtmopnchballegaaSymStep
set_option linter.unusedVariables false
set_option linter.unusedSimpArgs false
namespace Go.Proofs.Ytmopnchballegaa
open Go.RowKit Go.WideMaps Go.Proofs.YtmopnchballegaaW.PrintWords Go.Proofs.Ytmopnchballegaa.PSymPlays
theorem strs_at {w : World} {A : Option Addr} {xs : List ByteArray} (hr : Kd.C Kd.string w A xs.length xs) (i : Nat) (h : i < xs.length) : ∃ ad, A = some ad ∧ w.cell? (ad.add i) = some (.string (xs.getD i (⟨#[]⟩ : ByteArray))) := by
  obtain ⟨ad, u, rfl, _, hK, hcell⟩ := Kd.C_get hr (⟨#[]⟩ : ByteArray) (i : Int) (by omega) (by omega)
  have hcell' := hcell 0 _ (by rw [show u = [Value.string (xs.getD i (⟨#[]⟩ : ByteArray))] from hK]; rfl)
  rw [show (i : Int).toNat * Kd.string.sz + 0 = i by show i * 1 + 0 = i; omega] at hcell'
  exact ⟨ad, rfl, hcell'⟩
set_option maxRecDepth 100000 in
set_option maxHeartbeats 1000000 in
theorem same_any (w : World) (fp : Nat → Prop) (g : Nat) (A : Option Addr) (c : Nat) (xs : List ByteArray) (h : Tab w fp g xs) (hr : Kd.C Kd.string w A xs.length xs) (hl : xs.length ≤ 1000000) :
    Calls Try.prog 13 #[.pointer (some ⟨g, 0, none⟩), .slice A xs.length c] w fun e w' => e = .returned (.bool true) ∧ Mod [] w w' := by
  have HL := len_any w fp g xs h
  have HN1 := name_any w fp g xs
  have HR := Lib.hid hr
  have HT := Lib.hid h
  clear h hr HN1
  go_enter Try.func13, Try.ntmps13
  go_wp2_with fail
  refine HL.mono ?_
  rintro e w1 ⟨rfl, rfl⟩
  go_wp2_with fail
  go_loopw [5] (fun i wr => ∃ k : Nat, k ≤ xs.length ∧ i = .int .i64 (k : Int) ∧ Mod [] w wr) (fun i _ => xs.length - (intOf i).toNat)
  case atStart => exact ⟨0, by omega, rfl, Mod.refl [] w⟩
  case round =>
    obtain ⟨k, hk, rfl, hm⟩ := hrel
    by_cases hlt : k < xs.length
    · obtain ⟨ad, rfl, hc⟩ := strs_at (C_mod HR.out hm) k hlt
      have hn : ∀ W, Mod [] w W → Calls Try.prog 16 #[.pointer (some ⟨g, 0, none⟩), .int .i64 (k : Int)] W fun e w' => e = .returned (.string (xs.getD k (⟨#[]⟩ : ByteArray))) ∧ w' = W := fun W hW => by
        have := name_any W fp g xs (k : Int) (HT.out.mod hW)
        rw [show nameS xs (k : Int) = xs.getD k (⟨#[]⟩ : ByteArray) by unfold nameS; rw [if_pos (by omega)]; rfl] at this
        exact this.mono fun _ _ h => ⟨h.1, h.2.symm⟩
      have hn0 := fun nq => hn (wr.drewN nq) (hm.drewN nq)
      have hki : (0 : Int) ≤ (k : Int) := by omega
      have hki2 : (k : Int) < (xs.length : Int) := by omega
      generalize xs.getD k (⟨#[]⟩ : ByteArray) = x at *
      go_upto_region 6 with fail
      go_quiet ((go_at_call 16; exact Calls.quiet_of_same (hn0 _)))
      go_wp2
      go_roundw
      case rel => exact ⟨k + 1, by omega, by go_num, hm.drewN _⟩
      case measure => simp [intOf]; omega
    · have hk' : k = xs.length := by omega
      subst hk'
      have e1 := name_any wr fp g xs (-1) (HT.out.mod hm)
      have e2 := name_any wr fp g xs (xs.length : Int) (HT.out.mod hm)
      rw [show nameS xs (-1) = ⟨#[]⟩ from rfl] at e1
      rw [show nameS xs (xs.length : Int) = ⟨#[]⟩ by unfold nameS; rw [if_pos (by omega), List.getD_eq_getElem?_getD, List.getElem?_eq_none (by simp)]; rfl] at e2
      go_wp2_with fail
      refine e1.mono ?_
      rintro e w1 ⟨rfl, rfl⟩
      go_wp2_with fail
      refine e2.mono ?_
      rintro e w1 ⟨rfl, rfl⟩
      go_wp2
      go_ret
      exact ⟨rfl, hm⟩
theorem cand_car : freshS [⟨#[99, 97, 114]⟩, ⟨#[99, 100, 114]⟩] ⟨#[99, 97, 114]⟩ = ⟨#[99, 97, 114, 37, 49]⟩ := by
  have hc : cand ⟨#[99, 97, 114]⟩ 1 = ⟨#[99, 97, 114, 37, 49]⟩ := by
    refine bys_inj ?_
    rw [cand_bys, endOf_size, dgs_small (by omega)]
    rfl
  have h1 : IsFree [⟨#[99, 97, 114]⟩, ⟨#[99, 100, 114]⟩] ⟨#[99, 97, 114]⟩ 1 := ⟨by omega, by simp, by rw [hc]; simp, fun m a b => by omega⟩
  rw [freshS, free_one (freeN_is _ _) h1, hc]
set_option maxRecDepth 100000 in
set_option maxHeartbeats 1000000 in
theorem lives_any (w : World) : Calls Try.prog 8 #[] w fun e w' => e = .returned (.bool true) ∧ Mod [] w w' := by
  have m1 : mayB ⟨#[99, 97, 114]⟩ = true := by decide
  have m2 : mayB ⟨#[99, 100, 114]⟩ = true := by decide
  have H1 := Lib.hid m1
  have H2 := Lib.hid m2
  have HF := Lib.hid cand_car
  clear m1 m2
  go_enter Try.func8, Try.ntmps8
  go_wp2_with fail
  refine (new_any w).mono ?_
  rintro e w1 ⟨rfl, hm1, ht1⟩
  obtain ⟨fp, hfp⟩ : ∃ fp : Nat → Prop, (fun k => k = w.heap.size ∨ k = w.heap.size + 1) = fp := ⟨_, rfl⟩
  rw [hfp] at ht1
  have hge : ∀ k, fp k → w.heap.size ≤ k := fun k hk => by rw [← hfp] at hk; omega
  clear hfp
  have HT1 := Lib.hid ht1
  have HGE := Lib.hid hge
  have HM1 := Lib.hid hm1
  clear ht1 hge hm1
  generalize w.heap.size + 1 = g at *
  go_wp2_with fail
  refine (number_new w1 fp g [] ⟨#[99, 97, 114]⟩ HT1.out (by decide) H1.out rfl (by decide)).mono ?_
  rintro e w2 ⟨rfl, hf2, ht2⟩
  have HT2 := Lib.hid ht2
  have HF2 := Lib.hid hf2
  clear ht2 hf2
  go_wp2_with fail
  refine (number_new w2 _ g [⟨#[99, 97, 114]⟩] ⟨#[99, 100, 114]⟩ HT2.out (by decide) H2.out (by decide) (by decide)).mono ?_
  rintro e w3 ⟨rfl, hf3, ht3⟩
  have HT3 := Lib.hid ht3
  have HF3 := Lib.hid hf3
  clear ht3 hf3
  go_wp2_with fail
  refine (fresh_any w3 _ g [⟨#[99, 97, 114]⟩, ⟨#[99, 100, 114]⟩] ⟨#[99, 97, 114]⟩ HT3.out H1.out (by decide)).mono ?_
  rintro e w4 ⟨rfl, hf4, ht4⟩
  have hn := name_any w4 _ g _ 2 ht4
  rw [HF.out, show nameS ([⟨#[99, 97, 114]⟩, ⟨#[99, 100, 114]⟩] ++ [⟨#[99, 97, 114, 37, 49]⟩]) 2 = ⟨#[99, 97, 114, 37, 49]⟩ from rfl] at hn
  have HF4 := Lib.hid hf4
  clear ht4 hf4
  go_wp2_with fail
  refine hn.mono ?_
  rintro e w5 ⟨rfl, rfl⟩
  go_wp2
  go_ret
  have hz1 := HM1.out.size
  have hz2 := HF2.out.size
  have hz3 := HF3.out.size
  have f3 : Fr fp w1 w3 := HF2.out.grow HF3.out
  have f4 : Fr fp w1 w4 := f3.trans HF4.out (fun t ht => ht.1.elim (fun h => h.1) (fun h => .inr (by omega)))
  exact ⟨rfl, ((Fr.of_mod0 (F := nobody) HM1.out).trans f4 (fun t ht => .inr (HGE.out t ht))).mod (fun _ h => h.elim)⟩
end Go.Proofs.Ytmopnchballegaa
