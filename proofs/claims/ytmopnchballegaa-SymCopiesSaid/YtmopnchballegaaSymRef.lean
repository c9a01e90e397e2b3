/- The document's new name. -/
import Derived.Test.YtmopnchballegaaSymFresh
set_option linter.unusedVariables false
set_option linter.unusedSimpArgs false
namespace Go.Proofs.Ytmopnchballegaa
open Go.RowKit Go.WideMaps Go.Proofs.YtmopnchballegaaW.PrintWords Go.Proofs.Ytmopnchballegaa.PSymPlays
theorem refAt_any (A : Option Addr) (c : Nat) (xs : List ByteArray) (s : ByteArray) (w : World) (hr : Kd.C Kd.string w A xs.length xs) (hc : xs.length ≤ c) (hl : xs.length ≤ 1000000) :
    Calls Try.prog 18 #[.slice A xs.length c, .string s] w fun e w' => e = .returned (.int .i64 (atZ xs s)) ∧ Mod [] w w' :=
  (hibernacleref10_At.calls _ A c xs s _ w hr hc (refAt_some xs s hl)).mono fun e w' h => ⟨h.1, Mod.of_below h.2.below⟩
theorem refMay_any (s : ByteArray) (w : World) : Calls Try.prog 12 #[.string s] w fun e w' => e = .returned (.bool (mayB s)) ∧ Mod [] w w' :=
  (hibernacleref10_May.calls _ s _ w (refMay_some s)).mono fun e w' h => ⟨h.1, Mod.of_below h.2.below⟩
theorem C_mod {α : Type} {d : Kd α} {w w' : World} {A : Option Addr} {n : Nat} {xs : List α} (h : d.C w A n xs) (hm : Mod [] w w') : d.C w' A n xs := Kd.C_below h hm.below0
set_option maxRecDepth 100000 in
set_option maxHeartbeats 1000000 in
theorem refFresh_any (A : Option Addr) (c : Nat) (xs : List ByteArray) (s : ByteArray) (w : World) (hr : Kd.C Kd.string w A xs.length xs) (hc : xs.length ≤ c) (hl : xs.length ≤ 10000) (hs : s.size ≤ 32) :
    Calls Try.prog 22 #[.slice A xs.length c, .string s] w fun e w' => e = .returned (.string (freshS xs s)) ∧ Mod [] w w' := by
  have FR := Lib.hid (freeN_is xs s)
  have FS := Lib.hid (show freshS xs s = cand s (freeN xs s) from rfl)
  have hN := (freeN_is xs s).2.1
  have HR := Lib.hid hr
  generalize freshS xs s = fs at *
  generalize freeN xs s = N at *
  clear hr
  have qs : IntKind.i64.wrap ((xs.length : Int) + 1) = (xs.length : Int) + 1 := IntWalk.i64_in _ (by omega)
  go_enter Try.func22, Try.ntmps22
  go_wp2_with fail
  go_loopw [5, 6, 7] (fun i _ _ wr => ∃ k : Nat, i = .int .i64 (k : Int) ∧ 1 ≤ k ∧ k ≤ N ∧ Mod [] w wr) (fun i _ _ _ => N - (intOf i).toNat)
  case atStart => exact ⟨1, rfl, by omega, FR.out.1, Mod.refl [] w⟩
  case round =>
    obtain ⟨k, rfl, hk1, hk2, hmr⟩ := hrel
    have hkl : k ≤ 99999 := by omega
    have hki : (k : Int) ≤ (xs.length : Int) + 1 := by omega
    have hdl := dgs_len (n := k) (L := 4) (by omega)
    have hes := endOf_size k
    have HD := hibernacleref10_Number.calls (k + 1) (k : Int) _ wr (refNumber_some k (by omega))
    have hsd := str_size (dgs k)
    have HE := Lib.hid (show (⟨#[37]⟩ : ByteArray) ++ strOfNums (dgs k) = endOf k from rfl)
    have HC := Lib.hid (show s.extract 0 (min s.size (32 - (endOf k).size)) ++ endOf k = cand s k from rfl)
    have hz1 : (strOfNums (dgs k)).size ≤ 5 := by omega
    have hz2 : (endOf k).size ≤ 6 := by omega
    clear hes hsd hdl
    generalize strOfNums (dgs k) = ds at *
    go_wp2_with fail
    refine HD.mono ?_
    rintro e w2 ⟨rfl, hb2⟩
    have hm2 := hmr.trans0 (Mod.of_below hb2)
    clear hmr hb2
    go_upto_region 5 with fail
    rw [HE.out]
    generalize endOf k = E at *
    obtain ⟨wo, rfl⟩ : ∃ wo : World, wo = w2 := ⟨_, rfl⟩
    go_wp2_with fail
    go_loopw [7] (fun v wq => ∃ (t : ByteArray) (m : Nat), v = .string t ∧ t.data.toList = s.data.toList.take m ∧ t.size = m ∧ m ≤ s.size ∧ min s.size (32 - E.size) ≤ m ∧ wq = wo) (fun v _ => match v with | .string t => t.size | _ => 0)
    case atStart => exact ⟨s, s.size, rfl, by rw [List.take_of_length_le (by rw [size_data]; exact Nat.le_refl _)], rfl, Nat.le_refl _, Nat.min_le_left _ _, rfl⟩
    case round =>
      obtain ⟨t, m, rfl, ht, htm, hms, hmm, rfl⟩ := hrel
      have HT := Lib.hid ht
      have HTM := Lib.hid htm
      have hts : t.size ≤ s.size := by omega
      have hmm' : min s.size (32 - E.size) ≤ t.size := by omega
      clear ht htm hms hmm
      by_cases hbig : 32 < t.size + E.size
      · have hb1 : (32 : Int) < (t.size : Int) + (E.size : Int) := by omega
        go_wp2_with fail
        have e1 : ((t.size : Int) - 1).toNat = t.size - 1 := by omega
        go_roundw
        case rel => exact ⟨_, t.size - 1, rfl, by rw [data_ext, List.drop_zero, HT.out, List.take_take]; congr 1; have := HTM.out; omega, by rw [ByteArray.size_extract]; omega, by omega, by omega, trivial⟩
        case measure => simp; omega
      · have hb1 : ¬ (32 : Int) < (t.size : Int) + (E.size : Int) := by omega
        have hcand : t ++ E = cand s k := by
          rw [← HC.out]
          congr 1
          refine data_inj ?_
          rw [HT.out, data_ext, List.drop_zero]
          congr 1
          have := HTM.out
          omega
        have HCA := Lib.hid hcand
        clear hcand
        go_wp2_with fail
        rw [HCA.out]
        have hat := refAt_any A c xs (cand s k) wr (C_mod HR.out hm2) hc (by omega)
        by_cases hkN : k = N
        · have hx : atZ xs (cand s k) = -1 := by
            unfold atZ
            rw [idx_none.2 (show cand s k ∉ xs by rw [hkN]; exact FR.out.2.2.1)]
          rw [hx] at hat
          have HFS := Lib.hid (show fs = cand s k by rw [hkN]; exact FS.out)
          clear hx hkN
          refine hat.mono ?_
          rintro e w3 ⟨rfl, hm3⟩
          go_wp2
          go_ret
          exact ⟨by rw [HFS.out, ← HCA.out]; rfl, hm2.trans0 hm3⟩
        · have hmem := FR.out.2.2.2 k hk1 (by omega)
          obtain ⟨j, hx⟩ : ∃ j : Nat, atZ xs (cand s k) = (j : Int) := by
            unfold atZ
            cases e : idx xs (cand s k) with
            | none => exact absurd hmem (idx_none.1 e)
            | some j => exact ⟨j, rfl⟩
          rw [hx] at hat
          clear hx hmem
          refine hat.mono ?_
          rintro e w3 ⟨rfl, hm3⟩
          go_wp2
          go_roundw
          case rel => exact ⟨k + 1, by go_num, by omega, by omega, hm2.trans0 hm3⟩
          case measure => simp [intOf]; omega
end Go.Proofs.Ytmopnchballegaa
