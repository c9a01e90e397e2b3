/- A new name: what the program's function tells. -/
import Derived.Test.YtmopnchballegaaSymTab
set_option linter.unusedVariables false
set_option linter.unusedSimpArgs false
namespace Go.Proofs.Ytmopnchballegaa
open Go.RowKit Go.WideMaps Go.Proofs.YtmopnchballegaaW.PrintWords Go.Proofs.Ytmopnchballegaa.PSymPlays
theorem fresh_bad (w : World) (fp : Nat → Prop) (g : Nat) (xs : List ByteArray) (s : ByteArray) (h : Tab w fp g xs) (hm : mayB s = false) :
    Calls Try.prog 17 #[.pointer (some ⟨g, 0, none⟩), .string s] w (NumPost w fp g 0 1 xs) := by
  have HM := may_any s w
  rw [hm] at HM
  clear hm
  go_enter Try.func17, Try.ntmps17
  go_wp2_with (go_at_call 11; refine HM.mono ?_; rintro e w1 ⟨rfl, hm⟩)
  go_ret2
  exact ⟨rfl, Fr.of_mod0 hm, h.grow hm⟩
set_option maxRecDepth 100000 in
set_option maxHeartbeats 1000000 in
theorem fresh_any (w : World) (fp : Nat → Prop) (g : Nat) (xs : List ByteArray) (s : ByteArray) (h : Tab w fp g xs) (hm : mayB s = true) (hl : xs.length ≤ 10000) :
    Calls Try.prog 17 #[.pointer (some ⟨g, 0, none⟩), .string s] w (NumPost w fp g xs.length 0 (xs ++ [freshS xs s])) := by
  have HM := may_any s w
  rw [hm] at HM
  have hmm := mayB_true.1 hm
  have hs32 := hmm.2.1
  have MAY := Lib.hid hm
  have FR := Lib.hid (freeN_is xs s)
  have FS := Lib.hid (show freshS xs s = cand s (freeN xs s) from rfl)
  have hN := (freeN_is xs s).2.1
  clear hm hmm
  generalize freshS xs s = fs at *
  generalize freeN xs s = N at *
  go_enter Try.func17, Try.ntmps17
  go_wp2_with fail
  refine HM.mono ?_
  rintro e w1 ⟨rfl, hm1⟩
  go_wp2_with fail
  go_loopw [6] (fun i wr => ∃ k : Nat, i = .int .i64 (k : Int) ∧ 1 ≤ k ∧ k ≤ N ∧ Mod [] w wr) (fun i _ => N - (intOf i).toNat)
  case atStart => exact ⟨1, rfl, by omega, FR.out.1, hm1⟩
  case round =>
    obtain ⟨k, rfl, hk1, hk2, hmr⟩ := hrel
    have hkl : k ≤ 99999 := by omega
    have hdl := dgs_len (n := k) (L := 4) (by omega)
    have hes := endOf_size k
    have HD := sym_digits.calls (k + 1) (k : Int) _ wr (digits_some k (by omega) (k + 1) (by omega))
    have hsd := str_size (dgs k)
    have HE := Lib.hid (show (⟨#[37]⟩ : ByteArray) ++ strOfNums (dgs k) = endOf k from rfl)
    have HC := Lib.hid (show s.extract 0 (min s.size (32 - (endOf k).size)) ++ endOf k = cand s k from rfl)
    have hz1 : (strOfNums (dgs k)).size ≤ 5 := by omega
    have hz2 : (endOf k).size ≤ 6 := by omega
    clear hes hsd hdl
    generalize strOfNums (dgs k) = ds at *
    go_wp2_with fail
    refine HD.mono ?_
    rintro e w2 ⟨rfl, hb2⟩
    have hm2 := hmr.trans0 (Mod.of_below hb2)
    clear hmr hb2
    go_upto_region 6 with fail
    rw [HE.out]
    generalize endOf k = E at *
    go_upto_region 7 with fail
    rw [show (if 32 - (E.size : Int) < (s.size : Int) then 32 - (E.size : Int) else (s.size : Int)).toNat = min s.size (32 - E.size) from by split <;> omega, HC.out]
    have hcm : mayB (cand s k) = true := cand_may MAY.out hkl
    have hcs := (mayB_true.1 hcm).2.1
    have HCM := Lib.hid hcm
    have h2 := h.mod hm2
    have H2 := Lib.hid h2
    obtain ⟨r, v, D, h1, h2, h3, h4, h5, h6, h7, h8⟩ := h2
    have c1 : w2.cell? ⟨g, 1, none⟩ = some (.map (some r)) := (blk_cell h1 1).trans rfl
    have hk := Tab.look h3 h4 (s := cand s k) (by unfold maxLen; omega)
    clear h1 h2 h3 h4 h5 h6 h7 h8 hcm HC HE
    by_cases hkN : k = N
    · have hx : idx xs (cand s k) = none := idx_none.2 (by rw [hkN]; exact FR.out.2.2.1)
      have hnum := number_new w2 fp g xs (cand s k) H2.out (by unfold maxLen; omega) HCM.out hx (by omega)
      rw [hx] at hk
      simp only [Option.getD_none, Option.isSome_none] at hk
      have HFS := Lib.hid (show fs = cand s k by rw [hkN]; exact FS.out)
      clear hx hkN
      generalize cand s k = t at *
      go_wp2_with fail
      all_goals
        refine hnum.mono ?_
        rintro e w3 ⟨rfl, hf, ht⟩
        go_wp2
        go_ret2
        obtain rfl := HFS.out
        have hsz := hm2.size
        have hsz3 := hf.size
        refine ⟨rfl, (Fr.of_mod0 hm2).trans_ hf, ?_⟩
        obtain ⟨r, v, D, h1, h2, h3, h4, h5, h6, h7, h8⟩ := ht
        have up : ∀ k, Go.Proofs.Ytmopnchballegaa.grow fp w2 w3 k → Go.Proofs.Ytmopnchballegaa.grow fp w w3 k := fun k hk => ⟨hk.1.elim .inl (fun h => .inr (by omega)), hk.2⟩
        exact ⟨r, v, D, h1, Kd.R_mono h2 (fun k hk => ⟨up k hk.1, hk.2⟩), h3, h4, h5, up g h6, up r h7, fun k hk => hk.2⟩
    · have hmem := FR.out.2.2.2 k hk1 (by omega)
      obtain ⟨j, hx⟩ : ∃ j, idx xs (cand s k) = some j := by
        cases e : idx xs (cand s k) with
        | none => exact absurd hmem (idx_none.1 e)
        | some j => exact ⟨j, rfl⟩
      rw [hx] at hk
      simp only [Option.getD_some, Option.isSome_some] at hk
      clear hx hmem
      generalize cand s k = t at *
      go_wp2
      all_goals
        go_roundw
        case rel => exact ⟨k + 1, by go_num, by omega, by omega, hm2⟩
        case measure => simp [intOf]; omega
end Go.Proofs.Ytmopnchballegaa
