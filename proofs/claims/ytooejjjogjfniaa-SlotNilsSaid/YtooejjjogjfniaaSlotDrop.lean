/- A record dropped: the bare slots at the end go too. -/
import Derived.Test.YtooejjjogjfniaaSlotPut
set_option linter.unusedVariables false
set_option linter.unusedSimpArgs false
namespace Go.Proofs.Ytooejjjogjfniaa
open Go.RowKit Go.Proofs.YtooejjjogjfniaaW.PrintWords Go.Proofs.Ytooejjjogjfniaa.PSlotRoom Go.Proofs.YtooejjjogjfniaaW.PrintLast
def DropPost (w : World) (fp : Nat → Prop) (g : Nat) (b : Bool) (ys : List S42) (e : Ending) (w' : World) : Prop :=
  e = .returned (.bool b) ∧ Fr fp w w' ∧ Pg w' (grow fp w w') g ys
theorem drop_nil (i : Int) (w : World) : Calls Try.prog 16 #[.pointer none, .int .i64 i] w fun e w' => e = .returned (.bool false) ∧ w = w' := by
  go_enter Try.func16, Try.ntmps16
  go_wp2_with (go_at_call 26; refine (has_nil w i).mono ?_; rintro e w1 ⟨rfl, rfl⟩)
  go_ret
  exact ⟨rfl, rfl⟩
theorem info60_parts : ∃ i, Try.prog.info? 60 = some i ∧ i.size = 2 := by
  obtain ⟨i, h1, _, h3, _⟩ := info_parts info60
  exact ⟨i, h1, h3⟩
theorem sl_atN {w : World} {A : Option Addr} {l : List S42} {n : Nat} (hn : l.length = n) (hr : Kd.C k60 w A n (l.map c60)) (i : Nat) (h : i < l.length) :
    ∃ ad : Addr, A = some ad ∧ w.cell? (ad.add (i * 2)) = some (.bool l[i].f0) ∧ w.cell? ⟨(ad.add (i * 2)).block, (ad.add (i * 2)).off + 1, none⟩ = some (.string l[i].f1) := by
  subst hn
  exact sl_at hr i h
set_option maxRecDepth 100000 in
set_option maxHeartbeats 1000000 in
theorem drop_any (w : World) (fp : Nat → Prop) (g : Nat) (l : List S42) (i : Int) (h : Pg w fp g l) (hi : Inv l) :
    Calls Try.prog 16 #[.pointer (some ⟨g, 0, none⟩), .int .i64 i] w (DropPost w fp g (dropS l i).2 (dropS l i).1) := by
  have HH := has_any w fp g l i h
  unfold dropS
  by_cases hb : hasS l i = false
  · rw [if_pos hb]
    rw [hb] at HH
    clear hb
    go_enter Try.func16, Try.ntmps16
    go_wp2_with (go_at_call 26; refine HH.mono ?_; rintro e w1 ⟨rfl, rfl⟩)
    go_ret
    exact ⟨rfl, Fr.refl _ _, h.grow (Mod.refl [] w)⟩
  · have hb' : hasS l i = true := by simpa using hb
    rw [if_neg hb]
    rw [hb'] at HH
    obtain ⟨a1, a2, a3⟩ := hasS_true hb'
    clear hb hb'
    obtain ⟨k, rfl⟩ := Int.eq_ofNat_of_zero_le a1
    have hlt : k < l.length := by simpa using a2
    simp only [Int.toNat_natCast]
    have hln := hi.len
    obtain ⟨v, h1, h2, h3, h4⟩ := h
    obtain ⟨b, c, rfl, hok, hbl, hfz⟩ := row_form h2 (by omega)
    have c0 := (blk_cell h1 0).trans rfl
    have hrC := R_C h2
    have hcl : l.length ≤ c := by
      obtain ⟨A, c', e1, hc', _⟩ := Kd.R_reads h2
      injection e1 with e2 e3 e4
      rw [List.length_map] at hc'
      omega
    obtain ⟨ad, hA, p0, p1⟩ := sl_at hrC k hlt
    obtain rfl : (⟨b, 0, none⟩ : Addr) = ad := Option.some.inj hA
    simp only [add_plain] at p0 p1
    have hki : (0 : Int) ≤ (k : Int) := by omega
    have hki2 : (k : Int) < (l.length : Int) := by omega
    have f0 := hfz (k * 2)
    have f1 := hfz (k * 2 + 1)
    have hfg := blk_frozen h1 0
    have H1 := Lib.hid h1
    have H2 := Lib.hid h2
    clear h1 h2 hrC hfz a1 a2 a3 hA
    go_enter Try.func16, Try.ntmps16
    go_wp2_with fail
    refine HH.mono ?_
    rintro e w1 ⟨rfl, rfl⟩
    go_upto_region 4 with fail
    obtain ⟨k1, k2⟩ := row_set H2.out k hlt ⟨false, ⟨#[]⟩⟩
    obtain ⟨l2, hl2⟩ : ∃ l2, l.set k ⟨false, ⟨#[]⟩⟩ = l2 := ⟨_, rfl⟩
    rw [hl2] at k1
    have HL2 := Lib.hid hl2
    have hlen : l.length = l2.length := by rw [← hl2, List.length_set]
    have hg2 := (Fr.of_grown k2).blk H1.out (fun e => hok.2 (Option.some.inj e).symm)
    have hz2 : ((w.setCell ⟨b, k * 2, none⟩ (.bool false)).setCell ⟨b, k * 2 + 1, none⟩ (.string ⟨#[]⟩)).heap.size = w.heap.size := by simp
    have F02 : Fr fp w ((w.setCell ⟨b, k * 2, none⟩ (.bool false)).setCell ⟨b, k * 2 + 1, none⟩ (.string ⟨#[]⟩)) := (Fr.of_grown k2).weak (fun j hj => .inl (by rw [Option.some.inj hj]; exact hok.1))
    have d0 := (blk_cell hg2 0).trans rfl
    have df := blk_frozen hg2 0
    have K1 := Lib.hid k1
    have HG2 := Lib.hid hg2
    have HF02 := Lib.hid F02
    have HZ2 := Lib.hid hz2
    clear k1 hg2 F02 hz2 p0 p1 f0 f1 c0 hfg hl2 k2
    generalize (w.setCell ⟨b, k * 2, none⟩ (.bool false)).setCell ⟨b, k * 2 + 1, none⟩ (.string ⟨#[]⟩) = w2 at *
    go_wp2_with fail
    clear d0 df
    have HLEN := Lib.hid hlen
    have hl2b : l2.length ≤ 64 := by omega
    have hl2c : l2.length ≤ c := by omega
    clear hlen
    go_loopw [5] (fun n wr => ∃ m : Nat, n = .int .i64 (m : Int) ∧ m ≤ l2.length ∧ trim l2 = trim (l2.take m) ∧ wr.heap[g]? = some (.cells #[.slice (some ⟨b, 0, none⟩) m c] 55 (0, 0)) ∧ Kd.R k60 60 wr 0 (fun k => fp k ∧ k ≠ g) (.slice (some ⟨b, 0, none⟩) m c) ((l2.take m).map c60) ∧ Fr fp w wr ∧ wr.heap.size = w.heap.size) (fun n _ => (intOf n).toNat)
    case atStart => exact ⟨l2.length, rfl, Nat.le_refl _, by rw [List.take_length], by rw [← HLEN.out]; exact HG2.out, by rw [List.take_length, ← HLEN.out]; exact K1.out, HF02.out, HZ2.out⟩
    case round =>
      obtain ⟨m, rfl, hm, htr, hg, hr, hf, hz⟩ := hrel
      have hd0 := (blk_cell hg 0).trans rfl
      have hdf := blk_frozen hg 0
      have HG := Lib.hid hg
      have HR := Lib.hid hr
      have HTR := Lib.hid htr
      have HZ := Lib.hid hz
      clear hg hr htr hz
      cases m with
      | zero =>
        go_wp2
        go_ret
        refine ⟨rfl, hf, .slice (some ⟨b, 0, none⟩) 0 c, HG.out, ?_, grow_old h3 (by rw [HZ.out]; exact h4 g h3), fun k hk => hk.2⟩
        rw [HL2.out, HTR.out]
        exact Kd.R_mono HR.out (fun k hk => ⟨grow_old hk.1 (by rw [HZ.out]; exact h4 k hk.1), hk.2⟩)
      | succ m =>
        have hml : m < (l2.take (m + 1)).length := by simp; omega
        obtain ⟨ad, hA, q0, q1⟩ := sl_atN (l := l2.take (m + 1)) (n := m + 1) (by simp; omega) (R_C HR.out) m hml
        obtain rfl : (⟨b, 0, none⟩ : Addr) = ad := Option.some.inj hA
        simp only [add_plain] at q0 q1
        rw [List.getElem_take] at q0
        have hml2 : m < l2.length := by omega
        have hsn := trim_snoc (l2.take m) l2[m]
        rw [← List.take_succ_eq_append_getElem hml2] at hsn
        have hmi : (0 : Int) ≤ (m : Int) := by omega
        have hmi2 : (m : Int) < (m : Int) + 1 := by omega
        have hcut := fun W => cut_to (P := Try.prog) 53 60 .i64 Try.underlying53 info60_parts.choose_spec.1 (some ⟨b, 0, none⟩) (m + 1) c (m : Int) (by omega) (by omega) (by omega) W
        rw [Int.toNat_natCast] at hcut
        by_cases hfm : l2[m].f0 = true
        · rw [if_pos hfm] at hsn
          have HS := Lib.hid hsn
          rw [hfm] at q0
          clear hsn hA q1 hml hfm
          go_wp2
          go_ret
          refine ⟨rfl, hf, .slice (some ⟨b, 0, none⟩) (m + 1) c, HG.out, ?_, grow_old h3 (by rw [HZ.out]; exact h4 g h3), fun k hk => hk.2⟩
          rw [HL2.out, HTR.out, HS.out]
          exact Kd.R_mono HR.out (fun k hk => ⟨grow_old hk.1 (by rw [HZ.out]; exact h4 k hk.1), hk.2⟩)
        · rw [if_neg hfm] at hsn
          have HS := Lib.hid hsn
          have hff : l2[m].f0 = false := by simpa using hfm
          rw [hff] at q0
          clear hsn hA q1 hml hfm hff
          go_wp2
          go_roundw
          case rel => exact ⟨m, by go_num, by omega, by rw [HTR.out, HS.out], blk_put HG.out 0 _ rfl, by
            have hR2 := Kd.R_take (m := m) HR.out (by simp; omega)
            rw [← List.map_take, List.take_take, Nat.min_eq_left (by omega)] at hR2
            exact Kd.R_far hR2 (p := ⟨g, 0, none⟩) (fun k hk => hk.2) _, hf.setCell (p := ⟨g, 0, none⟩) (.inl h3) _, by simpa using HZ.out⟩
          case measure => simp [intOf]
end Go.Proofs.Ytooejjjogjfniaa
