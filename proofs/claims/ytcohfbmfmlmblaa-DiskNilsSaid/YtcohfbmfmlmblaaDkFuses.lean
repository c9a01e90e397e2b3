/- The law of fuses, walked. -/
import Derived.Test.YtcohfbmfmlmblaaDkLives
set_option linter.unusedVariables false
set_option linter.unusedSimpArgs false
namespace Go.Proofs.Ytcohfbmfmlmblaa
open Go.RowKit Go.Proofs.YtcohfbmfmlmblaaW.PrintWords Go.Proofs.Ytcohfbmfmlmblaa.PDiskPlays Go.Proofs.YtcohfbmfmlmblaaW.PrintMore
/-- A disk of two sectors with a fuse of n, behind c writes and barriers that were done. -/
structure FI (n : Int) (c : Nat) (D : DK) : Prop where
  len : D.l.length = 2
  dn : D.done = c
  rl : D.row.length ≤ c
  ats : ∀ x ∈ D.row, 0 ≤ x.f0 ∧ x.f0 < D.l.length
  fz : D.fuse = if n < 0 then -1 else n - c
  le : 0 ≤ n → (c : Int) ≤ n
  dw : D.down = true → 0 ≤ n ∧ (c : Int) = n
def stepE (ev : Bool) (D : DK) : Int := if ev then writeE D 1 (FIL 0 1) else barE D
def stepD (ev : Bool) (D : DK) : DK := if ev then writeD D 1 (FIL 0 1) else barD D
theorem can_down {D : DK} (h : D.down = true) (i : Int) : canE D i = 9 := by unfold canE; rw [h]; rfl
theorem can_up {D : DK} (h : D.down = false) (i : Int) (h0 : 0 ≤ i) (h1 : i < D.l.length) : canE D i = 0 := by
  unfold canE; rw [h, if_neg (by simp), if_neg (by omega)]
theorem FI.bnd {n : Int} {c : Nat} {D : DK} (h : FI n c D) (hn : n ≤ 9223372036854775807) (hc : c ≤ 1000) : Bnd D :=
  ⟨by rw [h.fz]; split <;> omega, by rw [h.dn]; omega, by have := h.rl; omega, h.ats⟩
theorem FI.burnt {n : Int} {c : Nat} {D : DK} (h : FI n c D) (ev : Bool) (h0 : 0 ≤ n) (h1 : n ≤ c) : stepE ev D = 9 ∧ FI n c (stepD ev D) ∧ (stepD ev D).down = true := by
  have hcn : (c : Int) = n := by have := h.le h0; omega
  have hf : D.fuse = 0 := by rw [h.fz, if_neg (by omega)]; omega
  have hE : burnE D = 9 := if_pos hf
  have hB : burnD D = { D with down := true } := if_pos hf
  have hBI : FI n c (burnD D) := by rw [hB]; exact ⟨h.len, h.dn, h.rl, h.ats, h.fz, h.le, fun _ => ⟨h0, hcn⟩⟩
  have hne : ¬ (9 : Int) = 0 := by omega
  cases hd : D.down with
  | true =>
    have k1 := can_down hd 1
    have k0 := can_down hd 0
    cases ev
    · show barE D = 9 ∧ FI n c (barD D) ∧ (barD D).down = true
      unfold barE barD; rw [k0, if_neg hne, if_neg hne]; exact ⟨rfl, h, hd⟩
    · show writeE D 1 _ = 9 ∧ FI n c (writeD D 1 _) ∧ (writeD D 1 _).down = true
      unfold writeE writeD; rw [k1, if_neg hne, if_neg hne]; exact ⟨rfl, h, hd⟩
  | false =>
    have k1 := can_up hd 1 (by omega) (by rw [h.len]; omega)
    have k0 := can_up hd 0 (by omega) (by rw [h.len]; omega)
    cases ev
    · show barE D = 9 ∧ FI n c (barD D) ∧ (barD D).down = true
      unfold barE barD; rw [if_pos k0, if_pos k0, hE, if_neg hne]; exact ⟨rfl, hBI, by rw [hB]⟩
    · show writeE D 1 _ = 9 ∧ FI n c (writeD D 1 _) ∧ (writeD D 1 _).down = true
      unfold writeE writeD; rw [if_pos k1, if_pos k1, if_pos (fil_size128 1), if_pos (fil_size128 1), hE, if_neg hne]; exact ⟨rfl, hBI, by rw [hB]⟩
theorem FI.live {n : Int} {c : Nat} {D : DK} (h : FI n c D) (ev : Bool) (h0 : ¬ (0 ≤ n ∧ n ≤ c)) : stepE ev D = 0 ∧ FI n (c + 1) (stepD ev D) ∧ (stepD ev D).down = false := by
  have hd : D.down = false := by
    cases hd : D.down with
    | true => obtain ⟨a, b⟩ := h.dw hd; omega
    | false => rfl
  have hf : D.fuse ≠ 0 := by rw [h.fz]; split <;> omega
  have hE : burnE D = 0 := if_neg hf
  have hB : burnD D = { D with fuse := if 0 < D.fuse then D.fuse - 1 else D.fuse, done := D.done + 1 } := if_neg hf
  have hfz : (if 0 < D.fuse then D.fuse - 1 else D.fuse) = if n < 0 then -1 else n - ((c + 1 : Nat) : Int) := by
    rw [h.fz]
    by_cases hn : n < 0
    · simp [hn]
    · rw [if_neg hn, if_neg hn, if_pos (by omega)]; omega
  have k1 := can_up hd 1 (by omega) (by rw [h.len]; omega)
  have k0 := can_up hd 0 (by omega) (by rw [h.len]; omega)
  have hdn : D.done + 1 = ((c + 1 : Nat) : Int) := by rw [h.dn]; omega
  cases ev
  · show barE D = 0 ∧ FI n (c + 1) (barD D) ∧ (barD D).down = false
    unfold barE barD
    rw [if_pos k0, if_pos k0, if_pos hE, hE, hB]
    refine ⟨rfl, ⟨?_, hdn, Nat.zero_le _, fun x hx => (by cases hx), hfz, fun q => by omega, fun q => ?_⟩, hd⟩
    · show (applyAll D.l D.row).length = 2
      rw [applyAll_len]; exact h.len
    · rw [hd] at q; cases q
  · show writeE D 1 _ = 0 ∧ FI n (c + 1) (writeD D 1 _) ∧ (writeD D 1 _).down = false
    unfold writeE writeD
    rw [if_pos k1, if_pos k1, if_pos (fil_size128 1), if_pos (fil_size128 1), if_pos hE, hE, hB]
    refine ⟨rfl, ⟨h.len, hdn, ?_, fun x hx => ?_, hfz, fun q => by omega, fun q => ?_⟩, hd⟩
    · show (D.row ++ [_]).length ≤ c + 1
      rw [List.length_append]; have := h.rl; simp; omega
    · rcases List.mem_append.1 hx with hx | hx
      · exact h.ats x hx
      · rw [List.mem_singleton.1 hx]
        show (0 : Int) ≤ 1 ∧ (1 : Int) < D.l.length
        rw [h.len]; omega
    · rw [hd] at q; cases q
theorem FI.new (n : Int) (hn : n ≤ 9223372036854775807) : FI n 0 (fuseD (newD 2) n) :=
  ⟨rfl, rfl, by simp [fuseD, newD], by simp [fuseD, newD], by show (if n < 0 then -1 else n) = _; split <;> simp, fun h => h, fun h => by simp [fuseD, newD] at h⟩
theorem FI.last {n : Int} {c : Nat} {D : DK} (h : FI n c D) : writeE (fuseD (startD D) (-1)) 0 (FIL 0 2) = 0 := by
  have hd : (fuseD (startD D) (-1)).down = false := by
    show (startD D).down = false
    unfold startD
    cases hd : D.down with
    | true => rfl
    | false => rw [if_neg (by simp)]; exact hd
  have hl : (fuseD (startD D) (-1)).l.length = 2 := by
    show (startD D).l.length = 2
    unfold startD
    split
    · exact h.len
    · exact h.len
  unfold writeE
  rw [if_pos (can_up hd 0 (by omega) (by rw [hl]; omega)), if_pos (fil_size128 2)]
  rfl
theorem FI.lastB {n : Int} {c : Nat} {D : DK} (h : FI n c D) (hc : c ≤ 1000) : Bnd (fuseD (startD D) (-1)) := by
  have hx : (startD D).row.length ≤ c ∧ (∀ x ∈ (startD D).row, 0 ≤ x.f0 ∧ x.f0 < (startD D).l.length) ∧ (startD D).done = c := by
    unfold startD
    split
    · exact ⟨Nat.zero_le _, fun x hx => absurd hx (by simp), h.dn⟩
    · exact ⟨h.rl, h.ats, h.dn⟩
  exact ⟨by show (-1 : Int) ≤ _; omega, by show 0 ≤ (startD D).done ∧ (startD D).done ≤ _; rw [hx.2.2]; omega, by show (startD D).row.length ≤ _; omega, hx.2.1⟩
set_option maxRecDepth 100000 in
set_option maxHeartbeats 2000000 in
theorem fuses_walk (n : Int) (A : Option Addr) (m c : Nat) (zs : List Int) (w : World) (hn : (Lit.int .i64 n).wf = true) (hr : ReadsInt w .i64 A m zs) (hc : m ≤ c) (hz : ∀ x ∈ zs, (Lit.int .i64 x).wf = true) (hm : m * 8 ≤ 140737488351232) :
    Calls Try.prog 4 #[.int .i64 n, .slice A m c] w fun e w' => e = .returned (.bool true) ∧ Mod [] w w' := by
  obtain ⟨n0, n1⟩ := bounds_i64 hn
  have hN := st_new 2 w (by omega) (by omega)
  have hzs := hr.1
  clear hn
  by_cases h80 : 80 < m
  · have h80' : (80 : Int) < (m : Int) := by omega
    go_enter Try.func4, Try.ntmps4
    go_wp2_with fail
    refine hN.mono ?_
    rintro e w1 ⟨g, rfl, h1⟩
    clear hN
    go_wp2_with fail
    refine (lives_any w1).mono ?_
    rintro e w2 ⟨rfl, hm2⟩
    obtain ⟨fp, a1, a2, a3⟩ := h1
    have HM := Lib.hid (a1.trans0 hm2)
    clear a1 a2 a3 hm2
    go_wp2
    go_ret
    exact ⟨rfl, HM.out⟩
  · have h80' : ¬ (80 : Int) < (m : Int) := by omega
    go_enter Try.func4, Try.ntmps4
    go_wp2_with fail
    refine hN.mono ?_
    rintro e w1 ⟨g, rfl, h1⟩
    clear hN
    go_wp2_with fail
    refine (st_fuse h1 n).mono ?_
    rintro e w2 ⟨⟨v2, rfl⟩, h2⟩
    clear h1
    have H2 := Lib.hid h2
    clear h2
    go_wp2_with fail
    go_loopw [7, 8] (fun cv iv wr => ∃ (i k : Nat) (D : DK), iv = .int .i64 (i : Int) ∧ cv = .int .i64 (k : Int) ∧ i ≤ m ∧ k ≤ i ∧ FI n k D ∧ St w wr g D) (fun _ iv _ => m - (intOf iv).toNat)
    case atStart => exact ⟨0, 0, _, rfl, rfl, Nat.zero_le _, Nat.le_refl _, FI.new n n1, H2.out⟩
    case round =>
      obtain ⟨i, k, D, rfl, rfl, hi, hk, hFI, hSt⟩ := hrel
      by_cases hlt : i < m
      · have hlt2 : (i : Int) < (m : Int) := by omega
        have hBn := hFI.bnd n1 (by omega)
        have hrw : ReadsInt wr .i64 A m zs := by
          obtain ⟨fp, a1, a2, a3⟩ := hSt
          exact a1.reads hr (by simp)
        obtain ⟨ad, had, hcell⟩ := hrw.at_ (i : Int) (by omega) (by omega)
        subst had
        rw [Int.toNat_natCast] at hcell
        have hzw : ∀ q : Int, -9223372036854775808 ≤ q ∧ q ≤ 9223372036854775807 → True := fun _ _ => trivial
        generalize rd zs (i : Int) = z at *
        obtain ⟨ev, hev⟩ : ∃ ev, (z.tmod 2 == 0) = ev := ⟨_, rfl⟩
        obtain ⟨burnt, hbt⟩ : ∃ t, decide (0 ≤ n ∧ n ≤ (k : Int)) = t := ⟨_, rfl⟩
        have hF : (burnt = true ∧ stepE ev D = 9 ∧ FI n k (stepD ev D) ∧ (stepD ev D).down = true) ∨ (burnt = false ∧ stepE ev D = 0 ∧ FI n (k + 1) (stepD ev D) ∧ (stepD ev D).down = false) := by
          by_cases hb : 0 ≤ n ∧ n ≤ (k : Int)
          · exact .inl ⟨by rw [← hbt]; exact decide_eq_true hb, hFI.burnt ev hb.1 hb.2⟩
          · exact .inr ⟨by rw [← hbt]; exact decide_eq_false hb, hFI.live ev hb⟩
        have HS := Lib.hid hSt
        have HBT := Lib.hid hbt
        have HFF := Lib.hid hF
        clear hFI hSt hrw hF hzw
        go_upto_region 9 with fail
        go_cut [9] (fun t wx => t = .bool burnt ∧ wx = wr)
        case first =>
          clear hbt
          cases burnt
          · have hb := of_decide_eq_false HBT.out
            by_cases q0 : 0 ≤ n
            · have q1 : ¬ n ≤ (k : Int) := fun h => hb ⟨q0, h⟩
              clear hb
              go_wp2
              go_meet
              exact ⟨rfl, rfl⟩
            · clear hb
              go_wp2
              go_meet
              exact ⟨rfl, rfl⟩
          · obtain ⟨q0, q1⟩ := of_decide_eq_true HBT.out
            go_wp2
            go_meet
            exact ⟨rfl, rfl⟩
        case rest =>
          obtain ⟨rfl, rfl⟩ := hcut
          clear hbt
          have HST := Lib.hid HS.out
          go_upto_if 50 with fail
          go_cut [10] (fun t wx => t = .int .i64 (stepE ev D) ∧ St w wx g (stepD ev D))
          case first =>
            cases ev
            · go_wp2_with fail
              refine (st_bar HST.out hBn).mono ?_
              rintro e w3 ⟨rfl, h3⟩
              go_wp2
              go_meet
              exact ⟨rfl, h3⟩
            · go_wp2_with fail
              refine (filled_lit 1 _).mono ?_
              rintro e w3 ⟨rfl, hm3⟩
              go_wp2_with fail
              refine (st_write (HST.out.mod hm3) hBn 1 (FIL 0 1) (by rw [fil_size128]; omega)).mono ?_
              rintro e w4 ⟨rfl, h4⟩
              go_wp2
              go_meet
              exact ⟨rfl, h4⟩
          case rest =>
            obtain ⟨rfl, hS3⟩ := hcut
            rcases HFF.out with ⟨rfl, e1, e2, e3⟩ | ⟨rfl, e1, e2, e3⟩
            · rw [e1]
              have HE2 := Lib.hid e2
              have hdn := e2.dn
              generalize stepD ev D = D2 at *
              have hdd := st_done hS3
              have hdw := st_down hS3
              rw [hdn] at hdd
              rw [e3] at hdw
              have HS3 := Lib.hid hS3
              clear e1 e2 hS3 hdn
              go_wp2_with fail
              refine hdd.mono ?_
              rintro e w4 ⟨rfl, rfl⟩
              go_wp2_with fail
              refine hdw.mono ?_
              rintro e w4 ⟨rfl, rfl⟩
              clear hdd hdw
              go_wp2
              go_roundw
              case rel => exact ⟨i + 1, k, D2, by go_num, rfl, by omega, by omega, HE2.out, HS3.out⟩
              case measure => simp [intOf]; omega
            · rw [e1]
              have HE2 := Lib.hid e2
              have hdn := e2.dn
              have hrl := e2.rl
              have hc0 := can_up e3 0 (by omega) (by rw [e2.len]; omega)
              generalize stepD ev D = D2 at *
              have HS3 := Lib.hid hS3
              have w9 : IntKind.i64.wrap ((k : Int) + 1) = (k : Int) + 1 := IntWalk.i64_in _ (by omega)
              clear e1 e2 hS3
              go_wp2_with fail
              refine (st_read HS3.out (by omega) 0).mono ?_
              rintro e w4 ⟨rfl, h4⟩
              rw [hc0]
              have hdd := st_done h4
              have hdw := st_down h4
              rw [hdn] at hdd
              rw [e3] at hdw
              have HS4 := Lib.hid h4
              clear h4 hdn hc0
              go_wp2_with fail
              refine hdd.mono ?_
              rintro e w5 ⟨rfl, rfl⟩
              go_wp2_with fail
              refine hdw.mono ?_
              rintro e w5 ⟨rfl, rfl⟩
              clear hdd hdw
              go_wp2
              go_roundw
              case rel => exact ⟨i + 1, k + 1, D2, by go_num, by go_num, by omega, by omega, HE2.out, HS4.out⟩
              case measure => simp [intOf]; omega
      · obtain rfl : i = m := by omega
        have hlt2 : ¬ (i : Int) < (i : Int) := by omega
        have HW := Lib.hid hFI.last
        have HB := Lib.hid (hFI.lastB (by omega))
        have HS := Lib.hid hSt
        clear hFI hSt
        go_wp2_with fail
        refine (st_start HS.out).mono ?_
        rintro e w3 ⟨⟨v3, rfl⟩, h3⟩
        go_wp2_with fail
        refine (st_fuse h3 (-1)).mono ?_
        rintro e w4 ⟨⟨v4, rfl⟩, h4⟩
        go_wp2_with fail
        refine (filled_lit 2 w4).mono ?_
        rintro e w5 ⟨rfl, hm5⟩
        go_wp2_with fail
        refine (st_write (h4.mod hm5) HB.out 0 (FIL 0 2) (by rw [fil_size128]; omega)).mono ?_
        rintro e w6 ⟨rfl, h6⟩
        rw [HW.out]
        have H6 := Lib.hid h6
        clear h3 h4 hm5 h6
        go_wp2_with fail
        refine (lives_any w6).mono ?_
        rintro e w7 ⟨rfl, hm7⟩
        have HM7 := Lib.hid hm7
        clear hm7
        go_wp2
        go_ret
        obtain ⟨fp, a1, a2, a3⟩ := H6.out
        exact ⟨rfl, a1.trans0 HM7.out⟩
end Go.Proofs.Ytcohfbmfmlmblaa
