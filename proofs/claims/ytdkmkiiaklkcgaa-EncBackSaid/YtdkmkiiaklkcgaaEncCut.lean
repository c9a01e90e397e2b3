/- Of less bytes what is whole is taken off as it was. -/
import Derived.Test.YtdkmkiiaklkcgaaEncLaw
set_option linter.unusedVariables false
set_option linter.unusedSimpArgs false
namespace Go.Proofs.Ytdkmkiiaklkcgaa
open Go.RowKit Go.Proofs.YtdkmkiiaklkcgaaW.PrintWords
theorem at_later {w w4 : World} {g : Nat} {a : Addr} {o : EOp} (h : AtOp w a o) (hm : Mod [g] w w4) (hg : w.heap.size ≤ g) :
    w4.cell? a = some (.int .i64 o.kind) ∧ w4.cell? ⟨a.block, a.off + 1, none⟩ = some (.int .i64 o.n) ∧ ∃ D c, w4.cell? ⟨a.block, a.off + 2, none⟩ = some (.slice D o.data.length c) ∧ ReadsInt w4 .u8 D o.data.length o.data ∧ (∀ x, D = some x → 0 < o.data.length → x.block ≠ g) := by
  obtain ⟨h0, h1, D, c, h2, h3, h4⟩ := h
  have hb : ∀ p v, w.cell? p = some v → w4.cell? p = some v := fun p v hp => hm.cell hp (fun hs => by simp at hs; have := World.block_lt_of_cell? w _ hp; omega)
  exact ⟨hb _ _ h0, hb _ _ h1, D, c, hb _ _ h2, hm.reads h4 (fun x ex hn hs => by simp at hs; have := reads_lt h4 x ex hn; omega), fun x ex hn hs => by have := reads_lt h4 x ex hn; omega⟩
theorem cut_struct {n c k : Nat} (a : Addr) (hk : k < n) (hnc : n ≤ c) (W : World) : (Instr.slice 46 (.slice (some a) n c) (some (.int .i64 (k : Int))) (some (.int .i64 ((k : Int) + 1))) none).run Try.prog W = .ok (.slice (some (a.add (k * 3))) 1 (c - k)) W := by
  obtain ⟨i, hi, hs⟩ := Option.map_eq_some_iff.1 (show (Try.prog.info? 53).map (·.size) = some 3 by kernel_rfl)
  have := cut_mid (P := Try.prog) 46 53 .i64 .i64 (by kernel_rfl) hi 3 hs (some a) n c (k : Int) ((k : Int) + 1) (by omega) (by omega) (by omega) hnc W
  rw [this, if_neg (by omega)]
  have e : ((k : Int) + 1).toNat - (k : Int).toNat = 1 := by omega
  rw [e]; rfl
set_option maxRecDepth 100000 in
set_option maxHeartbeats 1000000 in
theorem cut_any (A : Option Addr) (n c : Nat) (ops : List EOp) (at_ : Int) (w : World) (hr : ReadsOps w A n ops) (hnc : n ≤ c) (hn : n ≤ 40) (h0 : 0 ≤ at_) (h1 : at_ < (encAll ops).length) (hl : light ops) :
    Calls Try.prog 9 #[.slice A n c, .int .i64 at_] w fun e w' => e = .returned (.bool true) ∧ Mod [] w w' := by
  obtain ⟨p, rfl⟩ := Int.eq_ofNat_of_zero_le h0
  obtain ⟨bs, hbs⟩ : ∃ bs, encAll ops = bs := ⟨_, rfl⟩
  have HO := Lib.hid (show ∀ o ∈ ops, o.ok from fun o ho => by obtain ⟨i, h, rfl⟩ := List.mem_iff_getElem.1 ho; exact (hr.row i h).choose_spec.2.2)
  have hbl := encAll_len ops HO.out hl
  rw [hbs] at h1 hbl
  have hbb := encAll_bd ops HO.out
  rw [hbs] at hbb
  have HB := Lib.hid hbs
  have HL := Lib.hid hr.len
  have hbl' : bs.length ≤ 12400 := by have := hr.len; omega
  have t1 : decide ((40 : Int) < n) = false := by simp; omega
  have hp : p < bs.length := by omega
  have hp' : p ≤ bs.length := by omega
  clear h1 h0 hbl
  go_enter Try.func9, Try.ntmps9
  go_wp2_with fail
  refine (all_any A n c ops w hr hn).mono ?_
  rintro e w1 ⟨hm1, hpost, _⟩
  obtain ⟨v, rfl, hown⟩ := hpost hl
  rw [hbs] at hown
  obtain ⟨A1, c1, rfl, hc1, hr1, hA1⟩ := own_form hown
  have t2 : decide ((bs.length : Int) ≤ p) = false := by simp; omega
  have t3 : decide (bs.length ≤ p) = false := by simp; omega
  have hpc : p ≤ c1 := by omega
  have hrp : ReadsInt w1 .u8 A1 p (bs.take p) := hr1.take_ p hp'
  clear hown hpost hbs
  go_wp2_with fail
  obtain ⟨bp, hbp⟩ : ∃ bp, bs.take p = bp := ⟨_, rfl⟩
  have hbpl : bp.length = p := by rw [← hbp, List.length_take]; omega
  have hbpb : Bytes bp := by rw [← hbp]; exact fun b h => hbb b (List.mem_of_mem_take h)
  rw [hbp] at hrp
  have HP := Lib.hid hbp
  clear hbp
  refine (read_any A1 p c1 bp w1 hrp (by omega) hbpb).mono ?_
  rintro e w2 ⟨g, A2, c2, rfl, hm2, hg, hrd, hA2⟩
  have hm12 := hm1.trans0 hm2
  have hops2 := hr.mod hm12 (by simp)
  have hgw : w.heap.size ≤ g := by have := hm1.size; omega
  have HG := Lib.hid hgw
  clear hrp hr1
  go_wp2_with fail
  go_loopw [8] (fun i wr => ∃ k : Nat, k ≤ n ∧ i = .int .i64 k ∧ Mod [g] w2 wr ∧ (encAll (ops.take k)).length ≤ p ∧ Rdr wr g A2 c2 bp (encAll (ops.take k)).length 0) (fun i _ => n - (intOf i).toNat)
  case atStart => exact ⟨0, by omega, rfl, Mod.refl _ _, by simp [encAll], hrd⟩
  case round =>
    obtain ⟨k, hk, rfl, hm, hq, hrk⟩ := hrel
    have hmw : Mod [g] w wr := Mod.trans (Mod.weak hm12 (by simp)) hm (by simp)
    by_cases hlt : k < n
    · have hkl : k < ops.length := by rw [HL.out]; exact hlt
      have hops := hr.mod hmw (by simpa using HG.out)
      obtain ⟨a, rfl, hat, hok⟩ := hops.row k hkl
      have hone := ReadsOps.one hops k hkl
      have hlo : ops[k].data.length ≤ 300 := hl _ (List.getElem_mem hkl)
      have hsn := Lib.hid (encAll_snoc ops k hkl)
      have hcc := Lib.hid (show bs.drop (encAll (ops.take k)).length = encOne ops[k] ++ encAll (ops.drop (k + 1)) by
        rw [← HB.out]
        conv => lhs; arg 2; rw [← List.take_append_drop k ops, encAll, List.flatMap_append]
        rw [show (ops.take k).flatMap encOne = encAll (ops.take k) from rfl, List.drop_left, List.drop_eq_getElem_cons hkl]; rfl)
      have hel := encOne_len ops[k] hok hlo
      have hsl := cut_struct a hlt hnc
      have hat0 := (hr.row k hkl)
      generalize ops[k] = o at *
      obtain ⟨q, hqq⟩ : ∃ q, (encAll (ops.take k)).length = q := ⟨_, rfl⟩
      rw [hqq] at hq hrk hcc
      have HQ := Lib.hid hqq
      clear hqq
      obtain ⟨a', ha', hat0, _⟩ := hat0
      cases ha'
      have q1 : IntKind.i64.wrap ((k : Int) + 1) = (k : Int) + 1 := IntWalk.i64_in _ (by omega)
      go_wp2_with fail
      refine (left_any g A2 c2 bp q 0 wr hrk).mono ?_
      rintro e w3 ⟨rfl, hm3⟩
      rw [hbpl]
      have hone3 := hone.mod hm3 (by simp)
      go_wp2_with fail
      refine (all_any (some (a.add (k * 3))) 1 (c - k) [o] w3 hone3 (by omega)).mono ?_
      rintro e w4 ⟨hm4, hpost, _⟩
      obtain ⟨v, rfl, hown⟩ := hpost (by intro x hx; simp at hx; subst hx; exact hlo)
      rw [show encAll [o] = encOne o by simp [encAll]] at hown
      obtain ⟨A4, c4, rfl, hc4, hr4, hA4⟩ := own_form hown
      have hm34 := hm3.trans0 hm4
      have hmg := hm.trans0 hm34
      have hmwg := hmw.trans0 hm34
      have hrk4 := hrk.mod hm34 (by simp) (by simp)
      obtain ⟨d0, d1, D, cd, d2, hd, hD⟩ := at_later hat0 hmwg HG.out
      clear hat hat0 hone hone3 hown hpost hr4 hops hops2 hm hmw hm3 hm4 hm34 hrk hrd
      obtain ⟨L, hL⟩ : ∃ L, (encOne o).length = L := ⟨_, rfl⟩
      rw [hL] at hc4 hel ⊢
      have HLL := Lib.hid hL
      have hdr : bp.drop q = (encOne o ++ encAll (ops.drop (k + 1))).take (p - q) := by rw [← hcc.out, ← HP.out, List.drop_take]
      by_cases hcase : p - q < L
      · have t4 : decide (p - q < L) = true := by simp; omega
        rw [List.take_append_of_le_length (by omega)] at hdr
        obtain ⟨b, hb⟩ := rsame_cut hdr (by omega) (by omega) hok hlo
        have hs := same_any g A2 c2 bp q o D o.data.length cd w4 hrk4 hd hD
        rw [hb] at hs
        have hqp : q ≤ p := hq
        clear hL hdr hb hd hD
        generalize o.data.length = m at *
        generalize o.kind = kd at *
        generalize o.n = nn at *
        go_wp2_with fail
        refine hs.mono ?_
        rintro e w5 ⟨rfl, hm5, hr5⟩
        simp only
        cases b with
        | true =>
          go_wp2_with fail
          refine (fault_any g A2 c2 bp q 3 w5 hr5).mono ?_
          rintro e w6 ⟨rfl, rfl⟩
          go_wp2_with fail
          refine (fault_any g A2 c2 bp q 3 w5 hr5).mono ?_
          rintro e w6 ⟨rfl, rfl⟩
          go_wp2_with fail
          refine (end_any g A2 c2 bp q 3 w5 hr5).mono ?_
          rintro e w6 ⟨rfl, hm6, hr6⟩
          rw [show rend bp q 3 = 3 by unfold rend; rw [if_neg (by omega)]]
          go_wp2_with fail
          refine (encLives_any w6).mono ?_
          rintro e w7 ⟨rfl, hm7⟩
          go_wp2
          go_ret
          exact ⟨rfl, Mod.weak (((hmwg.trans_ hm5).trans_ hm6).trans0 hm7) (by simpa using HG.out)⟩
        | false =>
          go_wp2_with fail
          refine (fault_any g A2 c2 bp q 3 w5 hr5).mono ?_
          rintro e w6 ⟨rfl, rfl⟩
          go_wp2_with fail
          refine (end_any g A2 c2 bp q 3 w5 hr5).mono ?_
          rintro e w6 ⟨rfl, hm6, hr6⟩
          rw [show rend bp q 3 = 3 by unfold rend; rw [if_neg (by omega)]]
          go_wp2_with fail
          refine (encLives_any w6).mono ?_
          rintro e w7 ⟨rfl, hm7⟩
          go_wp2
          go_ret
          exact ⟨rfl, Mod.weak (((hmwg.trans_ hm5).trans_ hm6).trans0 hm7) (by simpa using HG.out)⟩
      · have t4 : decide (p - q < L) = false := by simp; omega
        rw [List.take_append, List.take_of_length_le (by omega)] at hdr
        have hb := rsame_ok hdr (by omega) hok hlo
        have hs := same_any g A2 c2 bp q o D o.data.length cd w4 hrk4 hd hD
        rw [hb, hL] at hs
        have HQL := Lib.hid (show q + L ≤ p by omega)
        have qL : ((p - (q + L) : Nat) : Int) = ((p - q : Nat) : Int) - (L : Int) := by omega
        have q2 : IntKind.i64.wrap (((p - q : Nat) : Int) - (L : Int)) = ((p - q : Nat) : Int) - (L : Int) := IntWalk.i64_in _ (by omega)
        clear hL hdr hb hd hD
        generalize o.data.length = m at *
        generalize o.kind = kd at *
        generalize o.n = nn at *
        go_wp2_with fail
        refine hs.mono ?_
        rintro e w5 ⟨rfl, hm5, hr5⟩
        simp only
        go_wp2_with fail
        refine (left_any g A2 c2 bp (q + L) 0 w5 hr5).mono ?_
        rintro e w6 ⟨rfl, hm6⟩
        have hr6 := hr5.mod hm6 (by simp) (by simp)
        rw [hbpl, qL]
        generalize ((p - q : Nat) : Int) - (L : Int) = z at *
        go_wp2_with fail
        refine (fault_any g A2 c2 bp (q + L) 0 w6 hr6).mono ?_
        rintro e w7 ⟨rfl, rfl⟩
        go_wp2
        go_roundw
        case rel =>
          refine ⟨k + 1, by omega, by go_num, (hmg.trans_ hm5).trans0 hm6, ?_, ?_⟩
          · rw [hsn.out, List.length_append, HQ.out, HLL.out]; exact HQL.out
          · rw [hsn.out, List.length_append, HQ.out, HLL.out]; exact hr6
        case measure => simp [intOf]; omega
    · have hkn : k = n := by omega
      rw [List.take_of_length_le (by rw [HL.out]; omega), HB.out] at hq
      omega
theorem encCut_any (A : Option Addr) (n c : Nat) (ops : List EOp) (at_ : Int) (w : World) (hr : ReadsOps w A n ops) (hnc : n ≤ c) :
    Calls Try.prog 9 #[.slice A n c, .int .i64 at_] w fun e w' => e = .returned (.bool true) ∧ Mod [] w w' := by
  by_cases hn : n ≤ 40
  · have t1 : decide ((40 : Int) < n) = false := by simp; omega
    by_cases hl : light ops
    · by_cases h0 : 0 ≤ at_
      · by_cases h1 : at_ < (encAll ops).length
        · exact cut_any A n c ops at_ w hr hnc hn h0 h1 hl
        · obtain ⟨p, rfl⟩ := Int.eq_ofNat_of_zero_le h0
          have HO := Lib.hid (show ∀ o ∈ ops, o.ok from fun o ho => by obtain ⟨i, h, rfl⟩ := List.mem_iff_getElem.1 ho; exact (hr.row i h).choose_spec.2.2)
          have hbl := encAll_len ops HO.out hl
          have hL := hr.len
          go_enter Try.func9, Try.ntmps9
          go_wp2_with fail
          refine (all_any A n c ops w hr hn).mono ?_
          rintro e w1 ⟨hm1, hpost, _⟩
          obtain ⟨v, rfl, hown⟩ := hpost hl
          clear hpost
          obtain ⟨A1, c1, rfl, hc1, hr1, hA1⟩ := own_form hown
          clear hown hr1
          generalize (encAll ops).length = L at *
          have t2 : decide (L ≤ p) = true := by simp; omega
          go_wp2_with fail
          refine (encLives_any w1).mono ?_
          rintro e w7 ⟨rfl, hm7⟩
          go_wp2
          go_ret
          exact ⟨rfl, hm1.trans0 hm7⟩
      · have t2 : decide (at_ < 0) = true := by simp; omega
        go_enter Try.func9, Try.ntmps9
        go_wp2_with fail
        refine (all_any A n c ops w hr hn).mono ?_
        rintro e w1 ⟨hm1, hpost, _⟩
        obtain ⟨v, rfl, hown⟩ := hpost hl
        clear hpost
        obtain ⟨A1, c1, rfl, hc1, hr1, hA1⟩ := own_form hown
        clear hown hr1
        generalize (encAll ops).length = L at *
        go_wp2_with fail
        refine (encLives_any w1).mono ?_
        rintro e w7 ⟨rfl, hm7⟩
        go_wp2
        go_ret
        exact ⟨rfl, hm1.trans0 hm7⟩
    · go_enter Try.func9, Try.ntmps9
      go_wp2_with fail
      refine (all_any A n c ops w hr hn).mono ?_
      rintro e w1 ⟨hm1, _, hpost⟩
      obtain rfl := hpost hl
      clear hpost
      go_wp2_with fail
      refine (encLives_any w1).mono ?_
      rintro e w7 ⟨rfl, hm7⟩
      go_wp2
      go_ret
      exact ⟨rfl, hm1.trans0 hm7⟩
  · have t1 : decide ((40 : Int) < n) = true := by simp; omega
    go_enter Try.func9, Try.ntmps9
    go_wp2_with fail
    refine (encLives_any w).mono ?_
    rintro e w7 ⟨rfl, hm7⟩
    go_wp2
    go_ret
    exact ⟨rfl, hm7⟩
theorem encCut_walk {H : Type} {enc : TypeId × Value → H} (v : Value) (d : DataW H) (p : List MemPlace) (at_ : Int) (w : World) (ho : Value.okWide Try.prog w .any 0 46 v) (h : DataW.Trod enc Try.prog w 0 (fun _ => true) true 46 v d p) (hx : (Lit.int .i64 at_).wf = true) :
    Calls Try.prog 9 #[v, .int .i64 at_] w fun e w' => e = .returned (.bool true) ∧ Mod [] w w' := by
  obtain ⟨A, n, c, ops, rfl, hnc, hr⟩ := ops_of_trod (Go.WideShapes.okWide_slice (e := 53) (by kernel_rfl) ho) h
  exact encCut_any A n c ops at_ w hr hnc
end Go.Proofs.Ytdkmkiiaklkcgaa
