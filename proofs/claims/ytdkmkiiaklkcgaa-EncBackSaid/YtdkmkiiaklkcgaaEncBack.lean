/- Whatever is written is taken off as it was, and is all; with anything behind it it isn't. -/
import Derived.Test.YtdkmkiiaklkcgaaEncCut
import Derived.Deep.RegionLawGrows
import Derived.Deep.DeepCutAuto
set_option linter.unusedVariables false
set_option linter.unusedSimpArgs false
namespace Go.Proofs.Ytdkmkiiaklkcgaa
open Go.RowKit Go.Proofs.YtdkmkiiaklkcgaaW.PrintWords
theorem grow_olds {w1 W : World} {A1 : Option Addr} {L : Nat} {bs : List Int} (hr : ReadsInt w1 .u8 A1 L bs) (hm : Mod [] w1 W) :
    ∀ b, A1 = some b → ∀ j u, (nums .u8 bs)[j]? = some u → W.cell? (b.add j) = some u := by
  intro b hb j u hj
  obtain ⟨h1, h2⟩ := List.getElem?_eq_some_iff.1 hj
  have hj' : j < L := by have := hr.1; simp only [nums, List.length_map] at h1; omega
  obtain ⟨ad, e, hc⟩ := hr.2.2 (by omega)
  cases (hb.symm.trans e)
  refine hm.cell ?_ (by simp)
  rw [hc j hj', ← h2]
  simp only [nums, List.getElem_map, List.getD_eq_getElem?_getD]
  rw [List.getElem?_eq_getElem (by have := hr.1; omega)]; rfl
theorem grow_nil {w1 : World} {A1 : Option Addr} {L : Nat} {bs : List Int} (hr : ReadsInt w1 .u8 A1 L bs) : A1 = none → L = 0 ∧ L = 0 := by
  intro h
  by_cases h0 : L = 0
  · exact ⟨h0, h0⟩
  · obtain ⟨ad, e, _⟩ := hr.2.2 (by omega)
    rw [h] at e; cases e
theorem grow_one {W : World} {g : Nat} {x : Value} {t : TypeId} {fr : Nat × Nat} (h : W.heap[g]? = some (.cells #[x] t fr)) : ∀ j u, [x][j]? = some u → W.cell? ((⟨g, 0, none⟩ : Addr).add j) = some u := by
  intro j u hj
  obtain ⟨h1, h2⟩ := List.getElem?_eq_some_iff.1 hj
  obtain rfl : j = 0 := by simp at h1; omega
  rw [add_plain, World.cell?, h]
  simp at h2 ⊢; exact h2
def TwoRdr (w wx : World) (bs : List Int) (more : Int) (a b : Value) : Prop :=
  ∃ g A2 c2 g4 A4 c4, a = .pointer (some ⟨g, 0, none⟩) ∧ b = .pointer (some ⟨g4, 0, none⟩) ∧ Mod [] w wx ∧ w.heap.size ≤ g ∧ g < g4 ∧ Rdr wx g A2 c2 bs 0 0 ∧ Rdr wx g4 A4 c4 (bs ++ [more]) 0 0 ∧
    (∀ x, A2 = some x → 0 < bs.length → x.block ≠ g4) ∧ (∀ x, A4 = some x → x.block ≠ g)
theorem at_later2 {w w4 : World} {S : List Nat} {a : Addr} {o : EOp} (h : AtOp w a o) (hg : ∀ s ∈ S, w.heap.size ≤ s) :
    ∃ D c, (∀ w4, Mod S w w4 → w4.cell? a = some (.int .i64 o.kind) ∧ w4.cell? ⟨a.block, a.off + 1, none⟩ = some (.int .i64 o.n) ∧ w4.cell? ⟨a.block, a.off + 2, none⟩ = some (.slice D o.data.length c) ∧ ReadsInt w4 .u8 D o.data.length o.data) ∧ (∀ x, D = some x → 0 < o.data.length → ∀ s ∈ S, x.block ≠ s) := by
  obtain ⟨h0, h1, D, c, h2, h3, h4⟩ := h
  refine ⟨D, c, fun w4 hm => ?_, fun x ex hn s hs => by have := reads_lt h4 x ex hn; have := hg s hs; omega⟩
  have hb : ∀ p v, w.cell? p = some v → w4.cell? p = some v := fun p v hp => hm.cell hp (fun hs => by have := hg _ hs; have := World.block_lt_of_cell? w _ hp; omega)
  exact ⟨hb _ _ h0, hb _ _ h1, hb _ _ h2, hm.reads h4 (fun x ex hn hs => by have := hg _ hs; have := reads_lt h4 x ex hn; omega)⟩
theorem byte_no (g : Nat) (A : Option Addr) (c : Nat) (bs : List Int) (p : Nat) (w : World) (h : Rdr w g A c bs p 4) :
    Calls Try.prog 34 #[.pointer (some ⟨g, 0, none⟩)] w fun e' w' => e' = .returned (.int .u8 0) ∧ w = w' := by
  go_enter Try.func34, Try.ntmps34
  go_wp2_with fail
  refine (ready_any g A c bs p 4 w h).mono ?_
  rintro e w1 ⟨rfl, rfl⟩
  go_wp2
  go_ret
  exact ⟨rfl, rfl⟩
set_option maxRecDepth 100000 in
set_option maxHeartbeats 1000000 in
theorem back_any (A : Option Addr) (n c : Nat) (ops : List EOp) (more : Int) (w : World) (hr : ReadsOps w A n ops) (hnc : n ≤ c) (hn : n ≤ 40) (h0 : 0 ≤ more) (h1 : more ≤ 255) (hl : light ops) :
    Calls Try.prog 10 #[.slice A n c, .int .u8 more] w fun e w' => e = .returned (.bool true) ∧ Mod [] w w' := by
  obtain ⟨bs, hbs⟩ : ∃ bs, encAll ops = bs := ⟨_, rfl⟩
  have HO := Lib.hid (show ∀ o ∈ ops, o.ok from fun o ho => by obtain ⟨i, h, rfl⟩ := List.mem_iff_getElem.1 ho; exact (hr.row i h).choose_spec.2.2)
  have hbl := encAll_len ops HO.out hl
  rw [hbs] at hbl
  have hbb := encAll_bd ops HO.out
  rw [hbs] at hbb
  have HB := Lib.hid hbs
  have HL := Lib.hid hr.len
  have hbl' : bs.length ≤ 12400 := by have := hr.len; omega
  have t1 : decide ((40 : Int) < n) = false := by simp; omega
  clear hbl
  go_enter Try.func10, Try.ntmps10
  go_wp2_with fail
  refine (all_any A n c ops w hr hn).mono ?_
  rintro e w1 ⟨hm1, hpost, _⟩
  obtain ⟨v, rfl, hown⟩ := hpost hl
  rw [hbs] at hown
  obtain ⟨A1, c1, rfl, hc1, hr1, hA1⟩ := own_form hown
  obtain ⟨L, hL⟩ : ∃ L, bs.length = L := ⟨_, rfl⟩
  rw [hL] at hc1 hr1 hbl'
  have HLL := Lib.hid hL
  clear hown hpost hbs
  rw [hL]
  clear hL
  obtain ⟨i5, hi5, hi5'⟩ := Option.map_eq_some_iff.1 (show (Try.prog.info? 5).map (fun i => (i.zero, i.size, i.bytes)) = some (some (.int .u8 0), 1, 1) by kernel_rfl)
  simp only [Prod.mk.injEq] at hi5'
  obtain ⟨hz5, hs5, hb5⟩ := hi5'
  go_upto_region 6 with fail
  have hbl6 : L + 1 ≤ maxLen := by show L + 1 ≤ 9223372036854775807; omega
  have hnil := Lib.hid (grow_nil hr1)
  have hlen := Lib.hid (show (nums .u8 bs).length = L * 1 by have := hr1.1; simp only [nums, List.length_map]; omega)
  have hbb5 : Bytes (bs ++ [more]) := fun b hb => by
    rcases List.mem_append.1 hb with h | h
    · exact hbb b h
    · simp at h; subst h; exact ⟨h0, h1⟩
  have hnum := Lib.hid (show nums .u8 bs ++ [.int .u8 more] = nums .u8 (bs ++ [more]) by simp [nums])
  go_cut [7, 8] (fun a b wx => TwoRdr w1 wx bs more a b)
  case first =>
    go_region_held3 (fun w' => Mod [] w1 w') (first | exact (Mod.refl [] _).drew | exact (by assumption) | exact Mod.trans0 (by assumption) (by assumption) | exact Mod.alloc (by assumption) _)
      (first
        | (go_at_call 29; refine (read_any A5 (L + 1) c5 (bs ++ [more]) _ (Mod.reads (S := []) (Mod.refl [] _) hr5 (by simp)) (by omega) hbb5).mono ?_; rintro e w4 ⟨g4, A4, c4, rfl, hm4, hg4, hrd4, hA4⟩)
        | (go_at_call 29; refine (read_any A1 L c1 bs _ (Mod.reads (S := []) (by assumption) hr1 (by simp)) (by omega) hbb).mono ?_; rintro e w2 ⟨g, A2, c2, rfl, hm2, hg, hrd, hA2⟩)
        | (refine step_append_grows rfl (.tmp 29) (.tmp 31) 22 rfl 5 i5 (.int .u8 0) 1 1 Try.underlying22 hi5 hz5 hs5 hb5 rfl (by decide) A1 L L (nums .u8 bs) rfl ?_ ?_ ?_ _ 1 1 [.int .u8 more] rfl rfl ?_ ?_ ?_ ?_ ?_ ?_
           exact hnil.out
           exact hlen.out
           exact grow_olds hr1 (by assumption)
           (first | exact grow_one (blk_new w2 _) | exact grow_one (hm2.blk (blk_new w1 _) (by simp)))
           (intro u hu; simp at hu; subst hu; rfl)
           omega
           exact hbl6
           omega
           intro v3 w3 hown3 hgrow3
           rw [hnum.out] at hown3
           obtain ⟨A5, c5, rfl, hc5, hr5, hA5⟩ := own_form hown3
           have hm3 := Mod.of_grown hgrow3))
    all_goals
      go_wp2_with fail
      go_meet
      have hs1 := hm2.size
      have hs3 := hm3.size
      have hb2 := fun x ex hn => reads_lt hrd.reads x ex hn
      simp only [World.size_drew, World.size_alloc] at hg hs3
      have hgl := blk_lt hrd.blk
      have hm24 : Mod [] w2 w4 := by (first | exact (Mod.trans0 hm3 hm4) | exact (((Mod.refl [] w2).alloc _).trans0 hm3).trans0 hm4)
      exact ⟨g, A2, c2, g4, A4, c4, rfl, rfl, by assumption, by omega, by omega, hrd.mod hm24 (by simp) (by simp), hrd4, fun x ex hn => by have := hb2 x ex hn; omega, fun x ex => by have := hA4 x ex; omega⟩
  case rest =>
    obtain ⟨g, A2, c2, g4, A4, c4, rfl, rfl, hmx, hg, hgg, hrd, hrd4, hA2, hA4⟩ := hcut
    obtain ⟨wx, rfl⟩ : ∃ wx : World, wx = wc := ⟨_, rfl⟩
    have hm1x := hm1.trans0 hmx
    have hgw : ∀ s ∈ [g, g4], w.heap.size ≤ s := by have := hm1.size; intro s hs; simp at hs; omega
    have HG := Lib.hid hgw
    have HA2 := Lib.hid hA2
    have HA4 := Lib.hid hA4
    clear hnil hlen hbb5 hnum hr1 hA1 hA2 hA4 hi5 hz5 hs5 hb5 hbl6 hgw hmx
    go_wp2_with fail
    go_loopw [9] (fun i wr => ∃ k : Nat, k ≤ n ∧ i = .int .i64 k ∧ Mod [g, g4] wx wr ∧ Rdr wr g A2 c2 bs (encAll (ops.take k)).length 0 ∧ Rdr wr g4 A4 c4 (bs ++ [more]) (encAll (ops.take k)).length 0) (fun i _ => n - (intOf i).toNat)
    case atStart => exact ⟨0, by omega, rfl, Mod.refl _ _, by simpa [encAll] using hrd, by simpa [encAll] using hrd4⟩
    case round =>
      obtain ⟨k, hk, rfl, hm, hra, hrb⟩ := hrel
      have hmw : Mod [g, g4] w wr := Mod.trans (Mod.weak hm1x (by simp)) hm (by simp)
      by_cases hlt : k < n
      · have hkl : k < ops.length := by rw [HL.out]; exact hlt
        obtain ⟨a, rfl, hat, hok⟩ := hr.row k hkl
        have hlo : ops[k].data.length ≤ 300 := hl _ (List.getElem_mem hkl)
        have hsn := Lib.hid (encAll_snoc ops k hkl)
        have hcc : bs.drop (encAll (ops.take k)).length = encOne ops[k] ++ encAll (ops.drop (k + 1)) := by
          rw [← HB.out]
          conv => lhs; arg 2; rw [← List.take_append_drop k ops, encAll, List.flatMap_append]
          rw [show (ops.take k).flatMap encOne = encAll (ops.take k) from rfl, List.drop_left, List.drop_eq_getElem_cons hkl]; rfl
        have hcd : (bs ++ [more]).drop (encAll (ops.take k)).length = encOne ops[k] ++ (encAll (ops.drop (k + 1)) ++ [more]) := by
          rw [List.drop_append_of_le_length hra.le, hcc, List.append_assoc]
        generalize ops[k] = o at *
        obtain ⟨q, hqq⟩ : ∃ q, (encAll (ops.take k)).length = q := ⟨_, rfl⟩
        rw [hqq] at hra hrb hcc hcd
        have HQ := Lib.hid hqq
        clear hqq
        obtain ⟨D, cd, hD1, hD2⟩ := at_later2 (w4 := wr) hat HG.out
        have hb1 := rsame_ok hcc hra.le hok hlo
        have hb2 := rsame_ok hcd hrb.le hok hlo
        obtain ⟨d0, d1, d2, hd⟩ := hD1 wr hmw
        have hs1 := same_any g A2 c2 bs q o D o.data.length cd wr hra hd (fun x ex hn => hD2 x ex hn g (by simp))
        rw [hb1] at hs1
        obtain ⟨L1, hL1⟩ : ∃ L1, (encOne o).length = L1 := ⟨_, rfl⟩
        rw [hL1] at hs1 hb2
        have HLL := Lib.hid hL1
        have hs2 := fun w' h' hd' => same_any g4 A4 c4 (bs ++ [more]) q o D o.data.length cd w' h' hd' (fun x ex hn => hD2 x ex hn g4 (by simp))
        rw [hb2] at hs2
        clear hL1 hcc hcd hb1 hb2 hat hD2 hd
        generalize o.data.length = m at *
        generalize o.kind = kd at *
        generalize o.n = nn at *
        go_wp2_with fail
        refine hs1.mono ?_
        rintro e w5 ⟨rfl, hm5, hr5⟩
        simp only
        have hm5' : Mod [g, g4] wr w5 := Mod.weak hm5 (by simp)
        have hrb5 := hrb.mod hm5 (by simp; omega) (fun x ex _ => by simpa using HA4.out x ex)
        obtain ⟨f0, f1, f2, hd5⟩ := hD1 w5 (hmw.trans_ hm5')
        clear hD1 d0 d1 d2
        go_wp2_with fail
        refine (hs2 w5 hrb5 hd5).mono ?_
        rintro e w6 ⟨rfl, hm6, hr6⟩
        simp only
        have hm6' : Mod [g, g4] w5 w6 := Mod.weak hm6 (by simp)
        have hra6 := hr5.mod hm6 (by simp; omega) (fun x ex hn => by simpa using HA2.out x ex hn)
        go_wp2
        go_roundw
        case rel =>
          refine ⟨k + 1, by omega, by go_num, (hm.trans_ hm5').trans_ hm6', ?_, ?_⟩
          · rw [hsn.out, List.length_append, HQ.out, HLL.out]; exact hra6
          · rw [hsn.out, List.length_append, HQ.out, HLL.out]; exact hr6
        case measure => simp [intOf]; omega
      · have hkn : k = n := by omega
        rw [List.take_of_length_le (by rw [HL.out]; omega), HB.out] at hra hrb
        subst hkn
        go_wp2_with fail
        refine (end_any g A2 c2 bs bs.length 0 wr hra).mono ?_
        rintro e w5 ⟨rfl, hm5, hr5⟩
        rw [show rend bs bs.length 0 = 0 by unfold rend; rw [if_neg (by omega)]]
        have hrb5 := hrb.mod hm5 (by simp; omega) (fun x ex _ => by simpa using HA4.out x ex)
        have hm5' : Mod [g, g4] wr w5 := Mod.weak hm5 (by simp)
        go_wp2_with fail
        refine (left_any g4 A4 c4 (bs ++ [more]) bs.length 0 w5 hrb5).mono ?_
        rintro e w6 ⟨rfl, hm6⟩
        have hrb6 := hrb5.mod hm6 (by simp) (by simp)
        rw [show ((bs ++ [more]).length - bs.length : Nat) = 1 by rw [List.length_append]; simp]
        go_wp2_with fail
        refine (end_any g4 A4 c4 (bs ++ [more]) bs.length 0 w6 hrb6).mono ?_
        rintro e w7 ⟨rfl, hm7, hr7⟩
        rw [show rend (bs ++ [more]) bs.length 0 = 4 by unfold rend; rw [if_pos ⟨rfl, by rw [List.length_append]; simp⟩]] at hr7 ⊢
        have hm7' : Mod [g, g4] w6 w7 := Mod.weak hm7 (by simp)
        go_wp2_with fail
        refine (byte_no g4 A4 c4 (bs ++ [more]) bs.length w7 hr7).mono ?_
        rintro e w8 ⟨rfl, rfl⟩
        go_wp2_with fail
        refine (encLives_any w7).mono ?_
        rintro e w9 ⟨rfl, hm9⟩
        go_wp2
        go_ret
        exact ⟨rfl, Mod.weak ((((hmw.trans_ hm5').trans0 hm6).trans_ hm7').trans0 hm9) (fun s hs => .inr (HG.out s hs))⟩
theorem encBack_walk {H : Type} {enc : TypeId × Value → H} (v : Value) (d : DataW H) (p : List MemPlace) (more : Int) (w : World) (ho : Value.okWide Try.prog w .any 0 46 v) (h : DataW.Trod enc Try.prog w 0 (fun _ => true) true 46 v d p) (hx : (Lit.int .u8 more).wf = true) :
    Calls Try.prog 10 #[v, .int .u8 more] w fun e w' => e = .returned (.bool true) ∧ Mod [] w w' := by
  obtain ⟨A, n, c, ops, rfl, hnc, hr⟩ := ops_of_trod (Go.WideShapes.okWide_slice (e := 53) (by kernel_rfl) ho) h
  have hb := bounds_u8 hx
  by_cases hn : n ≤ 40
  · by_cases hl : light ops
    · exact back_any A n c ops more w hr hnc hn hb.1 hb.2 hl
    · have t1 : decide ((40 : Int) < n) = false := by simp; omega
      go_enter Try.func10, Try.ntmps10
      go_wp2_with fail
      refine (all_any A n c ops w hr hn).mono ?_
      rintro e w1 ⟨hm1, _, hpost⟩
      obtain rfl := hpost hl
      clear hpost
      go_wp2_with fail
      refine (encLives_any w1).mono ?_
      rintro e w7 ⟨rfl, hm7⟩
      go_wp2
      go_ret
      exact ⟨rfl, hm1.trans0 hm7⟩
  · have t1 : decide ((40 : Int) < n) = true := by simp; omega
    go_enter Try.func10, Try.ntmps10
    go_wp2_with fail
    refine (encLives_any w).mono ?_
    rintro e w7 ⟨rfl, hm7⟩
    go_wp2
    go_ret
    exact ⟨rfl, hm7⟩
end Go.Proofs.Ytdkmkiiaklkcgaa
