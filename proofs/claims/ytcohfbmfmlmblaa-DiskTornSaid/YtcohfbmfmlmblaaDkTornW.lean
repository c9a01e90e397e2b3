/- The law of torn writes, walked. -/
import Derived.Test.YtcohfbmfmlmblaaDkThree
import Derived.Test.YtcohfbmfmlmblaaDkOpen
set_option linter.unusedVariables false
set_option linter.unusedSimpArgs false
namespace Go.Proofs.Ytcohfbmfmlmblaa
open Go.RowKit Go.Proofs.YtcohfbmfmlmblaaW.PrintWords Go.Proofs.Ytcohfbmfmlmblaa.PDiskPlays Go.Proofs.YtcohfbmfmlmblaaW.PrintMore Go.Proofs.YtcohfbmfmlmblaaW.PrintLast
/-- What is kept without the torn write. -/
def kw (F : List Bool) (t j : Nat) : Bool := F.getD j false && decide (j ≠ t)
/-- Is there a later write to the same sector that came out, among the first i? -/
def laterK (rs : List Int) (F : List Bool) (t : Nat) : Nat → Bool
  | 0 => false
  | i + 1 => laterK rs F t i || (decide (t < i) && (decide (rs.getD i 0 = rs.getD t 0) && kw F t i))
theorem laterK_succ (rs : List Int) (F : List Bool) (t i : Nat) : laterK rs F t (i + 1) = (laterK rs F t i || (decide (t < i) && (decide (rs.getD i 0 = rs.getD t 0) && kw F t i))) := rfl
theorem rs_row {row : List S65} {j : Nat} (h : j < row.length) : (row.map (·.f0)).getD j 0 = (rd_T65 row (j : Int)).f0 := by
  rw [rd65 row j h, List.getD_eq_getElem?_getD, List.getElem?_map, List.getElem?_eq_getElem h]; rfl
theorem laterK_iff {row : List S65} {F ks : List Bool} {t : Nat} (ht : t < row.length) (hk : ∀ j, j < row.length → ks.getD j false = kw F t j) : ∀ i, i ≤ row.length → (laterK (row.map (·.f0)) F t i = true ↔ Later ks row t (rd_T65 row (t : Int)).f0 i)
  | 0, _ => ⟨fun h => (by cases h), fun ⟨j, _, h, _⟩ => absurd h (Nat.not_lt_zero j)⟩
  | i + 1, hi => by
    rw [laterK_succ, Bool.or_eq_true, laterK_iff ht hk i (by omega), rs_row (by omega : i < row.length), rs_row ht, ← hk i (by omega)]
    constructor
    · rintro (⟨j, h1, h2, h3, h4⟩ | h)
      · exact ⟨j, h1, by omega, h3, h4⟩
      · simp only [Bool.and_eq_true, decide_eq_true_eq] at h
        exact ⟨i, h.1, by omega, h.2.1, h.2.2⟩
    · rintro ⟨j, h1, h2, h3, h4⟩
      by_cases e : j = i
      · subst e
        right
        simp only [Bool.and_eq_true, decide_eq_true_eq]
        exact ⟨h1, h3, h4⟩
      · exact .inl ⟨j, h1, by omega, h3, h4⟩
/-- Behind i rounds. -/
def RP (w5 : World) (b7 c7 : Nat) (F : List Bool) (t n i : Nat) (wx : World) : Prop := ∃ ks : List Bool, ks.length = n ∧ (∀ j, j < i → ks.getD j false = kw F t j) ∧ Mod [b7] w5 wx ∧ Row7 wx b7 c7 ks
theorem RP.put {w5 wx : World} {b7 c7 : Nat} {F : List Bool} {t n i : Nat} (h : RP w5 b7 c7 F t n i wx) (hi : i < n) {v : Bool} (hv : v = kw F t i) : RP w5 b7 c7 F t n (i + 1) (wx.setCell ⟨b7, i, none⟩ (.bool v)) := by
  obtain ⟨ks, h1, h2, h3, h4⟩ := h
  subst hv
  refine ⟨ks.set i (kw F t i), by rw [List.length_set]; exact h1, fun j hj => ?_, h3.setCell (.inl (by simp)) _, h4.put i _⟩
  by_cases e : j = i
  · subst e
    rw [List.getD_eq_getElem?_getD, List.getElem?_set_self (by omega)]; rfl
  · rw [List.getD_eq_getElem?_getD, List.getElem?_set_ne (by omega), ← List.getD_eq_getElem?_getD]
    exact h2 j (by omega)
theorem RP.cell {w5 wx : World} {b7 c7 : Nat} {F : List Bool} {t n i : Nat} (h : RP w5 b7 c7 F t n i wx) {j : Nat} (hj : j < i) (hi : i ≤ n) : wx.cell? ⟨b7, j, none⟩ = some (.bool (kw F t j)) := by
  obtain ⟨ks, h1, h2, h3, h4⟩ := h
  rw [(h4.cell j (by omega)).1, h2 j hj]
theorem RP.frozen {w5 wx : World} {b7 c7 : Nat} {F : List Bool} {t n i : Nat} (h : RP w5 b7 c7 F t n i wx) {j : Nat} (hj : j < n) : wx.frozen? ⟨b7, j, none⟩ = false := by
  obtain ⟨ks, h1, h2, h3, h4⟩ := h
  exact (h4.cell j (by omega)).2
theorem RP.old {w5 wx : World} {b7 c7 : Nat} {F : List Bool} {t n i : Nat} (h : RP w5 b7 c7 F t n i wx) {j : Nat} (hj : j < n) : ∃ v, wx.cell? ⟨b7, j, none⟩ = some (.bool v) := by
  obtain ⟨ks, h1, h2, h3, h4⟩ := h
  exact ⟨_, (h4.cell j (by omega)).1⟩
theorem RP.md {w5 wx : World} {b7 c7 : Nat} {F : List Bool} {t n i : Nat} (h : RP w5 b7 c7 F t n i wx) : Mod [b7] w5 wx := by
  obtain ⟨ks, h1, h2, h3, h4⟩ := h; exact h3
theorem RP.mod {w5 wx wy : World} {b7 c7 : Nat} {F : List Bool} {t n i : Nat} (h : RP w5 b7 c7 F t n i wx) (hb : b7 < wx.heap.size) (hm : Mod [] wx wy) : RP w5 b7 c7 F t n i wy := by
  obtain ⟨ks, h1, h2, h3, h4⟩ := h
  exact ⟨ks, h1, h2, h3.trans0 hm, h4.keep (hm.block b7 hb (by simp))⟩
theorem add_block' (a : Addr) (n : Nat) : (a.add n).block = a.block := by unfold Addr.add; split <;> rfl
theorem info4 : (Try.prog.info? 4).map (fun i => (i.zero, i.size, i.bytes)) = some (some (.bool false), 1, 1) := by kernel_rfl
theorem fail_sizes {D : DK} {b : Nat} (hG : Good D b) (keep : List Bool) (torn a : Int) (i : Nat) (hi : i < D.l.length) : (rdOf ByteArray.empty (failD D keep torn a).l (i : Int)).size = 128 := by
  have h := failTo_sizes keep torn (clampAt a) D.l D.row (clampAt_le a) hG.szl hG.szs hG.ats D.row.length (Nat.le_refl _)
  rw [rdOf, Int.toNat_natCast]
  exact getD_size h i (by rw [show (failTo keep torn (clampAt a) D.l D.row D.row.length).length = _ from failTo_len _ _ _ _ _ _]; exact hi)
theorem torn_out {D : DK} {b : Nat} (hG : Good D b) (F ks : List Bool) (t : Nat) (a : Int) (lt : Bool) (htn : t < D.row.length) (hkl : ks.length = D.row.length) (hks : ∀ j, j < D.row.length → ks.getD j false = kw F t j)
    (hl : lt = true ↔ Later ks D.row t (rd_T65 D.row (t : Int)).f0 D.row.length) (i : Nat) (hi : i < D.l.length) :
    (rdOf ByteArray.empty (failD D F (t : Int) a).l (i : Int) = rdOf ByteArray.empty (failD D ks (-1) 0).l (i : Int) ∧ ((i : Int) ≠ (D.row.map (·.f0)).getD t 0 ∨ lt = true)) ∨
    ((i : Int) = (D.row.map (·.f0)).getD t 0 ∧ lt = false ∧ rdOf ByteArray.empty (failD D F (t : Int) a).l (i : Int) = (rdOf ByteArray.empty (failD D (ks.set t true) (-1) 0).l (i : Int)).extract 0 (clampAt a) ++ (rdOf ByteArray.empty (failD D ks (-1) 0).l (i : Int)).extract (clampAt a) (rdOf ByteArray.empty (failD D ks (-1) 0).l (i : Int)).size) := by
  have hT : TK F ks (ks.set t true) t D.row.length := by
    refine ⟨htn, fun j hj => hks j hj, fun j hj => ?_⟩
    by_cases e : j = t
    · subst e
      rw [List.getD_eq_getElem?_getD, List.getElem?_set_self (by omega), decide_eq_true rfl]; rfl
    · rw [List.getD_eq_getElem?_getD, List.getElem?_set_ne (by omega), ← List.getD_eq_getElem?_getD, decide_eq_false e, Bool.false_or]
  have h := torn_end (N := clampAt a) (l := D.l) hT hG.ats i
  simp only [rdOf, Int.toNat_natCast]
  rw [rs_row htn]
  rcases h with ⟨h1, h2⟩ | ⟨⟨h1, h2⟩, h3⟩
  · exact .inl ⟨h1, h2.imp id (fun h => hl.2 h)⟩
  · exact .inr ⟨h1, by cases lt with | false => rfl | true => exact absurd (hl.1 rfl) h2, h3⟩
set_option maxRecDepth 100000 in
set_option maxHeartbeats 4000000 in
theorem torn_walk (A : Option Addr) (c : Nat) (ops : List S25) (o : S25) (KA : Option Addr) (kc : Nat) (w : World)
    (hr : Kd.C k25 w A ops.length ops) (hc : ops.length ≤ c) (hw : ∀ o ∈ ops, o.f2 ≤ 9223372036854775807)
    (hk : Kd.C Kd.bool w KA o.f6.length o.f6) (hkc : o.f6.length ≤ kc) (ho : Op25 o) :
    Calls Try.prog 6 #[.slice A ops.length c, .agg #[.int .i64 o.f0, .int .i64 o.f1, .int .i64 o.f2, .int .i64 o.f3, .int .i64 o.f4, .int .u8 o.f5, .slice KA o.f6.length kc]] w fun e w' => e = .returned (.bool true) ∧ Mod [] w w' := by
  have hm0 := (Mod.refl [] w).alloc (.cells #[.int .i64 o.f0, .int .i64 o.f1, .int .i64 o.f2, .int .i64 o.f3, .int .i64 o.f4, .int .u8 o.f5, .slice KA o.f6.length kc] 25)
  have k0 := blk_new w (.cells #[.int .i64 o.f0, .int .i64 o.f1, .int .i64 o.f2, .int .i64 o.f3, .int .i64 o.f4, .int .u8 o.f5, .slice KA o.f6.length kc] 25)
  have HM0 := Lib.hid hm0
  have HK0 := Lib.hid k0
  have hb0 : w.heap.size < (w.alloc (.cells #[.int .i64 o.f0, .int .i64 o.f1, .int .i64 o.f2, .int .i64 o.f3, .int .i64 o.f4, .int .u8 o.f5, .slice KA o.f6.length kc] 25)).heap.size := blk_lt k0
  have HB0 := Lib.hid hb0
  have HBW := Lib.hid (Nat.le_refl w.heap.size)
  have HO := Lib.hid ho
  clear ho hm0 k0 hb0
  go_enter Try.func6, Try.ntmps6
  go_wp2_with fail
  generalize w.alloc _ = w0 at *
  change Hid (w.heap.size ≤ w.heap.size) at HBW
  generalize hws : w.heap.size = b5 at *
  have HWS := Lib.hid hws
  clear hws
  have hl1 := light_any w0 A c ops (Kd.C_below hr HM0.out.below0) hc
  refine hl1.mono ?_
  rintro e w1 ⟨rfl, hm1⟩
  clear hl1
  have HM1 := Lib.hid (HM0.out.trans0 hm1)
  have HK1 := Lib.hid (hm1.blk HK0.out (by simp))
  have HB1 := Lib.hid (Nat.lt_of_lt_of_le HB0.out hm1.size)
  clear hm1 HM0 HK0 HB0
  cases hL : lightB ops
  · go_wp2_with fail
    refine (lives_any w1).mono ?_
    rintro e w2 ⟨rfl, hm⟩
    have HM := Lib.hid (HM1.out.trans0 hm)
    clear hm
    go_wp2
    go_ret
    exact ⟨rfl, HM.out⟩
  have h60 := light_len hL
  clear hL
  have z6 := (blk_cell HK1.out 6).trans rfl
  by_cases hk1 : 100 < o.f6.length
  · have hk2 : (100 : Int) < (o.f6.length : Int) := by omega
    go_wp2_with fail
    refine (lives_any w1).mono ?_
    rintro e w3 ⟨rfl, hm⟩
    have HM := Lib.hid (HM1.out.trans0 hm)
    clear hm
    go_wp2
    go_ret
    exact ⟨rfl, HM.out⟩
  have hk2 : ¬ (100 : Int) < (o.f6.length : Int) := by omega
  have hpl := played_any A c ops w1 (Kd.C_below hr HM1.out.below0) hc hw h60
  go_wp2_with fail
  refine hpl.mono ?_
  rintro e w2 ⟨g, rfl, fp, hm2, hfp, hD2⟩
  clear hpl z6
  have HG := Lib.hid (run_good ops hw)
  have HL := Lib.hid (run_len4 ops)
  generalize runO ops (newD 4) = D at *
  have hwo := waiting_own w2 fp g D hD2 (HG.out.bnd (by omega)).rl
  have HFP := Lib.hid hfp
  have HD2 := Lib.hid hD2
  have HM2 := Lib.hid (HM1.out.trans0 hm2)
  have HK2 := Lib.hid (hm2.blk HK1.out (by simp))
  have HB2 := Lib.hid (Nat.lt_of_lt_of_le HB1.out hm2.size)
  have HF0 := Lib.hid (show ∀ k, fp k → w.heap.size ≤ k from fun k hk => Nat.le_trans HM1.out.size (hfp k hk))
  have HFB := Lib.hid (show ¬ fp b5 from fun h => by have := hfp b5 h; have := HB1.out; omega)
  clear hfp hD2 hm2
  go_wp2_with fail
  refine hwo.mono ?_
  rintro e w3 ⟨A6, c6, rfl, hc6, hm3, hR3, hA6⟩
  clear hwo
  have HM3 := Lib.hid (HM2.out.trans0 hm3)
  have HK3 := Lib.hid (hm3.blk HK2.out (by simp))
  have HB3 := Lib.hid (Nat.lt_of_lt_of_le HB2.out hm3.size)
  have HFW := Lib.hid HD2.out.lt
  have HD3 := Lib.hid (HD2.out.mod hm3)
  have HR3 := Lib.hid hR3
  have HA6 := Lib.hid hA6
  have HZ3 := Lib.hid hm3.size
  clear hm3 hR3 hA6 HD2 HK2 HB2
  have z3 := (blk_cell HK3.out 3).trans rfl
  have hdw := down_any w3 fp g D HD3.out
  by_cases ht0 : o.f3 < 0
  · go_wp2_with fail
    refine (lives_any w3).mono ?_
    rintro e w4 ⟨rfl, hm⟩
    have HM := Lib.hid (HM3.out.trans0 hm)
    clear hm
    go_wp2
    go_ret
    exact ⟨rfl, HM.out⟩
  by_cases ht1 : o.f3 < (D.row.length : Int)
  case neg =>
    go_wp2_with fail
    refine (lives_any w3).mono ?_
    rintro e w4 ⟨rfl, hm⟩
    have HM := Lib.hid (HM3.out.trans0 hm)
    clear hm
    go_wp2
    go_ret
    exact ⟨rfl, HM.out⟩
  cases hdn : D.down
  case true =>
    rw [hdn] at hdw
    go_wp2_with fail
    refine hdw.mono ?_
    rintro e w4 ⟨rfl, rfl⟩
    clear hdw
    go_wp2_with fail
    refine (lives_any w3).mono ?_
    rintro e w4 ⟨rfl, hm⟩
    have HM := Lib.hid (HM3.out.trans0 hm)
    clear hm
    go_wp2
    go_ret
    exact ⟨rfl, HM.out⟩
  rw [hdn] at hdw
  go_wp2_with fail
  refine hdw.mono ?_
  rintro e w4 ⟨rfl, rfl⟩
  clear hdw
  go_upto_region 9 with fail
  clear z3 hdn
  have HT : Hid (o.f3 = ((o.f3.toNat : Nat) : Int)) := Lib.hid (by omega)
  have htn : o.f3.toNat < D.row.length := by omega
  generalize o.f3.toNat = t at *
  have HRL := Lib.hid (HG.out.bnd (by omega)).rl
  have hrl := HRL.out
  clear ht0 ht1
  go_wp2_with (first | ((with_reducible refine gate_dst (N := 48) rfl ?_); refine Kd.R_make Kd.bool _ 4 rfl (N := 48) rfl 23 _ _ rfl (D.row.length : Int) rfl rfl Try.underlying23 (.bool false) 1 info4 rfl (by decide) (by omega) false (ok := fun k => k = w3.heap.size) (okp := fun _ => False) rfl (fun _ hk => hk.elim) rfl (by omega) (by omega) (Below.refl _ _) (Nat.le_refl _) ?_; intro v5 w5 hown hbl hgr hnw; obtain ⟨g7, c7, rfl, hg7, hg8, _⟩ := Kd.R_form hown (by rw [List.length_replicate]; omega); have hmk := Mod.of_grown hgr; have hg9 := hown.1 g7 (by simp [Value.ownBlock]); subst hg9; clear hg7 hgr hnw hbl))
  have HR7 := Lib.hid (show Row7 w5 w3.heap.size c7 (List.replicate D.row.length false) from Kd.R_lower (by simpa using hown) (Nat.zero_le _))
  have HM5 := Lib.hid (HM3.out.trans0 hmk)
  have HK5 := Lib.hid (hmk.blk HK3.out (by simp))
  have HD5 := Lib.hid (HD3.out.mod hmk)
  have HR5 := Lib.hid (fun (wx : World) (hx : Mod [w3.heap.size] w5 wx) (a : Addr) (ha : A6 = some a) (j : Nat) (hj : j < D.row.length) => show wx.cell? (a.add j) = some (.int .i64 ((D.row.map (·.f0)).getD j 0)) by
    obtain ⟨ad, h1, h2⟩ := HR3.out.2.2 (by omega)
    rw [ha] at h1
    injection h1 with h1
    subst h1
    have hb := HA6.out a ha
    exact hx.cell (hmk.cell (h2 j hj) (by simp)) (fun hq => by
      have h2 := List.mem_singleton.1 hq
      rw [add_block'] at h2
      omega))
  have HR3' := Lib.hid (fun (h : 0 < D.row.length) => HR3.out.2.2 h)
  have HB7 := Lib.hid (show w3.heap.size < w5.heap.size from hg8)
  have HBB := Lib.hid (show w.heap.size ≤ w3.heap.size from HM3.out.size)
  have HZ := Lib.hid (show w2.heap.size ≤ w3.heap.size from HZ3.out)
  have HBW5 := Lib.hid (show b5 < w5.heap.size from Nat.lt_trans HB3.out hg8)
  have HNE := Lib.hid (show b5 ≠ w3.heap.size from Nat.ne_of_lt HB3.out)
  have HFE := Lib.hid (show ∀ k, fp k → k ≠ w3.heap.size from fun k hk => by have := HFW.out k hk; have := HZ3.out; omega)
  simp only [List.length_replicate] at *
  clear hown hmk hg8 HM3 HK3 HD3 HR3
  generalize w3.heap.size = b7 at *
  go_loopw [8, 9] (fun lv iv wr => ∃ i : Nat, lv = .bool (laterK (D.row.map (·.f0)) o.f6 t i) ∧ iv = .int .i64 (i : Int) ∧ i ≤ D.row.length ∧ RP w5 b7 c7 o.f6 t D.row.length i wr) (fun _ iv _ => D.row.length - (intOf iv).toNat)
  case atStart => exact ⟨0, rfl, rfl, Nat.zero_le _, List.replicate D.row.length false, by simp, fun j hj => absurd hj (Nat.not_lt_zero j), Mod.refl _ _, HR7.out⟩
  clear HR7
  case round =>
    obtain ⟨i, rfl, rfl, hi, hP⟩ := hrel
    have HP := Lib.hid hP
    clear hP
    by_cases hlt : i < D.row.length
    · have hlt2 : (i : Int) < (D.row.length : Int) := by omega
      have hi0 : (0 : Int) ≤ (i : Int) := by omega
      have hk5 := HP.out.md.blk HK5.out (by simp; exact HNE.out)
      have z6 := (blk_cell hk5 6).trans rfl
      have z3 := (blk_cell hk5 3).trans rfl
      rw [HT.out] at z3
      have f7 := HP.out.frozen hlt
      obtain ⟨v7, y7⟩ := HP.out.old hlt
      have HMW := Lib.hid (HM5.out.trans HP.out.md (fun k hk => .inr (by rw [List.mem_singleton.1 hk]; exact HBB.out)))
      clear hk5
      have HLS := Lib.hid (laterK_succ (D.row.map (·.f0)) o.f6 t i)
      generalize laterK (D.row.map (·.f0)) o.f6 t i = lt at *
      go_upto_region 14 with fail
      go_cut [] (fun wx => RP w5 b7 c7 o.f6 t D.row.length (i + 1) wx)
      case first =>
        by_cases hkl : i < o.f6.length
        · have hkl2 : (i : Int) < (o.f6.length : Int) := by omega
          obtain ⟨kad, rfl, kq⟩ := Kd.at_bool (Kd.C_below hk HMW.out.below0) (i : Int) hi0 hkl2
          rw [Int.toNat_natCast, show rdOf false o.f6 (i : Int) = o.f6.getD i false from rfl] at kq
          cases hF : o.f6.getD i false
          · rw [hF] at kq
            have HX := Lib.hid (HP.out.put hlt (v := false) (by unfold kw; rw [hF]; rfl))
            clear hF
            go_wp2
            go_meet
            exact HX.out
          · rw [hF] at kq
            by_cases hit : i = t
            · have HX := Lib.hid (HP.out.put hlt (v := false) (by unfold kw; rw [hF, hit]; simp))
              clear hF
              subst hit
              go_wp2
              go_meet
              exact HX.out
            · have HX := Lib.hid (HP.out.put hlt (v := true) (by unfold kw; rw [hF]; simp [hit]))
              have n0 : ((i : Int) != (t : Int)) = true := by simp; omega
              have n1 : (i != t) = true := by simp [hit]
              clear hF
              go_wp2
              go_meet
              exact HX.out
        · have hkl2 : ¬ (i : Int) < (o.f6.length : Int) := by omega
          have HX := Lib.hid (HP.out.put hlt (v := false) (by unfold kw; rw [List.getD_eq_getElem?_getD, List.getElem?_eq_none (by omega)]; rfl))
          go_wp2
          go_meet
          exact HX.out
      case rest =>
        have HC := Lib.hid hcut
        have HCD := Lib.hid (hcut.mod (Nat.lt_of_lt_of_le HB7.out hcut.md.size) (Mod.refl [] wc).drew)
        have hk5 := hcut.md.blk HK5.out (by simp; exact HNE.out)
        have s0x := (blk_cell hk5 3).trans rfl
        rw [HT.out] at s0x
        have s3x := hcut.cell (Nat.lt_succ_self i) (by omega : i + 1 ≤ D.row.length)
        obtain ⟨ra, rfl, _⟩ := HR3'.out (by omega)
        have s1x := HR5.out wc hcut.md ra rfl i hlt
        have s2x := HR5.out wc hcut.md ra rfl t htn
        generalize (D.row.map (·.f0)).getD i 0 = ri at *
        generalize (D.row.map (·.f0)).getD t 0 = rt at *
        generalize kw o.f6 t i = ki at *
        clear hk5 z6 z3 f7 y7 HMW HP hcut
        cases lt
        · by_cases hti : t < i
          · have g0 : decide ((t : Int) < (i : Int)) = true := decide_eq_true (by omega)
            have g0' : (t : Int) < (i : Int) := by omega
            have hi1 : (0 : Int) ≤ (t : Int) := by omega
            have hi2 : (t : Int) < (D.row.length : Int) := by omega
            by_cases hrr : ri = rt
            · have g1 : (ri == rt) = true := by simp [hrr]
              go_upto_region 15 with fail
              refine start_ (n := 26) (S := fun w' => w'.cell? ⟨b5, 3, none⟩ = some (.int .i64 (t : Int)) ∧ w'.cell? (ra.add i) = some (.int .i64 ri) ∧ w'.cell? (ra.add t) = some (.int .i64 rt) ∧ w'.cell? ⟨b7, i, none⟩ = some (.bool ki)) (ds := []) #[false, false, false, false, false, false, false, false, false, false, false, false, false, false, false, false, false, false, false, false, false, false, false, false, false, false] (by kernel_rfl) rfl rfl ⟨s0x, s1x, s2x, s3x⟩ (fun hHeld => ?_)
              refine pure_ (i := 0) (N := some 76) (v := ?_) (a' := ?_) #[true, false, false, false, false, false, false, false, false, false, false, false, false, false, false, false, false, false, false, false, false, false, false, false, false, false] rfl rfl (by kernel_rfl) (fun _ _ _ h => h) (Or.inl ⟨by rfl, ?_⟩) ?_ ?_
              rotate_left
              · intro w'
                go_simp
                with_reducible rfl
              rotate_left
              · simp only [Act.put, List.setIfInBounds_toArray, List.set_cons_zero, List.set_cons_succ, i64_w, i32_w]
                rfl
              refine pure_ (i := 1) (N := some 77) (v := ?_) (a' := ?_) #[true, true, false, false, false, false, false, false, false, false, false, false, false, false, false, false, false, false, false, false, false, false, false, false, false, false] rfl rfl (by kernel_rfl) (fun _ _ _ h => h) (Or.inl ⟨by rfl, ?_⟩) ?_ ?_
              rotate_left
              · intro w'
                go_simp
                with_reducible rfl
              rotate_left
              · simp only [Act.put, List.setIfInBounds_toArray, List.set_cons_zero, List.set_cons_succ, i64_w, i32_w]
                rfl
              refine pure_ (i := 2) (N := some 78) (v := ?_) (a' := ?_) #[true, true, true, false, false, false, false, false, false, false, false, false, false, false, false, false, false, false, false, false, false, false, false, false, false, false] rfl rfl (by kernel_rfl) (fun _ _ _ h => h) (Or.inl ⟨by rfl, ?_⟩) ?_ ?_
              rotate_left
              · intro w'
                go_simp
                with_reducible rfl
              rotate_left
              · simp only [Act.put, List.setIfInBounds_toArray, List.set_cons_zero, List.set_cons_succ, i64_w, i32_w]
                rfl
              refine pure_ (i := 3) (N := some 79) (v := ?_) (a' := ?_) #[true, true, true, true, false, false, false, false, false, false, false, false, false, false, false, false, false, false, false, false, false, false, false, false, false, false] rfl rfl (by kernel_rfl) (fun _ _ _ h => h) (Or.inl ⟨by rfl, ?_⟩) ?_ ?_
              rotate_left
              · intro w'
                go_simp
                with_reducible rfl
              rotate_left
              · simp only [Act.put, List.setIfInBounds_toArray, List.set_cons_zero, List.set_cons_succ, i64_w, i32_w]
                rfl
              refine take_ (i := 4) (N := some 80) (v := ?_) (a' := ?_) #[true, true, true, true, true, false, false, false, false, false, false, false, false, false, false, false, false, false, false, false, false, false, false, false, false, false] rfl rfl (by kernel_rfl) (fun _ _ _ h => h) (Or.inl ⟨by rfl, ?_⟩) hHeld ?_ ?_
              rotate_left
              · rintro w' ⟨s0, s1, s2, s3⟩
                go_simp
                with_reducible rfl
              rotate_left
              · simp only [Act.put, List.setIfInBounds_toArray, List.set_cons_zero, List.set_cons_succ, i64_w, i32_w]
                rfl
              refine pure_ (i := 5) (N := some 81) (v := ?_) (a' := ?_) #[true, true, true, true, true, true, false, false, false, false, false, false, false, false, false, false, false, false, false, false, false, false, false, false, false, false] rfl rfl (by kernel_rfl) (fun _ _ _ h => h) (Or.inl ⟨by rfl, ?_⟩) ?_ ?_
              rotate_left
              · intro w'
                go_simp
                with_reducible rfl
              rotate_left
              · simp only [Act.put, List.setIfInBounds_toArray, List.set_cons_zero, List.set_cons_succ, i64_w, i32_w]
                rfl
              refine pure_ (i := 6) (N := some 82) (v := ?_) (a' := ?_) #[true, true, true, true, true, true, true, false, false, false, false, false, false, false, false, false, false, false, false, false, false, false, false, false, false, false] rfl rfl (by kernel_rfl) (fun _ _ _ h => h) (Or.inl ⟨by rfl, ?_⟩) ?_ ?_
              rotate_left
              · intro w'
                go_simp
                with_reducible rfl
              rotate_left
              · simp only [Act.put, List.setIfInBounds_toArray, List.set_cons_zero, List.set_cons_succ, i64_w, i32_w]
                rfl
              refine pure_ (i := 7) (N := some 83) (v := ?_) (a' := ?_) #[true, true, true, true, true, true, true, true, false, false, false, false, false, false, false, false, false, false, false, false, false, false, false, false, false, false] rfl rfl (by kernel_rfl) (fun _ _ _ h => h) (Or.inl ⟨by rfl, ?_⟩) ?_ ?_
              rotate_left
              · intro w'
                go_simp
                with_reducible rfl
              rotate_left
              · simp only [Act.put, List.setIfInBounds_toArray, List.set_cons_zero, List.set_cons_succ, i64_w, i32_w]
                rfl
              refine pure_ (i := 8) (N := some 84) (v := ?_) (a' := ?_) #[true, true, true, true, true, true, true, true, true, false, false, false, false, false, false, false, false, false, false, false, false, false, false, false, false, false] rfl rfl (by kernel_rfl) (fun _ _ _ h => h) (Or.inl ⟨by rfl, ?_⟩) ?_ ?_
              rotate_left
              · intro w'
                go_simp
                with_reducible rfl
              rotate_left
              · simp only [Act.put, List.setIfInBounds_toArray, List.set_cons_zero, List.set_cons_succ, i64_w, i32_w]
                rfl
              refine pure_ (i := 9) (N := some 85) (v := ?_) (a' := ?_) #[true, true, true, true, true, true, true, true, true, true, false, false, false, false, false, false, false, false, false, false, false, false, false, false, false, false] rfl rfl (by kernel_rfl) (fun _ _ _ h => h) (Or.inl ⟨by rfl, ?_⟩) ?_ ?_
              rotate_left
              · intro w'
                go_simp
                with_reducible rfl
              rotate_left
              · simp only [Act.put, List.setIfInBounds_toArray, List.set_cons_zero, List.set_cons_succ, i64_w, i32_w]
                rfl
              refine pure_ (i := 11) (N := some 87) (v := ?_) (a' := ?_) #[true, true, true, true, true, true, true, true, true, true, false, true, false, false, false, false, false, false, false, false, false, false, false, false, false, false] rfl rfl (by kernel_rfl) (fun _ _ _ h => h) (Or.inl ⟨by rfl, ?_⟩) ?_ ?_
              rotate_left
              · intro w'
                go_simp
                with_reducible rfl
              rotate_left
              · simp only [Act.put, List.setIfInBounds_toArray, List.set_cons_zero, List.set_cons_succ, i64_w, i32_w]
                rfl
              refine pure_ (i := 12) (N := some 88) (v := ?_) (a' := ?_) #[true, true, true, true, true, true, true, true, true, true, false, true, true, false, false, false, false, false, false, false, false, false, false, false, false, false] rfl rfl (by kernel_rfl) (fun _ _ _ h => h) (Or.inl ⟨by rfl, ?_⟩) ?_ ?_
              rotate_left
              · intro w'
                go_simp
                with_reducible rfl
              rotate_left
              · simp only [Act.put, List.setIfInBounds_toArray, List.set_cons_zero, List.set_cons_succ, i64_w, i32_w]
                rfl
              refine take_ (i := 10) (N := some 86) (v := ?_) (a' := ?_) #[true, true, true, true, true, true, true, true, true, true, true, true, true, false, false, false, false, false, false, false, false, false, false, false, false, false] rfl rfl (by kernel_rfl) (fun _ _ _ h => h) (Or.inl ⟨by rfl, ?_⟩) hHeld ?_ ?_
              rotate_left
              · rintro w' ⟨s0, s1, s2, s3⟩
                go_simp
                with_reducible rfl
              rotate_left
              · simp only [Act.put, List.setIfInBounds_toArray, List.set_cons_zero, List.set_cons_succ, i64_w, i32_w]
                rfl
              refine take_ (i := 13) (N := some 89) (v := ?_) (a' := ?_) #[true, true, true, true, true, true, true, true, true, true, true, true, true, true, false, false, false, false, false, false, false, false, false, false, false, false] rfl rfl (by kernel_rfl) (fun _ _ _ h => h) (Or.inl ⟨by rfl, ?_⟩) hHeld ?_ ?_
              rotate_left
              · rintro w' ⟨s0, s1, s2, s3⟩
                go_simp
                with_reducible rfl
              rotate_left
              · simp only [Act.put, List.setIfInBounds_toArray, List.set_cons_zero, List.set_cons_succ, i64_w, i32_w]
                rfl
              refine pure_ (i := 14) (N := some 90) (v := ?_) (a' := ?_) #[true, true, true, true, true, true, true, true, true, true, true, true, true, true, true, false, false, false, false, false, false, false, false, false, false, false] rfl rfl (by kernel_rfl) (fun _ _ _ h => h) (Or.inl ⟨by rfl, ?_⟩) ?_ ?_
              rotate_left
              · intro w'
                go_simp
                with_reducible rfl
              rotate_left
              · simp only [Act.put, List.setIfInBounds_toArray, List.set_cons_zero, List.set_cons_succ, i64_w, i32_w]
                rfl
              refine take_ (i := 15) (N := some 91) (v := ?_) (a' := ?_) #[true, true, true, true, true, true, true, true, true, true, true, true, true, true, true, true, false, false, false, false, false, false, false, false, false, false] rfl rfl (by kernel_rfl) (fun _ _ _ h => h) (Or.inl ⟨by rfl, ?_⟩) hHeld ?_ ?_
              rotate_left
              · rintro w' ⟨s0, s1, s2, s3⟩
                go_simp
                with_reducible rfl
              rotate_left
              · simp only [Act.put, List.setIfInBounds_toArray, List.set_cons_zero, List.set_cons_succ, i64_w, i32_w]
                rfl
              refine pure_ (i := 16) (N := some 92) (v := ?_) (a' := ?_) #[true, true, true, true, true, true, true, true, true, true, true, true, true, true, true, true, true, false, false, false, false, false, false, false, false, false] rfl rfl (by kernel_rfl) (fun _ _ _ h => h) (Or.inl ⟨by rfl, ?_⟩) ?_ ?_
              rotate_left
              · intro w'
                go_simp
                with_reducible rfl
              rotate_left
              · simp only [Act.put, List.setIfInBounds_toArray, List.set_cons_zero, List.set_cons_succ, i64_w, i32_w]
                rfl
              refine pure_ (i := 17) (N := some 93) (v := ?_) (a' := ?_) #[true, true, true, true, true, true, true, true, true, true, true, true, true, true, true, true, true, true, false, false, false, false, false, false, false, false] rfl rfl (by kernel_rfl) (fun _ _ _ h => h) (Or.inl ⟨by rfl, ?_⟩) ?_ ?_
              rotate_left
              · intro w'
                go_simp
                with_reducible rfl
              rotate_left
              · simp only [Act.put, List.setIfInBounds_toArray, List.set_cons_zero, List.set_cons_succ, i64_w, i32_w]
                rfl
              refine pure_ (i := 18) (N := some 94) (v := ?_) (a' := ?_) #[true, true, true, true, true, true, true, true, true, true, true, true, true, true, true, true, true, true, true, false, false, false, false, false, false, false] rfl rfl (by kernel_rfl) (fun _ _ _ h => h) (Or.inl ⟨by rfl, ?_⟩) ?_ ?_
              rotate_left
              · intro w'
                go_simp
                with_reducible rfl
              rotate_left
              · simp only [Act.put, List.setIfInBounds_toArray, List.set_cons_zero, List.set_cons_succ, i64_w, i32_w]
                rfl
              refine pure_ (i := 19) (N := some 95) (v := ?_) (a' := ?_) #[true, true, true, true, true, true, true, true, true, true, true, true, true, true, true, true, true, true, true, true, false, false, false, false, false, false] rfl rfl (by kernel_rfl) (fun _ _ _ h => h) (Or.inl ⟨by rfl, ?_⟩) ?_ ?_
              rotate_left
              · intro w'
                go_simp
                with_reducible rfl
              rotate_left
              · simp only [Act.put, List.setIfInBounds_toArray, List.set_cons_zero, List.set_cons_succ, i64_w, i32_w]
                rfl
              refine pure_ (i := 20) (N := some 96) (v := ?_) (a' := ?_) #[true, true, true, true, true, true, true, true, true, true, true, true, true, true, true, true, true, true, true, true, true, false, false, false, false, false] rfl rfl (by kernel_rfl) (fun _ _ _ h => h) (Or.inl ⟨by rfl, ?_⟩) ?_ ?_
              rotate_left
              · intro w'
                go_simp
                with_reducible rfl
              rotate_left
              · simp only [Act.put, List.setIfInBounds_toArray, List.set_cons_zero, List.set_cons_succ, i64_w, i32_w]
                rfl
              refine pure_ (i := 21) (N := some 97) (v := ?_) (a' := ?_) #[true, true, true, true, true, true, true, true, true, true, true, true, true, true, true, true, true, true, true, true, true, true, false, false, false, false] rfl rfl (by kernel_rfl) (fun _ _ _ h => h) (Or.inl ⟨by rfl, ?_⟩) ?_ ?_
              rotate_left
              · intro w'
                go_simp
                with_reducible rfl
              rotate_left
              · simp only [Act.put, List.setIfInBounds_toArray, List.set_cons_zero, List.set_cons_succ, i64_w, i32_w]
                rfl
              refine take_ (i := 22) (N := some 98) (v := ?_) (a' := ?_) #[true, true, true, true, true, true, true, true, true, true, true, true, true, true, true, true, true, true, true, true, true, true, true, false, false, false] rfl rfl (by kernel_rfl) (fun _ _ _ h => h) (Or.inl ⟨by rfl, ?_⟩) hHeld ?_ ?_
              rotate_left
              · rintro w' ⟨s0, s1, s2, s3⟩
                go_simp
                with_reducible rfl
              rotate_left
              · simp only [Act.put, List.setIfInBounds_toArray, List.set_cons_zero, List.set_cons_succ, i64_w, i32_w]
                rfl
              refine pure_ (i := 23) (N := some 99) (v := ?_) (a' := ?_) #[true, true, true, true, true, true, true, true, true, true, true, true, true, true, true, true, true, true, true, true, true, true, true, true, false, false] rfl rfl (by kernel_rfl) (fun _ _ _ h => h) (Or.inl ⟨by rfl, ?_⟩) ?_ ?_
              rotate_left
              · intro w'
                go_simp
                with_reducible rfl
              rotate_left
              · simp only [Act.put, List.setIfInBounds_toArray, List.set_cons_zero, List.set_cons_succ, i64_w, i32_w]
                rfl
              refine pure_ (i := 24) (N := some 100) (v := ?_) (a' := ?_) #[true, true, true, true, true, true, true, true, true, true, true, true, true, true, true, true, true, true, true, true, true, true, true, true, true, false] rfl rfl (by kernel_rfl) (fun _ _ _ h => h) (Or.inl ⟨by rfl, ?_⟩) ?_ ?_
              rotate_left
              · intro w'
                go_simp
                with_reducible rfl
              rotate_left
              · simp only [Act.put, List.setIfInBounds_toArray, List.set_cons_zero, List.set_cons_succ, i64_w, i32_w]
                rfl
              refine pure_ (i := 25) (N := some 8) (v := ?_) (a' := ?_) #[true, true, true, true, true, true, true, true, true, true, true, true, true, true, true, true, true, true, true, true, true, true, true, true, true, true] rfl rfl (by kernel_rfl) (fun _ _ _ h => h) (Or.inl ⟨by rfl, ?_⟩) ?_ ?_
              rotate_left
              · intro w'
                go_simp
                with_reducible rfl
              rotate_left
              · simp only [Act.put, List.setIfInBounds_toArray, List.set_cons_zero, List.set_cons_succ, i64_w, i32_w]
                rfl
              refine done_ (by kernel_rfl) ?_
              go_wp2
              refine ⟨⟨i + 1, by rw [HLS.out]; simp [hti, hrr], by go_num, by omega, HCD.out⟩, ?_⟩
              simp [intOf]; omega
            · have g1 : (ri == rt) = false := by simp [hrr]
              go_upto_region 15 with fail
              refine start_ (n := 26) (S := fun w' => w'.cell? ⟨b5, 3, none⟩ = some (.int .i64 (t : Int)) ∧ w'.cell? (ra.add i) = some (.int .i64 ri) ∧ w'.cell? (ra.add t) = some (.int .i64 rt) ∧ w'.cell? ⟨b7, i, none⟩ = some (.bool ki)) (ds := []) #[false, false, false, false, false, false, false, false, false, false, false, false, false, false, false, false, false, false, false, false, false, false, false, false, false, false] (by kernel_rfl) rfl rfl ⟨s0x, s1x, s2x, s3x⟩ (fun hHeld => ?_)
              refine pure_ (i := 0) (N := some 76) (v := ?_) (a' := ?_) #[true, false, false, false, false, false, false, false, false, false, false, false, false, false, false, false, false, false, false, false, false, false, false, false, false, false] rfl rfl (by kernel_rfl) (fun _ _ _ h => h) (Or.inl ⟨by rfl, ?_⟩) ?_ ?_
              rotate_left
              · intro w'
                go_simp
                with_reducible rfl
              rotate_left
              · simp only [Act.put, List.setIfInBounds_toArray, List.set_cons_zero, List.set_cons_succ, i64_w, i32_w]
                rfl
              refine pure_ (i := 1) (N := some 77) (v := ?_) (a' := ?_) #[true, true, false, false, false, false, false, false, false, false, false, false, false, false, false, false, false, false, false, false, false, false, false, false, false, false] rfl rfl (by kernel_rfl) (fun _ _ _ h => h) (Or.inl ⟨by rfl, ?_⟩) ?_ ?_
              rotate_left
              · intro w'
                go_simp
                with_reducible rfl
              rotate_left
              · simp only [Act.put, List.setIfInBounds_toArray, List.set_cons_zero, List.set_cons_succ, i64_w, i32_w]
                rfl
              refine pure_ (i := 2) (N := some 78) (v := ?_) (a' := ?_) #[true, true, true, false, false, false, false, false, false, false, false, false, false, false, false, false, false, false, false, false, false, false, false, false, false, false] rfl rfl (by kernel_rfl) (fun _ _ _ h => h) (Or.inl ⟨by rfl, ?_⟩) ?_ ?_
              rotate_left
              · intro w'
                go_simp
                with_reducible rfl
              rotate_left
              · simp only [Act.put, List.setIfInBounds_toArray, List.set_cons_zero, List.set_cons_succ, i64_w, i32_w]
                rfl
              refine pure_ (i := 3) (N := some 79) (v := ?_) (a' := ?_) #[true, true, true, true, false, false, false, false, false, false, false, false, false, false, false, false, false, false, false, false, false, false, false, false, false, false] rfl rfl (by kernel_rfl) (fun _ _ _ h => h) (Or.inl ⟨by rfl, ?_⟩) ?_ ?_
              rotate_left
              · intro w'
                go_simp
                with_reducible rfl
              rotate_left
              · simp only [Act.put, List.setIfInBounds_toArray, List.set_cons_zero, List.set_cons_succ, i64_w, i32_w]
                rfl
              refine take_ (i := 4) (N := some 80) (v := ?_) (a' := ?_) #[true, true, true, true, true, false, false, false, false, false, false, false, false, false, false, false, false, false, false, false, false, false, false, false, false, false] rfl rfl (by kernel_rfl) (fun _ _ _ h => h) (Or.inl ⟨by rfl, ?_⟩) hHeld ?_ ?_
              rotate_left
              · rintro w' ⟨s0, s1, s2, s3⟩
                go_simp
                with_reducible rfl
              rotate_left
              · simp only [Act.put, List.setIfInBounds_toArray, List.set_cons_zero, List.set_cons_succ, i64_w, i32_w]
                rfl
              refine pure_ (i := 5) (N := some 81) (v := ?_) (a' := ?_) #[true, true, true, true, true, true, false, false, false, false, false, false, false, false, false, false, false, false, false, false, false, false, false, false, false, false] rfl rfl (by kernel_rfl) (fun _ _ _ h => h) (Or.inl ⟨by rfl, ?_⟩) ?_ ?_
              rotate_left
              · intro w'
                go_simp
                with_reducible rfl
              rotate_left
              · simp only [Act.put, List.setIfInBounds_toArray, List.set_cons_zero, List.set_cons_succ, i64_w, i32_w]
                rfl
              refine pure_ (i := 6) (N := some 82) (v := ?_) (a' := ?_) #[true, true, true, true, true, true, true, false, false, false, false, false, false, false, false, false, false, false, false, false, false, false, false, false, false, false] rfl rfl (by kernel_rfl) (fun _ _ _ h => h) (Or.inl ⟨by rfl, ?_⟩) ?_ ?_
              rotate_left
              · intro w'
                go_simp
                with_reducible rfl
              rotate_left
              · simp only [Act.put, List.setIfInBounds_toArray, List.set_cons_zero, List.set_cons_succ, i64_w, i32_w]
                rfl
              refine pure_ (i := 7) (N := some 83) (v := ?_) (a' := ?_) #[true, true, true, true, true, true, true, true, false, false, false, false, false, false, false, false, false, false, false, false, false, false, false, false, false, false] rfl rfl (by kernel_rfl) (fun _ _ _ h => h) (Or.inl ⟨by rfl, ?_⟩) ?_ ?_
              rotate_left
              · intro w'
                go_simp
                with_reducible rfl
              rotate_left
              · simp only [Act.put, List.setIfInBounds_toArray, List.set_cons_zero, List.set_cons_succ, i64_w, i32_w]
                rfl
              refine pure_ (i := 8) (N := some 84) (v := ?_) (a' := ?_) #[true, true, true, true, true, true, true, true, true, false, false, false, false, false, false, false, false, false, false, false, false, false, false, false, false, false] rfl rfl (by kernel_rfl) (fun _ _ _ h => h) (Or.inl ⟨by rfl, ?_⟩) ?_ ?_
              rotate_left
              · intro w'
                go_simp
                with_reducible rfl
              rotate_left
              · simp only [Act.put, List.setIfInBounds_toArray, List.set_cons_zero, List.set_cons_succ, i64_w, i32_w]
                rfl
              refine pure_ (i := 9) (N := some 85) (v := ?_) (a' := ?_) #[true, true, true, true, true, true, true, true, true, true, false, false, false, false, false, false, false, false, false, false, false, false, false, false, false, false] rfl rfl (by kernel_rfl) (fun _ _ _ h => h) (Or.inl ⟨by rfl, ?_⟩) ?_ ?_
              rotate_left
              · intro w'
                go_simp
                with_reducible rfl
              rotate_left
              · simp only [Act.put, List.setIfInBounds_toArray, List.set_cons_zero, List.set_cons_succ, i64_w, i32_w]
                rfl
              refine pure_ (i := 11) (N := some 87) (v := ?_) (a' := ?_) #[true, true, true, true, true, true, true, true, true, true, false, true, false, false, false, false, false, false, false, false, false, false, false, false, false, false] rfl rfl (by kernel_rfl) (fun _ _ _ h => h) (Or.inl ⟨by rfl, ?_⟩) ?_ ?_
              rotate_left
              · intro w'
                go_simp
                with_reducible rfl
              rotate_left
              · simp only [Act.put, List.setIfInBounds_toArray, List.set_cons_zero, List.set_cons_succ, i64_w, i32_w]
                rfl
              refine pure_ (i := 12) (N := some 88) (v := ?_) (a' := ?_) #[true, true, true, true, true, true, true, true, true, true, false, true, true, false, false, false, false, false, false, false, false, false, false, false, false, false] rfl rfl (by kernel_rfl) (fun _ _ _ h => h) (Or.inl ⟨by rfl, ?_⟩) ?_ ?_
              rotate_left
              · intro w'
                go_simp
                with_reducible rfl
              rotate_left
              · simp only [Act.put, List.setIfInBounds_toArray, List.set_cons_zero, List.set_cons_succ, i64_w, i32_w]
                rfl
              refine take_ (i := 10) (N := some 86) (v := ?_) (a' := ?_) #[true, true, true, true, true, true, true, true, true, true, true, true, true, false, false, false, false, false, false, false, false, false, false, false, false, false] rfl rfl (by kernel_rfl) (fun _ _ _ h => h) (Or.inl ⟨by rfl, ?_⟩) hHeld ?_ ?_
              rotate_left
              · rintro w' ⟨s0, s1, s2, s3⟩
                go_simp
                with_reducible rfl
              rotate_left
              · simp only [Act.put, List.setIfInBounds_toArray, List.set_cons_zero, List.set_cons_succ, i64_w, i32_w]
                rfl
              refine take_ (i := 13) (N := some 89) (v := ?_) (a' := ?_) #[true, true, true, true, true, true, true, true, true, true, true, true, true, true, false, false, false, false, false, false, false, false, false, false, false, false] rfl rfl (by kernel_rfl) (fun _ _ _ h => h) (Or.inl ⟨by rfl, ?_⟩) hHeld ?_ ?_
              rotate_left
              · rintro w' ⟨s0, s1, s2, s3⟩
                go_simp
                with_reducible rfl
              rotate_left
              · simp only [Act.put, List.setIfInBounds_toArray, List.set_cons_zero, List.set_cons_succ, i64_w, i32_w]
                rfl
              refine pure_ (i := 14) (N := some 90) (v := ?_) (a' := ?_) #[true, true, true, true, true, true, true, true, true, true, true, true, true, true, true, false, false, false, false, false, false, false, false, false, false, false] rfl rfl (by kernel_rfl) (fun _ _ _ h => h) (Or.inl ⟨by rfl, ?_⟩) ?_ ?_
              rotate_left
              · intro w'
                go_simp
                with_reducible rfl
              rotate_left
              · simp only [Act.put, List.setIfInBounds_toArray, List.set_cons_zero, List.set_cons_succ, i64_w, i32_w]
                rfl
              refine take_ (i := 15) (N := some 91) (v := ?_) (a' := ?_) #[true, true, true, true, true, true, true, true, true, true, true, true, true, true, true, true, false, false, false, false, false, false, false, false, false, false] rfl rfl (by kernel_rfl) (fun _ _ _ h => h) (Or.inl ⟨by rfl, ?_⟩) hHeld ?_ ?_
              rotate_left
              · rintro w' ⟨s0, s1, s2, s3⟩
                go_simp
                with_reducible rfl
              rotate_left
              · simp only [Act.put, List.setIfInBounds_toArray, List.set_cons_zero, List.set_cons_succ, i64_w, i32_w]
                rfl
              refine pure_ (i := 16) (N := some 92) (v := ?_) (a' := ?_) #[true, true, true, true, true, true, true, true, true, true, true, true, true, true, true, true, true, false, false, false, false, false, false, false, false, false] rfl rfl (by kernel_rfl) (fun _ _ _ h => h) (Or.inl ⟨by rfl, ?_⟩) ?_ ?_
              rotate_left
              · intro w'
                go_simp
                with_reducible rfl
              rotate_left
              · simp only [Act.put, List.setIfInBounds_toArray, List.set_cons_zero, List.set_cons_succ, i64_w, i32_w]
                rfl
              refine pure_ (i := 17) (N := some 93) (v := ?_) (a' := ?_) #[true, true, true, true, true, true, true, true, true, true, true, true, true, true, true, true, true, true, false, false, false, false, false, false, false, false] rfl rfl (by kernel_rfl) (fun _ _ _ h => h) (Or.inl ⟨by rfl, ?_⟩) ?_ ?_
              rotate_left
              · intro w'
                go_simp
                with_reducible rfl
              rotate_left
              · simp only [Act.put, List.setIfInBounds_toArray, List.set_cons_zero, List.set_cons_succ, i64_w, i32_w]
                rfl
              refine pure_ (i := 18) (N := some 94) (v := ?_) (a' := ?_) #[true, true, true, true, true, true, true, true, true, true, true, true, true, true, true, true, true, true, true, false, false, false, false, false, false, false] rfl rfl (by kernel_rfl) (fun _ _ _ h => h) (Or.inl ⟨by rfl, ?_⟩) ?_ ?_
              rotate_left
              · intro w'
                go_simp
                with_reducible rfl
              rotate_left
              · simp only [Act.put, List.setIfInBounds_toArray, List.set_cons_zero, List.set_cons_succ, i64_w, i32_w]
                rfl
              refine pure_ (i := 19) (N := some 95) (v := undef) (a' := ?_) #[true, true, true, true, true, true, true, true, true, true, true, true, true, true, true, true, true, true, true, true, false, false, false, false, false, false] rfl rfl (by kernel_rfl) (fun _ _ _ h => h) (Or.inr ⟨by rfl, rfl⟩) ?_ ?_
              rotate_left
              · simp only [Act.put, List.setIfInBounds_toArray, List.set_cons_zero, List.set_cons_succ, i64_w, i32_w]
                rfl
              refine pure_ (i := 20) (N := some 96) (v := undef) (a' := ?_) #[true, true, true, true, true, true, true, true, true, true, true, true, true, true, true, true, true, true, true, true, true, false, false, false, false, false] rfl rfl (by kernel_rfl) (fun _ _ _ h => h) (Or.inr ⟨by rfl, rfl⟩) ?_ ?_
              rotate_left
              · simp only [Act.put, List.setIfInBounds_toArray, List.set_cons_zero, List.set_cons_succ, i64_w, i32_w]
                rfl
              refine pure_ (i := 21) (N := some 97) (v := undef) (a' := ?_) #[true, true, true, true, true, true, true, true, true, true, true, true, true, true, true, true, true, true, true, true, true, true, false, false, false, false] rfl rfl (by kernel_rfl) (fun _ _ _ h => h) (Or.inr ⟨by rfl, rfl⟩) ?_ ?_
              rotate_left
              · simp only [Act.put, List.setIfInBounds_toArray, List.set_cons_zero, List.set_cons_succ, i64_w, i32_w]
                rfl
              refine pure_ (i := 22) (N := some 98) (v := undef) (a' := ?_) #[true, true, true, true, true, true, true, true, true, true, true, true, true, true, true, true, true, true, true, true, true, true, true, false, false, false] rfl rfl (by kernel_rfl) (fun _ _ _ h => h) (Or.inr ⟨by rfl, rfl⟩) ?_ ?_
              rotate_left
              · simp only [Act.put, List.setIfInBounds_toArray, List.set_cons_zero, List.set_cons_succ, i64_w, i32_w]
                rfl
              refine pure_ (i := 23) (N := some 99) (v := ?_) (a' := ?_) #[true, true, true, true, true, true, true, true, true, true, true, true, true, true, true, true, true, true, true, true, true, true, true, true, false, false] rfl rfl (by kernel_rfl) (fun _ _ _ h => h) (Or.inl ⟨by rfl, ?_⟩) ?_ ?_
              rotate_left
              · intro w'
                go_simp
                with_reducible rfl
              rotate_left
              · simp only [Act.put, List.setIfInBounds_toArray, List.set_cons_zero, List.set_cons_succ, i64_w, i32_w]
                rfl
              refine pure_ (i := 24) (N := some 100) (v := ?_) (a' := ?_) #[true, true, true, true, true, true, true, true, true, true, true, true, true, true, true, true, true, true, true, true, true, true, true, true, true, false] rfl rfl (by kernel_rfl) (fun _ _ _ h => h) (Or.inl ⟨by rfl, ?_⟩) ?_ ?_
              rotate_left
              · intro w'
                go_simp
                with_reducible rfl
              rotate_left
              · simp only [Act.put, List.setIfInBounds_toArray, List.set_cons_zero, List.set_cons_succ, i64_w, i32_w]
                rfl
              refine pure_ (i := 25) (N := some 8) (v := ?_) (a' := ?_) #[true, true, true, true, true, true, true, true, true, true, true, true, true, true, true, true, true, true, true, true, true, true, true, true, true, true] rfl rfl (by kernel_rfl) (fun _ _ _ h => h) (Or.inl ⟨by rfl, ?_⟩) ?_ ?_
              rotate_left
              · intro w'
                go_simp
                with_reducible rfl
              rotate_left
              · simp only [Act.put, List.setIfInBounds_toArray, List.set_cons_zero, List.set_cons_succ, i64_w, i32_w]
                rfl
              refine done_ (by kernel_rfl) ?_
              go_wp2
              refine ⟨⟨i + 1, by rw [HLS.out]; simp [hti, hrr], by go_num, by omega, HCD.out⟩, ?_⟩
              simp [intOf]; omega
          · have g0 : decide ((t : Int) < (i : Int)) = false := decide_eq_false (by omega)
            go_upto_region 15 with fail
            refine start_ (n := 26) (S := fun w' => w'.cell? ⟨b5, 3, none⟩ = some (.int .i64 (t : Int)) ∧ w'.cell? (ra.add i) = some (.int .i64 ri) ∧ w'.cell? (ra.add t) = some (.int .i64 rt) ∧ w'.cell? ⟨b7, i, none⟩ = some (.bool ki)) (ds := []) #[false, false, false, false, false, false, false, false, false, false, false, false, false, false, false, false, false, false, false, false, false, false, false, false, false, false] (by kernel_rfl) rfl rfl ⟨s0x, s1x, s2x, s3x⟩ (fun hHeld => ?_)
            refine pure_ (i := 0) (N := some 76) (v := ?_) (a' := ?_) #[true, false, false, false, false, false, false, false, false, false, false, false, false, false, false, false, false, false, false, false, false, false, false, false, false, false] rfl rfl (by kernel_rfl) (fun _ _ _ h => h) (Or.inl ⟨by rfl, ?_⟩) ?_ ?_
            rotate_left
            · intro w'
              go_simp
              with_reducible rfl
            rotate_left
            · simp only [Act.put, List.setIfInBounds_toArray, List.set_cons_zero, List.set_cons_succ, i64_w, i32_w]
              rfl
            refine pure_ (i := 1) (N := some 77) (v := ?_) (a' := ?_) #[true, true, false, false, false, false, false, false, false, false, false, false, false, false, false, false, false, false, false, false, false, false, false, false, false, false] rfl rfl (by kernel_rfl) (fun _ _ _ h => h) (Or.inl ⟨by rfl, ?_⟩) ?_ ?_
            rotate_left
            · intro w'
              go_simp
              with_reducible rfl
            rotate_left
            · simp only [Act.put, List.setIfInBounds_toArray, List.set_cons_zero, List.set_cons_succ, i64_w, i32_w]
              rfl
            refine pure_ (i := 2) (N := some 78) (v := ?_) (a' := ?_) #[true, true, true, false, false, false, false, false, false, false, false, false, false, false, false, false, false, false, false, false, false, false, false, false, false, false] rfl rfl (by kernel_rfl) (fun _ _ _ h => h) (Or.inl ⟨by rfl, ?_⟩) ?_ ?_
            rotate_left
            · intro w'
              go_simp
              with_reducible rfl
            rotate_left
            · simp only [Act.put, List.setIfInBounds_toArray, List.set_cons_zero, List.set_cons_succ, i64_w, i32_w]
              rfl
            refine pure_ (i := 3) (N := some 79) (v := ?_) (a' := ?_) #[true, true, true, true, false, false, false, false, false, false, false, false, false, false, false, false, false, false, false, false, false, false, false, false, false, false] rfl rfl (by kernel_rfl) (fun _ _ _ h => h) (Or.inl ⟨by rfl, ?_⟩) ?_ ?_
            rotate_left
            · intro w'
              go_simp
              with_reducible rfl
            rotate_left
            · simp only [Act.put, List.setIfInBounds_toArray, List.set_cons_zero, List.set_cons_succ, i64_w, i32_w]
              rfl
            refine take_ (i := 4) (N := some 80) (v := ?_) (a' := ?_) #[true, true, true, true, true, false, false, false, false, false, false, false, false, false, false, false, false, false, false, false, false, false, false, false, false, false] rfl rfl (by kernel_rfl) (fun _ _ _ h => h) (Or.inl ⟨by rfl, ?_⟩) hHeld ?_ ?_
            rotate_left
            · rintro w' ⟨s0, s1, s2, s3⟩
              go_simp
              with_reducible rfl
            rotate_left
            · simp only [Act.put, List.setIfInBounds_toArray, List.set_cons_zero, List.set_cons_succ, i64_w, i32_w]
              rfl
            refine pure_ (i := 5) (N := some 81) (v := ?_) (a' := ?_) #[true, true, true, true, true, true, false, false, false, false, false, false, false, false, false, false, false, false, false, false, false, false, false, false, false, false] rfl rfl (by kernel_rfl) (fun _ _ _ h => h) (Or.inl ⟨by rfl, ?_⟩) ?_ ?_
            rotate_left
            · intro w'
              go_simp
              with_reducible rfl
            rotate_left
            · simp only [Act.put, List.setIfInBounds_toArray, List.set_cons_zero, List.set_cons_succ, i64_w, i32_w]
              rfl
            refine pure_ (i := 6) (N := some 82) (v := ?_) (a' := ?_) #[true, true, true, true, true, true, true, false, false, false, false, false, false, false, false, false, false, false, false, false, false, false, false, false, false, false] rfl rfl (by kernel_rfl) (fun _ _ _ h => h) (Or.inl ⟨by rfl, ?_⟩) ?_ ?_
            rotate_left
            · intro w'
              go_simp
              with_reducible rfl
            rotate_left
            · simp only [Act.put, List.setIfInBounds_toArray, List.set_cons_zero, List.set_cons_succ, i64_w, i32_w]
              rfl
            refine pure_ (i := 7) (N := some 83) (v := undef) (a' := ?_) #[true, true, true, true, true, true, true, true, false, false, false, false, false, false, false, false, false, false, false, false, false, false, false, false, false, false] rfl rfl (by kernel_rfl) (fun _ _ _ h => h) (Or.inr ⟨by rfl, rfl⟩) ?_ ?_
            rotate_left
            · simp only [Act.put, List.setIfInBounds_toArray, List.set_cons_zero, List.set_cons_succ, i64_w, i32_w]
              rfl
            refine pure_ (i := 8) (N := some 84) (v := undef) (a' := ?_) #[true, true, true, true, true, true, true, true, true, false, false, false, false, false, false, false, false, false, false, false, false, false, false, false, false, false] rfl rfl (by kernel_rfl) (fun _ _ _ h => h) (Or.inr ⟨by rfl, rfl⟩) ?_ ?_
            rotate_left
            · simp only [Act.put, List.setIfInBounds_toArray, List.set_cons_zero, List.set_cons_succ, i64_w, i32_w]
              rfl
            refine pure_ (i := 9) (N := some 85) (v := undef) (a' := ?_) #[true, true, true, true, true, true, true, true, true, true, false, false, false, false, false, false, false, false, false, false, false, false, false, false, false, false] rfl rfl (by kernel_rfl) (fun _ _ _ h => h) (Or.inr ⟨by rfl, rfl⟩) ?_ ?_
            rotate_left
            · simp only [Act.put, List.setIfInBounds_toArray, List.set_cons_zero, List.set_cons_succ, i64_w, i32_w]
              rfl
            refine pure_ (i := 10) (N := some 86) (v := undef) (a' := ?_) #[true, true, true, true, true, true, true, true, true, true, true, false, false, false, false, false, false, false, false, false, false, false, false, false, false, false] rfl rfl (by kernel_rfl) (fun _ _ _ h => h) (Or.inr ⟨by rfl, rfl⟩) ?_ ?_
            rotate_left
            · simp only [Act.put, List.setIfInBounds_toArray, List.set_cons_zero, List.set_cons_succ, i64_w, i32_w]
              rfl
            refine pure_ (i := 11) (N := some 87) (v := undef) (a' := ?_) #[true, true, true, true, true, true, true, true, true, true, true, true, false, false, false, false, false, false, false, false, false, false, false, false, false, false] rfl rfl (by kernel_rfl) (fun _ _ _ h => h) (Or.inr ⟨by rfl, rfl⟩) ?_ ?_
            rotate_left
            · simp only [Act.put, List.setIfInBounds_toArray, List.set_cons_zero, List.set_cons_succ, i64_w, i32_w]
              rfl
            refine pure_ (i := 12) (N := some 88) (v := undef) (a' := ?_) #[true, true, true, true, true, true, true, true, true, true, true, true, true, false, false, false, false, false, false, false, false, false, false, false, false, false] rfl rfl (by kernel_rfl) (fun _ _ _ h => h) (Or.inr ⟨by rfl, rfl⟩) ?_ ?_
            rotate_left
            · simp only [Act.put, List.setIfInBounds_toArray, List.set_cons_zero, List.set_cons_succ, i64_w, i32_w]
              rfl
            refine pure_ (i := 13) (N := some 89) (v := undef) (a' := ?_) #[true, true, true, true, true, true, true, true, true, true, true, true, true, true, false, false, false, false, false, false, false, false, false, false, false, false] rfl rfl (by kernel_rfl) (fun _ _ _ h => h) (Or.inr ⟨by rfl, rfl⟩) ?_ ?_
            rotate_left
            · simp only [Act.put, List.setIfInBounds_toArray, List.set_cons_zero, List.set_cons_succ, i64_w, i32_w]
              rfl
            refine pure_ (i := 14) (N := some 90) (v := undef) (a' := ?_) #[true, true, true, true, true, true, true, true, true, true, true, true, true, true, true, false, false, false, false, false, false, false, false, false, false, false] rfl rfl (by kernel_rfl) (fun _ _ _ h => h) (Or.inr ⟨by rfl, rfl⟩) ?_ ?_
            rotate_left
            · simp only [Act.put, List.setIfInBounds_toArray, List.set_cons_zero, List.set_cons_succ, i64_w, i32_w]
              rfl
            refine pure_ (i := 15) (N := some 91) (v := undef) (a' := ?_) #[true, true, true, true, true, true, true, true, true, true, true, true, true, true, true, true, false, false, false, false, false, false, false, false, false, false] rfl rfl (by kernel_rfl) (fun _ _ _ h => h) (Or.inr ⟨by rfl, rfl⟩) ?_ ?_
            rotate_left
            · simp only [Act.put, List.setIfInBounds_toArray, List.set_cons_zero, List.set_cons_succ, i64_w, i32_w]
              rfl
            refine pure_ (i := 16) (N := some 92) (v := undef) (a' := ?_) #[true, true, true, true, true, true, true, true, true, true, true, true, true, true, true, true, true, false, false, false, false, false, false, false, false, false] rfl rfl (by kernel_rfl) (fun _ _ _ h => h) (Or.inr ⟨by rfl, rfl⟩) ?_ ?_
            rotate_left
            · simp only [Act.put, List.setIfInBounds_toArray, List.set_cons_zero, List.set_cons_succ, i64_w, i32_w]
              rfl
            refine pure_ (i := 17) (N := some 93) (v := ?_) (a' := ?_) #[true, true, true, true, true, true, true, true, true, true, true, true, true, true, true, true, true, true, false, false, false, false, false, false, false, false] rfl rfl (by kernel_rfl) (fun _ _ _ h => h) (Or.inl ⟨by rfl, ?_⟩) ?_ ?_
            rotate_left
            · intro w'
              go_simp
              with_reducible rfl
            rotate_left
            · simp only [Act.put, List.setIfInBounds_toArray, List.set_cons_zero, List.set_cons_succ, i64_w, i32_w]
              rfl
            refine pure_ (i := 18) (N := some 94) (v := ?_) (a' := ?_) #[true, true, true, true, true, true, true, true, true, true, true, true, true, true, true, true, true, true, true, false, false, false, false, false, false, false] rfl rfl (by kernel_rfl) (fun _ _ _ h => h) (Or.inl ⟨by rfl, ?_⟩) ?_ ?_
            rotate_left
            · intro w'
              go_simp
              with_reducible rfl
            rotate_left
            · simp only [Act.put, List.setIfInBounds_toArray, List.set_cons_zero, List.set_cons_succ, i64_w, i32_w]
              rfl
            refine pure_ (i := 19) (N := some 95) (v := undef) (a' := ?_) #[true, true, true, true, true, true, true, true, true, true, true, true, true, true, true, true, true, true, true, true, false, false, false, false, false, false] rfl rfl (by kernel_rfl) (fun _ _ _ h => h) (Or.inr ⟨by rfl, rfl⟩) ?_ ?_
            rotate_left
            · simp only [Act.put, List.setIfInBounds_toArray, List.set_cons_zero, List.set_cons_succ, i64_w, i32_w]
              rfl
            refine pure_ (i := 20) (N := some 96) (v := undef) (a' := ?_) #[true, true, true, true, true, true, true, true, true, true, true, true, true, true, true, true, true, true, true, true, true, false, false, false, false, false] rfl rfl (by kernel_rfl) (fun _ _ _ h => h) (Or.inr ⟨by rfl, rfl⟩) ?_ ?_
            rotate_left
            · simp only [Act.put, List.setIfInBounds_toArray, List.set_cons_zero, List.set_cons_succ, i64_w, i32_w]
              rfl
            refine pure_ (i := 21) (N := some 97) (v := undef) (a' := ?_) #[true, true, true, true, true, true, true, true, true, true, true, true, true, true, true, true, true, true, true, true, true, true, false, false, false, false] rfl rfl (by kernel_rfl) (fun _ _ _ h => h) (Or.inr ⟨by rfl, rfl⟩) ?_ ?_
            rotate_left
            · simp only [Act.put, List.setIfInBounds_toArray, List.set_cons_zero, List.set_cons_succ, i64_w, i32_w]
              rfl
            refine pure_ (i := 22) (N := some 98) (v := undef) (a' := ?_) #[true, true, true, true, true, true, true, true, true, true, true, true, true, true, true, true, true, true, true, true, true, true, true, false, false, false] rfl rfl (by kernel_rfl) (fun _ _ _ h => h) (Or.inr ⟨by rfl, rfl⟩) ?_ ?_
            rotate_left
            · simp only [Act.put, List.setIfInBounds_toArray, List.set_cons_zero, List.set_cons_succ, i64_w, i32_w]
              rfl
            refine pure_ (i := 23) (N := some 99) (v := ?_) (a' := ?_) #[true, true, true, true, true, true, true, true, true, true, true, true, true, true, true, true, true, true, true, true, true, true, true, true, false, false] rfl rfl (by kernel_rfl) (fun _ _ _ h => h) (Or.inl ⟨by rfl, ?_⟩) ?_ ?_
            rotate_left
            · intro w'
              go_simp
              with_reducible rfl
            rotate_left
            · simp only [Act.put, List.setIfInBounds_toArray, List.set_cons_zero, List.set_cons_succ, i64_w, i32_w]
              rfl
            refine pure_ (i := 24) (N := some 100) (v := ?_) (a' := ?_) #[true, true, true, true, true, true, true, true, true, true, true, true, true, true, true, true, true, true, true, true, true, true, true, true, true, false] rfl rfl (by kernel_rfl) (fun _ _ _ h => h) (Or.inl ⟨by rfl, ?_⟩) ?_ ?_
            rotate_left
            · intro w'
              go_simp
              with_reducible rfl
            rotate_left
            · simp only [Act.put, List.setIfInBounds_toArray, List.set_cons_zero, List.set_cons_succ, i64_w, i32_w]
              rfl
            refine pure_ (i := 25) (N := some 8) (v := ?_) (a' := ?_) #[true, true, true, true, true, true, true, true, true, true, true, true, true, true, true, true, true, true, true, true, true, true, true, true, true, true] rfl rfl (by kernel_rfl) (fun _ _ _ h => h) (Or.inl ⟨by rfl, ?_⟩) ?_ ?_
            rotate_left
            · intro w'
              go_simp
              with_reducible rfl
            rotate_left
            · simp only [Act.put, List.setIfInBounds_toArray, List.set_cons_zero, List.set_cons_succ, i64_w, i32_w]
              rfl
            refine done_ (by kernel_rfl) ?_
            go_wp2
            refine ⟨⟨i + 1, by rw [HLS.out]; simp [hti], by go_num, by omega, HCD.out⟩, ?_⟩
            simp [intOf]; omega
        · skip
          go_upto_region 15 with fail
          refine start_ (n := 26) (S := fun w' => w'.cell? ⟨b5, 3, none⟩ = some (.int .i64 (t : Int)) ∧ w'.cell? (ra.add i) = some (.int .i64 ri) ∧ w'.cell? (ra.add t) = some (.int .i64 rt) ∧ w'.cell? ⟨b7, i, none⟩ = some (.bool ki)) (ds := []) #[false, false, false, false, false, false, false, false, false, false, false, false, false, false, false, false, false, false, false, false, false, false, false, false, false, false] (by kernel_rfl) rfl rfl ⟨s0x, s1x, s2x, s3x⟩ (fun hHeld => ?_)
          refine pure_ (i := 0) (N := some 76) (v := ?_) (a' := ?_) #[true, false, false, false, false, false, false, false, false, false, false, false, false, false, false, false, false, false, false, false, false, false, false, false, false, false] rfl rfl (by kernel_rfl) (fun _ _ _ h => h) (Or.inl ⟨by rfl, ?_⟩) ?_ ?_
          rotate_left
          · intro w'
            go_simp
            with_reducible rfl
          rotate_left
          · simp only [Act.put, List.setIfInBounds_toArray, List.set_cons_zero, List.set_cons_succ, i64_w, i32_w]
            rfl
          refine pure_ (i := 1) (N := some 77) (v := ?_) (a' := ?_) #[true, true, false, false, false, false, false, false, false, false, false, false, false, false, false, false, false, false, false, false, false, false, false, false, false, false] rfl rfl (by kernel_rfl) (fun _ _ _ h => h) (Or.inl ⟨by rfl, ?_⟩) ?_ ?_
          rotate_left
          · intro w'
            go_simp
            with_reducible rfl
          rotate_left
          · simp only [Act.put, List.setIfInBounds_toArray, List.set_cons_zero, List.set_cons_succ, i64_w, i32_w]
            rfl
          refine pure_ (i := 2) (N := some 78) (v := undef) (a' := ?_) #[true, true, true, false, false, false, false, false, false, false, false, false, false, false, false, false, false, false, false, false, false, false, false, false, false, false] rfl rfl (by kernel_rfl) (fun _ _ _ h => h) (Or.inr ⟨by rfl, rfl⟩) ?_ ?_
          rotate_left
          · simp only [Act.put, List.setIfInBounds_toArray, List.set_cons_zero, List.set_cons_succ, i64_w, i32_w]
            rfl
          refine pure_ (i := 3) (N := some 79) (v := undef) (a' := ?_) #[true, true, true, true, false, false, false, false, false, false, false, false, false, false, false, false, false, false, false, false, false, false, false, false, false, false] rfl rfl (by kernel_rfl) (fun _ _ _ h => h) (Or.inr ⟨by rfl, rfl⟩) ?_ ?_
          rotate_left
          · simp only [Act.put, List.setIfInBounds_toArray, List.set_cons_zero, List.set_cons_succ, i64_w, i32_w]
            rfl
          refine pure_ (i := 4) (N := some 80) (v := undef) (a' := ?_) #[true, true, true, true, true, false, false, false, false, false, false, false, false, false, false, false, false, false, false, false, false, false, false, false, false, false] rfl rfl (by kernel_rfl) (fun _ _ _ h => h) (Or.inr ⟨by rfl, rfl⟩) ?_ ?_
          rotate_left
          · simp only [Act.put, List.setIfInBounds_toArray, List.set_cons_zero, List.set_cons_succ, i64_w, i32_w]
            rfl
          refine pure_ (i := 5) (N := some 81) (v := undef) (a' := ?_) #[true, true, true, true, true, true, false, false, false, false, false, false, false, false, false, false, false, false, false, false, false, false, false, false, false, false] rfl rfl (by kernel_rfl) (fun _ _ _ h => h) (Or.inr ⟨by rfl, rfl⟩) ?_ ?_
          rotate_left
          · simp only [Act.put, List.setIfInBounds_toArray, List.set_cons_zero, List.set_cons_succ, i64_w, i32_w]
            rfl
          refine pure_ (i := 6) (N := some 82) (v := undef) (a' := ?_) #[true, true, true, true, true, true, true, false, false, false, false, false, false, false, false, false, false, false, false, false, false, false, false, false, false, false] rfl rfl (by kernel_rfl) (fun _ _ _ h => h) (Or.inr ⟨by rfl, rfl⟩) ?_ ?_
          rotate_left
          · simp only [Act.put, List.setIfInBounds_toArray, List.set_cons_zero, List.set_cons_succ, i64_w, i32_w]
            rfl
          refine pure_ (i := 7) (N := some 83) (v := undef) (a' := ?_) #[true, true, true, true, true, true, true, true, false, false, false, false, false, false, false, false, false, false, false, false, false, false, false, false, false, false] rfl rfl (by kernel_rfl) (fun _ _ _ h => h) (Or.inr ⟨by rfl, rfl⟩) ?_ ?_
          rotate_left
          · simp only [Act.put, List.setIfInBounds_toArray, List.set_cons_zero, List.set_cons_succ, i64_w, i32_w]
            rfl
          refine pure_ (i := 8) (N := some 84) (v := undef) (a' := ?_) #[true, true, true, true, true, true, true, true, true, false, false, false, false, false, false, false, false, false, false, false, false, false, false, false, false, false] rfl rfl (by kernel_rfl) (fun _ _ _ h => h) (Or.inr ⟨by rfl, rfl⟩) ?_ ?_
          rotate_left
          · simp only [Act.put, List.setIfInBounds_toArray, List.set_cons_zero, List.set_cons_succ, i64_w, i32_w]
            rfl
          refine pure_ (i := 9) (N := some 85) (v := undef) (a' := ?_) #[true, true, true, true, true, true, true, true, true, true, false, false, false, false, false, false, false, false, false, false, false, false, false, false, false, false] rfl rfl (by kernel_rfl) (fun _ _ _ h => h) (Or.inr ⟨by rfl, rfl⟩) ?_ ?_
          rotate_left
          · simp only [Act.put, List.setIfInBounds_toArray, List.set_cons_zero, List.set_cons_succ, i64_w, i32_w]
            rfl
          refine pure_ (i := 10) (N := some 86) (v := undef) (a' := ?_) #[true, true, true, true, true, true, true, true, true, true, true, false, false, false, false, false, false, false, false, false, false, false, false, false, false, false] rfl rfl (by kernel_rfl) (fun _ _ _ h => h) (Or.inr ⟨by rfl, rfl⟩) ?_ ?_
          rotate_left
          · simp only [Act.put, List.setIfInBounds_toArray, List.set_cons_zero, List.set_cons_succ, i64_w, i32_w]
            rfl
          refine pure_ (i := 11) (N := some 87) (v := undef) (a' := ?_) #[true, true, true, true, true, true, true, true, true, true, true, true, false, false, false, false, false, false, false, false, false, false, false, false, false, false] rfl rfl (by kernel_rfl) (fun _ _ _ h => h) (Or.inr ⟨by rfl, rfl⟩) ?_ ?_
          rotate_left
          · simp only [Act.put, List.setIfInBounds_toArray, List.set_cons_zero, List.set_cons_succ, i64_w, i32_w]
            rfl
          refine pure_ (i := 12) (N := some 88) (v := undef) (a' := ?_) #[true, true, true, true, true, true, true, true, true, true, true, true, true, false, false, false, false, false, false, false, false, false, false, false, false, false] rfl rfl (by kernel_rfl) (fun _ _ _ h => h) (Or.inr ⟨by rfl, rfl⟩) ?_ ?_
          rotate_left
          · simp only [Act.put, List.setIfInBounds_toArray, List.set_cons_zero, List.set_cons_succ, i64_w, i32_w]
            rfl
          refine pure_ (i := 13) (N := some 89) (v := undef) (a' := ?_) #[true, true, true, true, true, true, true, true, true, true, true, true, true, true, false, false, false, false, false, false, false, false, false, false, false, false] rfl rfl (by kernel_rfl) (fun _ _ _ h => h) (Or.inr ⟨by rfl, rfl⟩) ?_ ?_
          rotate_left
          · simp only [Act.put, List.setIfInBounds_toArray, List.set_cons_zero, List.set_cons_succ, i64_w, i32_w]
            rfl
          refine pure_ (i := 14) (N := some 90) (v := undef) (a' := ?_) #[true, true, true, true, true, true, true, true, true, true, true, true, true, true, true, false, false, false, false, false, false, false, false, false, false, false] rfl rfl (by kernel_rfl) (fun _ _ _ h => h) (Or.inr ⟨by rfl, rfl⟩) ?_ ?_
          rotate_left
          · simp only [Act.put, List.setIfInBounds_toArray, List.set_cons_zero, List.set_cons_succ, i64_w, i32_w]
            rfl
          refine pure_ (i := 15) (N := some 91) (v := undef) (a' := ?_) #[true, true, true, true, true, true, true, true, true, true, true, true, true, true, true, true, false, false, false, false, false, false, false, false, false, false] rfl rfl (by kernel_rfl) (fun _ _ _ h => h) (Or.inr ⟨by rfl, rfl⟩) ?_ ?_
          rotate_left
          · simp only [Act.put, List.setIfInBounds_toArray, List.set_cons_zero, List.set_cons_succ, i64_w, i32_w]
            rfl
          refine pure_ (i := 16) (N := some 92) (v := undef) (a' := ?_) #[true, true, true, true, true, true, true, true, true, true, true, true, true, true, true, true, true, false, false, false, false, false, false, false, false, false] rfl rfl (by kernel_rfl) (fun _ _ _ h => h) (Or.inr ⟨by rfl, rfl⟩) ?_ ?_
          rotate_left
          · simp only [Act.put, List.setIfInBounds_toArray, List.set_cons_zero, List.set_cons_succ, i64_w, i32_w]
            rfl
          refine pure_ (i := 17) (N := some 93) (v := undef) (a' := ?_) #[true, true, true, true, true, true, true, true, true, true, true, true, true, true, true, true, true, true, false, false, false, false, false, false, false, false] rfl rfl (by kernel_rfl) (fun _ _ _ h => h) (Or.inr ⟨by rfl, rfl⟩) ?_ ?_
          rotate_left
          · simp only [Act.put, List.setIfInBounds_toArray, List.set_cons_zero, List.set_cons_succ, i64_w, i32_w]
            rfl
          refine pure_ (i := 18) (N := some 94) (v := undef) (a' := ?_) #[true, true, true, true, true, true, true, true, true, true, true, true, true, true, true, true, true, true, true, false, false, false, false, false, false, false] rfl rfl (by kernel_rfl) (fun _ _ _ h => h) (Or.inr ⟨by rfl, rfl⟩) ?_ ?_
          rotate_left
          · simp only [Act.put, List.setIfInBounds_toArray, List.set_cons_zero, List.set_cons_succ, i64_w, i32_w]
            rfl
          refine pure_ (i := 19) (N := some 95) (v := undef) (a' := ?_) #[true, true, true, true, true, true, true, true, true, true, true, true, true, true, true, true, true, true, true, true, false, false, false, false, false, false] rfl rfl (by kernel_rfl) (fun _ _ _ h => h) (Or.inr ⟨by rfl, rfl⟩) ?_ ?_
          rotate_left
          · simp only [Act.put, List.setIfInBounds_toArray, List.set_cons_zero, List.set_cons_succ, i64_w, i32_w]
            rfl
          refine pure_ (i := 20) (N := some 96) (v := undef) (a' := ?_) #[true, true, true, true, true, true, true, true, true, true, true, true, true, true, true, true, true, true, true, true, true, false, false, false, false, false] rfl rfl (by kernel_rfl) (fun _ _ _ h => h) (Or.inr ⟨by rfl, rfl⟩) ?_ ?_
          rotate_left
          · simp only [Act.put, List.setIfInBounds_toArray, List.set_cons_zero, List.set_cons_succ, i64_w, i32_w]
            rfl
          refine pure_ (i := 21) (N := some 97) (v := undef) (a' := ?_) #[true, true, true, true, true, true, true, true, true, true, true, true, true, true, true, true, true, true, true, true, true, true, false, false, false, false] rfl rfl (by kernel_rfl) (fun _ _ _ h => h) (Or.inr ⟨by rfl, rfl⟩) ?_ ?_
          rotate_left
          · simp only [Act.put, List.setIfInBounds_toArray, List.set_cons_zero, List.set_cons_succ, i64_w, i32_w]
            rfl
          refine pure_ (i := 22) (N := some 98) (v := undef) (a' := ?_) #[true, true, true, true, true, true, true, true, true, true, true, true, true, true, true, true, true, true, true, true, true, true, true, false, false, false] rfl rfl (by kernel_rfl) (fun _ _ _ h => h) (Or.inr ⟨by rfl, rfl⟩) ?_ ?_
          rotate_left
          · simp only [Act.put, List.setIfInBounds_toArray, List.set_cons_zero, List.set_cons_succ, i64_w, i32_w]
            rfl
          refine pure_ (i := 23) (N := some 99) (v := undef) (a' := ?_) #[true, true, true, true, true, true, true, true, true, true, true, true, true, true, true, true, true, true, true, true, true, true, true, true, false, false] rfl rfl (by kernel_rfl) (fun _ _ _ h => h) (Or.inr ⟨by rfl, rfl⟩) ?_ ?_
          rotate_left
          · simp only [Act.put, List.setIfInBounds_toArray, List.set_cons_zero, List.set_cons_succ, i64_w, i32_w]
            rfl
          refine pure_ (i := 24) (N := some 100) (v := ?_) (a' := ?_) #[true, true, true, true, true, true, true, true, true, true, true, true, true, true, true, true, true, true, true, true, true, true, true, true, true, false] rfl rfl (by kernel_rfl) (fun _ _ _ h => h) (Or.inl ⟨by rfl, ?_⟩) ?_ ?_
          rotate_left
          · intro w'
            go_simp
            with_reducible rfl
          rotate_left
          · simp only [Act.put, List.setIfInBounds_toArray, List.set_cons_zero, List.set_cons_succ, i64_w, i32_w]
            rfl
          refine pure_ (i := 25) (N := some 8) (v := ?_) (a' := ?_) #[true, true, true, true, true, true, true, true, true, true, true, true, true, true, true, true, true, true, true, true, true, true, true, true, true, true] rfl rfl (by kernel_rfl) (fun _ _ _ h => h) (Or.inl ⟨by rfl, ?_⟩) ?_ ?_
          rotate_left
          · intro w'
            go_simp
            with_reducible rfl
          rotate_left
          · simp only [Act.put, List.setIfInBounds_toArray, List.set_cons_zero, List.set_cons_succ, i64_w, i32_w]
            rfl
          refine done_ (by kernel_rfl) ?_
          go_wp2
          refine ⟨⟨i + 1, by rw [HLS.out]; rfl, by go_num, by omega, HCD.out⟩, ?_⟩
          simp [intOf]; omega
    · obtain rfl : i = D.row.length := by omega
      have hlt2 : ¬ (D.row.length : Int) < (D.row.length : Int) := by omega
      obtain ⟨ks, hkl, hks, hm, h7⟩ := HP.out
      have HD6 := Lib.hid (HD5.out.keep hm.size (fun k hk => hm.block k (by have := HFW.out k hk; have := HZ.out; have := HB7.out; omega) (by simp; exact HFE.out k hk)))
      have HMR := Lib.hid (HM5.out.trans hm (fun k hk => .inr (by rw [List.mem_singleton.1 hk]; exact HBB.out)))
      have HK6 := Lib.hid (hm.blk HK5.out (by simp; exact HNE.out))
      have HS6 := Lib.hid hm.size
      have HKS := Lib.hid hks
      have HKL := Lib.hid hkl
      have H7 := Lib.hid h7
      have HRW := Lib.hid (fun (a : Addr) (ha : A6 = some a) (j : Nat) (hj : j < D.row.length) => HR5.out wr hm a ha j hj)
      have HIF := Lib.hid (fun (i : Nat) (hi : i ≤ D.row.length) => laterK_iff htn hks i hi)
      have HLI := Lib.hid (HIF.out D.row.length (Nat.le_refl _))
      generalize laterK (D.row.map (·.f0)) o.f6 t D.row.length = lt at *
      clear hkl hks hm h7 HP HD5 HR5 HIF HK5
      have hl4 := HL.out
      have hca := clone_any wr fp g D HD6.out (by omega) (by omega)
      go_wp2_with fail
      refine hca.mono ?_
      rintro e wa ⟨ga, fa, rfl, ma, hfa, hDa⟩
      clear hca
      have hcb := clone_any wa fp g D (HD6.out.mod ma) (by omega) (by omega)
      have HMA := Lib.hid ma
      have HFA := Lib.hid hfa
      have HDA := Lib.hid hDa
      clear ma hfa hDa
      go_wp2_with fail
      refine hcb.mono ?_
      rintro e wb ⟨gb, fb, rfl, mb, hfb, hDb⟩
      clear hcb
      obtain ⟨ht3, hkb⟩ := T3.clones HMR.out HF0.out HD6.out HMA.out HFA.out HDA.out mb hfb hDb
      have HT3 := Lib.hid ht3
      have HX5 := Lib.hid (show b5 < wr.heap.size ∧ ¬ fp b5 from ⟨by have := HBW5.out; have := HS6.out; omega, HFB.out⟩)
      have HX7 := Lib.hid (show b7 < wr.heap.size ∧ ¬ fp b7 from ⟨by have := HB7.out; have := HS6.out; omega, fun h => HFE.out b7 h rfl⟩)
      have HRA := Lib.hid (fun (a : Addr) (ha : A6 = some a) => show a.block < wr.heap.size ∧ ¬ fp a.block from ⟨by have := (HA6.out a ha).2; have := HB7.out; have := HS6.out; omega, fun h => by have := (HA6.out a ha).1; have := HFW.out _ h; omega⟩)
      generalize hBB : (fun k => k < wr.heap.size ∧ ¬ fp k) = B at *
      replace HX5 : Hid (B b5) := Lib.hid (by rw [← hBB]; exact HX5.out)
      replace HX7 : Hid (B b7) := Lib.hid (by rw [← hBB]; exact HX7.out)
      replace HRA : Hid (∀ a, A6 = some a → B a.block) := Lib.hid (fun a ha => by rw [← hBB]; exact HRA.out a ha)
      have HK7 := Lib.hid ((hkb b5 HX5.out).trans HK6.out)
      have H8 := Lib.hid (H7.out.keep (hkb b7 HX7.out))
      have HRX := Lib.hid (fun (a : Addr) (ha : A6 = some a) (j : Nat) (hj : j < D.row.length) => hkb.cell (HRW.out a ha j hj) (by rw [add_block']; exact HRA.out a ha))
      clear hBB mb hfb hDb ht3 hkb HMA HFA HDA H7 HK6 HRW
      have hfl := HT3.out.fail HG.out (by omega) (some ⟨b7, 0, none⟩) c7 ks (-1) 0 (fun w' hm' hk' => (H8.out.keep (hk' b7 HX7.out)).reads)
      rw [HKL.out] at hfl
      go_wp2_with fail
      refine hfl.mono ?_
      rintro e wc ⟨⟨vc, rfl⟩, htc, hkc7⟩
      clear hfl HT3
      have HT4 := Lib.hid htc
      have HK8 := Lib.hid ((hkc7 b5 HX5.out).trans HK7.out)
      have H9 := Lib.hid (H8.out.keep (hkc7 b7 HX7.out))
      have HRY := Lib.hid (fun (a : Addr) (ha : A6 = some a) (j : Nat) (hj : j < D.row.length) => hkc7.cell (HRX.out a ha j hj) (by rw [add_block']; exact HRA.out a ha))
      clear htc hkc7 HK7 H8 HRX
      have z3 := (blk_cell HK8.out 3).trans rfl
      rw [HT.out] at z3
      have y7 := (H9.out.cell t (by rw [HKL.out]; exact htn)).1
      have f7 := (H9.out.cell t (by rw [HKL.out]; exact htn)).2
      have ht0 : (0 : Int) ≤ (t : Int) := by omega
      have ht1 : (t : Int) < (D.row.length : Int) := by omega
      have HT5 := Lib.hid (HT4.out.rot.set (p := ⟨b7, t, none⟩) HX7.out HBB.out (.bool true))
      have HK9 := Lib.hid (show (wc.setCell ⟨b7, t, none⟩ (.bool true)).heap[b5]? = _ from (Below.heap_setCell wc ⟨b7, t, none⟩ (.bool true) b5 HNE.out).trans HK8.out)
      have H10 := Lib.hid (H9.out.put t true)
      have HRZ := Lib.hid (fun (a : Addr) (ha : A6 = some a) (j : Nat) (hj : j < D.row.length) => (show (wc.setCell ⟨b7, t, none⟩ (.bool true)).cell? (a.add j) = _ from (World.cell?_of_block (Below.heap_setCell wc ⟨b7, t, none⟩ (.bool true) _ (by rw [add_block']; have := (HA6.out a ha).2; exact Nat.ne_of_lt this))).trans (HRY.out a ha j hj)))
      clear HT4 H9 HRY
      go_upto_region 19 with fail
      clear HK8 z3 y7 f7
      generalize wc.setCell ⟨b7, t, none⟩ (.bool true) = wd at *
      have hfl := HT5.out.fail HG.out (by omega) (some ⟨b7, 0, none⟩) c7 (ks.set t true) (-1) 0 (fun w' hm' hk' => (H10.out.keep (hk' b7 HX7.out)).reads)
      rw [List.length_set, HKL.out] at hfl
      go_wp2_with fail
      refine hfl.mono ?_
      rintro e we ⟨⟨ve, rfl⟩, hte, hke⟩
      clear hfl HT5
      have HT6 := Lib.hid hte.rot
      have HK10 := Lib.hid ((hke b5 HX5.out).trans HK9.out)
      have HR1 := Lib.hid (fun (a : Addr) (ha : A6 = some a) (j : Nat) (hj : j < D.row.length) => hke.cell (HRZ.out a ha j hj) (by rw [add_block']; exact HRA.out a ha))
      clear hte hke HK9 H10 HRZ
      have z2 := (blk_cell HK10.out 2).trans rfl
      have z3 := (blk_cell HK10.out 3).trans rfl
      have z6 := (blk_cell HK10.out 6).trans rfl
      rw [HT.out] at z3
      have hfl := HT6.out.fail HG.out (by omega) KA kc o.f6 (t : Int) o.f2 (fun w' hm' hk' => Kd.C_below hk hm'.below0)
      go_wp2_with fail
      refine hfl.mono ?_
      rintro e wf ⟨⟨vf, rfl⟩, htf, hkf⟩
      clear hfl HT6 z2 z3 z6
      have HT7 := Lib.hid htf
      have HK11 := Lib.hid ((hkf b5 HX5.out).trans HK10.out)
      have HR2 := Lib.hid (fun (a : Addr) (ha : A6 = some a) (j : Nat) (hj : j < D.row.length) => hkf.cell (HR1.out a ha j hj) (by rw [add_block']; exact HRA.out a ha))
      clear htf hkf HK10 HR1
      have z2 := (blk_cell HK11.out 2).trans rfl
      go_upto_region 21 with fail
      clear z2
      go_cut [12] (fun t wx => t = .int .i64 ((clampAt o.f2 : Nat) : Int) ∧ wx = wf)
      case first =>
        have z2 := (blk_cell HK11.out 2).trans rfl
        by_cases c1 : 128 < o.f2
        · skip
          have HE2 : Hid (((clampAt o.f2 : Nat) : Int) = 128) := Lib.hid (by unfold clampAt; rw [if_neg (by omega), if_pos c1]; rfl)
          go_wp2
          go_meet
          exact ⟨by rw [HE2.out], rfl⟩
        · by_cases c2 : 0 < o.f2
          · skip
            have HE2 : Hid (((clampAt o.f2 : Nat) : Int) = o.f2) := Lib.hid (by unfold clampAt; rw [if_neg (by omega), if_neg c1]; omega)
            go_wp2
            go_meet
            exact ⟨by rw [HE2.out], rfl⟩
          · skip
            have HE2 : Hid (((clampAt o.f2 : Nat) : Int) = 0) := Lib.hid (by unfold clampAt; split <;> (try split) <;> omega)
            go_wp2
            go_meet
            exact ⟨by rw [HE2.out], rfl⟩
      case rest =>
      obtain ⟨rfl, rfl⟩ := hcut
      obtain ⟨ra, rfl, _⟩ := HR3'.out (by omega)
      have HR4 := Lib.hid (HR2.out ra rfl t htn)
      have HRB := Lib.hid (HRA.out ra rfl)
      have HTO := Lib.hid (fun (i : Nat) (hi : i < D.l.length) => torn_out HG.out o.f6 ks t o.f2 lt htn HKL.out HKS.out HLI.out i hi)
      have HLF := Lib.hid (show (failD D o.f6 (t : Int) o.f2).l.length = 4 from (failTo_len _ _ _ _ _ _).trans HL.out)
      have HLW := Lib.hid (show (failD D ks (-1) 0).l.length = 4 from (failTo_len _ _ _ _ _ _).trans HL.out)
      have HLA := Lib.hid (show (failD D (ks.set t true) (-1) 0).l.length = 4 from (failTo_len _ _ _ _ _ _).trans HL.out)
      have HSF := Lib.hid (fun (i : Nat) (hi : i < D.l.length) => fail_sizes HG.out o.f6 (t : Int) o.f2 i hi)
      have HSW := Lib.hid (fun (i : Nat) (hi : i < D.l.length) => fail_sizes HG.out ks (-1) 0 i hi)
      have HSA := Lib.hid (fun (i : Nat) (hi : i < D.l.length) => fail_sizes HG.out (ks.set t true) (-1) 0 i hi)
      have HNL := Lib.hid (clampAt_le o.f2)
      have HDN := Lib.hid (show (failD D o.f6 (t : Int) o.f2).down = true from rfl)
      have HRO := Lib.hid (show (failD D o.f6 (t : Int) o.f2).row = [] from rfl)
      have HMC := Lib.hid HT7.out.md
      generalize clampAt o.f2 = N at *
      generalize failD D o.f6 (t : Int) o.f2 = DF at *
      generalize failD D ks (-1) 0 = DW at *
      generalize failD D (ks.set t true) (-1) 0 = DA at *
      clear HR2 HRA HR3' HKS HKL HLI
      go_wp2_with fail
      go_loopw [13] (fun iv wr => ∃ j : Nat, iv = .int .i64 (j : Int) ∧ j ≤ 4 ∧ Mod [] wc wr) (fun iv _ => 4 - (intOf iv).toNat)
      case atStart => exact ⟨0, rfl, Nat.zero_le _, Mod.refl _ _⟩
      case round =>
        obtain ⟨j, rfl, hj, hm8⟩ := hrel
        obtain ⟨ht8, hkb8⟩ := HT7.out.mod hm8
        by_cases hlt : j < 4
        · have hlt3 : (j : Int) < 4 := by omega
          have hj0 : (0 : Int) ≤ (j : Int) := by omega
          have hi1 : (0 : Int) ≤ (t : Int) := by omega
          have hi2 : (t : Int) < (D.row.length : Int) := by omega
          have z3 := (blk_cell ((hkb8 b5 HX5.out).trans HK11.out) 3).trans rfl
          rw [HT.out] at z3
          have y6 := hkb8.cell HR4.out (by rw [add_block']; exact HRB.out)
          have hTO := HTO.out j (by omega)
          have hoF := ht8.out j (by rw [HLF.out]; exact hlt)
          have hoF2 := (ht8.mod (Mod.refl [] wr).drew).1.out j (by rw [HLF.out]; exact hlt)
          have hoA := (ht8.mod (Mod.refl [] wr).drew).1.rot.rot.out j (by rw [HLA.out]; exact hlt)
          have hoW := ht8.rot.out j (by rw [HLW.out]; exact hlt)
          have hsW := HSW.out j (by omega)
          have hsA := HSA.out j (by omega)
          have HM8 := Lib.hid hm8
          clear ht8 hkb8 hm8
          generalize (D.row.map (·.f0)).getD t 0 = rt at *
          generalize rdOf ByteArray.empty DF.l (j : Int) = sF at *
          generalize rdOf ByteArray.empty DW.l (j : Int) = sW at *
          generalize rdOf ByteArray.empty DA.l (j : Int) = sA at *
          rcases hTO with ⟨rfl, hne⟩ | ⟨heq, rfl, rfl⟩
          · go_wp2_with fail
            refine hoW.mono ?_
            rintro e w8 ⟨rfl, rfl⟩
            clear hoW
            by_cases hjr : (j : Int) = rt
            · obtain rfl : lt = true := hne.resolve_left (fun h => h hjr)
              have g1 : ((j : Int) == rt) = true := by simp [hjr]
              clear hjr hne
              go_wp2_with fail
              refine hoF.mono ?_
              rintro e w8 ⟨rfl, rfl⟩
              clear hoF
              go_wp2
              refine ⟨⟨j + 1, by go_num, by omega, HM8.out⟩, ?_⟩
              simp [intOf]; omega
            · have g1 : ((j : Int) == rt) = false := by simp [hjr]
              clear hjr hne
              go_wp2_with fail
              refine hoF.mono ?_
              rintro e w8 ⟨rfl, rfl⟩
              clear hoF
              go_wp2
              refine ⟨⟨j + 1, by go_num, by omega, HM8.out⟩, ?_⟩
              simp [intOf]; omega
          · have g1 : ((j : Int) == rt) = true := by simp [heq]
            clear heq
            go_wp2_with fail
            refine hoW.mono ?_
            rintro e w8 ⟨rfl, rfl⟩
            clear hoW
            have hN1 : (N : Int) ≤ 128 := by have := HNL.out; omega
            have hN0 : (0 : Int) ≤ (N : Int) := by omega
            have hN2 : ¬ 9223372036854775807 < min N 128 + (128 - N) := by omega
            rw [hsW] at hoF2
            go_upto_region 27 with fail
            refine start_ (n := 10) (S := fun w' => True) (ds := []) #[false, false, false, false, false, false, false, false, false, false] (by kernel_rfl) rfl rfl trivial (fun hHeld => ?_)
            refine pure_ (i := 0) (N := some 145) (v := ?_) (a' := ?_) #[true, false, false, false, false, false, false, false, false, false] rfl rfl (by kernel_rfl) (fun _ _ _ h => h) (Or.inl ⟨by rfl, ?_⟩) ?_ ?_
            rotate_left
            · intro w'
              go_simp
              with_reducible rfl
            rotate_left
            · simp only [Act.put, List.setIfInBounds_toArray, List.set_cons_zero, List.set_cons_succ, i64_w, i32_w]
              rfl
            refine pure_ (i := 1) (N := some 146) (v := ?_) (a' := ?_) #[true, true, false, false, false, false, false, false, false, false] rfl rfl (by kernel_rfl) (fun _ _ _ h => h) (Or.inl ⟨by rfl, ?_⟩) ?_ ?_
            rotate_left
            · intro w'
              go_simp
              with_reducible rfl
            rotate_left
            · simp only [Act.put, List.setIfInBounds_toArray, List.set_cons_zero, List.set_cons_succ, i64_w, i32_w]
              rfl
            refine pure_ (i := 3) (N := some 148) (v := ?_) (a' := ?_) #[true, true, false, true, false, false, false, false, false, false] rfl rfl (by kernel_rfl) (fun _ _ _ h => h) (Or.inl ⟨by rfl, ?_⟩) ?_ ?_
            rotate_left
            · intro w'
              go_simp
              with_reducible rfl
            rotate_left
            · simp only [Act.put, List.setIfInBounds_toArray, List.set_cons_zero, List.set_cons_succ, i64_w, i32_w]
              rfl
            refine pure_ (i := 5) (N := some 150) (v := ?_) (a' := ?_) #[true, true, false, true, false, true, false, false, false, false] rfl rfl (by kernel_rfl) (fun _ _ _ h => h) (Or.inl ⟨by rfl, ?_⟩) ?_ ?_
            rotate_left
            · intro w'
              go_simp
              with_reducible rfl
            rotate_left
            · simp only [Act.put, List.setIfInBounds_toArray, List.set_cons_zero, List.set_cons_succ, i64_w, i32_w]
              rfl
            refine pure_ (i := 6) (N := some 151) (v := ?_) (a' := ?_) #[true, true, false, true, false, true, true, false, false, false] rfl rfl (by kernel_rfl) (fun _ _ _ h => h) (Or.inl ⟨by rfl, ?_⟩) ?_ ?_
            rotate_left
            · intro w'
              go_simp
              with_reducible rfl
            rotate_left
            · simp only [Act.put, List.setIfInBounds_toArray, List.set_cons_zero, List.set_cons_succ, i64_w, i32_w]
              rfl
            refine pure_ (i := 7) (N := some 152) (v := ?_) (a' := ?_) #[true, true, false, true, false, true, true, true, false, false] rfl rfl (by kernel_rfl) (fun _ _ _ h => h) (Or.inl ⟨by rfl, ?_⟩) ?_ ?_
            rotate_left
            · intro w'
              go_simp
              with_reducible rfl
            rotate_left
            · simp only [Act.put, List.setIfInBounds_toArray, List.set_cons_zero, List.set_cons_succ, i64_w, i32_w]
              rfl
            refine one_ (i := 2) (N := some 147) #[true, true, true, true, false, true, true, true, false, false] rfl rfl (by kernel_rfl) (by decide) (fun K hK => ?_)
            refine goes_ Try.func27 (by kernel_rfl) rfl #[.pointer (some ⟨gb, 0, none⟩), .int .i64 (j : Int)] (by rfl) rfl rfl (by simp only [List.map_toArray, List.map_cons, List.map_nil]; rfl) ?_
            with_reducible refine (hoA).mono ?_
            rintro e w3 ⟨rfl, rfl⟩
            refine ⟨_, rfl, ?_⟩
            refine hK.out _ _ trivial (fun hHeld => ?_)
            clear hK K
            refine norm_ (a' := ?_) ?_ ?_
            rotate_left
            · show Act.put _ (some 147) _ = _
              simp only [Act.put, List.setIfInBounds_toArray, List.set_cons_zero, List.set_cons_succ, i64_w, i32_w]
              rfl
            refine pure_ (i := 4) (N := some 149) (v := ?_) (a' := ?_) #[true, true, true, true, true, true, true, true, false, false] rfl rfl (by kernel_rfl) (fun _ _ _ h => h) (Or.inl ⟨by rfl, ?_⟩) ?_ ?_
            rotate_left
            · intro w'
              go_simp
              with_reducible rfl
            rotate_left
            · simp only [Act.put, List.setIfInBounds_toArray, List.set_cons_zero, List.set_cons_succ, i64_w, i32_w]
              rfl
            refine pure_ (i := 8) (N := some 153) (v := ?_) (a' := ?_) #[true, true, true, true, true, true, true, true, true, false] rfl rfl (by kernel_rfl) (fun _ _ _ h => h) (Or.inl ⟨by rfl, ?_⟩) ?_ ?_
            rotate_left
            · intro w'
              go_simp
              with_reducible rfl
            rotate_left
            · simp only [Act.put, List.setIfInBounds_toArray, List.set_cons_zero, List.set_cons_succ, i64_w, i32_w]
              rfl
            refine pure_ (i := 9) (N := some 14) (v := ?_) (a' := ?_) #[true, true, true, true, true, true, true, true, true, true] rfl rfl (by kernel_rfl) (fun _ _ _ h => h) (Or.inl ⟨by rfl, ?_⟩) ?_ ?_
            rotate_left
            · intro w'
              go_simp
              with_reducible rfl
            rotate_left
            · simp only [Act.put, List.setIfInBounds_toArray, List.set_cons_zero, List.set_cons_succ, i64_w, i32_w]
              rfl
            refine done_ (by kernel_rfl) ?_
            go_wp2_with fail
            refine hoF2.mono ?_
            rintro e w8 ⟨rfl, rfl⟩
            clear hoF2
            go_wp2
            refine ⟨⟨j + 1, by go_num, by omega, HM8.out.drew⟩, ?_⟩
            simp [intOf]; omega
        · obtain rfl : j = 4 := by omega
          have hlt3 : ¬ (4 : Int) < 4 := by omega
          have hd := ht8.down
          rw [HDN.out] at hd
          have hwt := ht8.waiting (by rw [HRO.out]; exact Nat.zero_le _)
          rw [HRO.out] at hwt
          have HM8 := Lib.hid (HMC.out.trans0 hm8)
          clear ht8 hkb8 hm8
          go_wp2_with fail
          refine hd.mono ?_
          rintro e w8 ⟨rfl, rfl⟩
          clear hd
          go_wp2_with fail
          refine hwt.mono ?_
          rintro e w8 ⟨A8, c8, rfl, hm9⟩
          clear hwt
          have HM9 := Lib.hid (HM8.out.trans0 hm9)
          clear hm9
          go_wp2_with fail
          refine (lives_any w8).mono ?_
          rintro e w9 ⟨rfl, hm⟩
          have HMZ := Lib.hid (HM9.out.trans0 hm)
          clear hm
          go_wp2
          go_ret
          exact ⟨rfl, HMZ.out⟩
theorem torn_law {H : Type} {enc : TypeId × Value → H} (v0 : Value) (D0 : DataW H) (p0 : List MemPlace) (v2 : Value) (D2 : DataW H) (p2 : List MemPlace) (w : World)
    (o0 : Value.okWide Try.prog w .any 0 22 v0) (h0 : DataW.Trod enc Try.prog w 0 (fun _ => true) true 22 v0 D0 p0)
    (o2 : Value.okWide Try.prog w .any 0 25 v2) (h2 : DataW.Trod enc Try.prog w 0 (fun _ => true) true 25 v2 D2 p2) :
    Calls Try.prog 6 #[v0, v2] w fun e w' => e = .returned (.bool true) ∧ Mod [] w w' := by
  obtain ⟨A, c, ops, rfl, hc, hr, hw⟩ := ops_open o0 h0
  obtain ⟨o, KA, kc, rfl, hkc, hk, ho⟩ := one_open o2 h2
  exact torn_walk A c ops o KA kc w hr hc (fun o ho => (hw o ho).1.2) hk hkc ho
end Go.Proofs.Ytcohfbmfmlmblaa
