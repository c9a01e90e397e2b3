/- A fresh name is one that was not there, may be one, and begins as it was asked; asked again it is another one. -/
import Derived.Test.YtmopnchballegaaSymNam
set_option linter.unusedVariables false
set_option linter.unusedSimpArgs false
namespace Go.Proofs.Ytmopnchballegaa
open Go.RowKit Go.WideMaps Go.Proofs.YtmopnchballegaaW.PrintWords Go.Proofs.Ytmopnchballegaa.PSymPlays
/-- A new name may be one, and has the first 20 bytes of what was asked. -/
theorem fresh_pre (xs : List ByteArray) (a : ByteArray) (hm : mayB a = true) (hl : xs.length ≤ 90000) :
    mayB (freshS xs a) = true ∧ min a.size 20 ≤ (freshS xs a).size ∧ ∀ m : Nat, m < min a.size 20 → bt (freshS xs a) (m : Int) = bt a (m : Int) := by
  have hn := (freeN_is xs a).2.1
  rw [freshS]
  generalize freeN xs a = n at *
  have hL := dgs_len (n := n) (L := 4) (by omega)
  have he := endOf_size n
  have hb := cand_bys a n
  have hsz : (cand a n).size = min (32 - (endOf n).size) a.size + ((dgs n).length + 1) := by rw [← bys_length, hb]; simp [bys_length]
  refine ⟨cand_may hm (by omega), by omega, fun m h => ?_⟩
  rw [← bys_getD _ m (by omega), ← bys_getD _ m (by omega), hb, List.getD_eq_getElem?_getD, List.getD_eq_getElem?_getD, List.getElem?_append_left (by rw [List.length_take, bys_length]; omega), List.getElem?_take_of_lt (by omega)]
set_option maxRecDepth 100000 in
set_option maxHeartbeats 2000000 in
theorem fresh_law (A : Option Addr) (c : Nat) (ops : List S31) (a : ByteArray) (w : World) (hr : Kd.C k31 w A ops.length ops) (hc : ops.length ≤ c) :
    Calls Try.prog 5 #[.slice A ops.length c, .string a] w fun e w' => e = .returned (.bool true) ∧ Mod [] w w' := by
  have HL := light_any A c ops w hr hc
  by_cases hall : lightB ops = true ∧ a.size ≤ 200
  · obtain ⟨hlb, ha⟩ := hall
    obtain ⟨hl60, hl200⟩ := lightB_true hlb
    rw [hlb] at HL
    have HR := Lib.hid hr
    have H200 := Lib.hid hl200
    clear hlb hr hl200
    go_enter Try.func5, Try.ntmps5
    go_wp2_with fail
    refine HL.mono ?_
    rintro e w1 ⟨rfl, hm1⟩
    go_wp2_with fail
    refine (new_any w1).mono ?_
    rintro e w2 ⟨rfl, hm2, ht2⟩
    have HST := Lib.hid (St.start hm2 ht2)
    have HR1 := Lib.hid (C_mod HR.out hm1)
    have HM1 := Lib.hid hm1
    have HM2 := Lib.hid hm2
    clear hm1 hm2 ht2 HR
    generalize (fun k => k = w1.heap.size ∨ k = w1.heap.size + 1) = fp0 at *
    generalize w1.heap.size + 1 = g at *
    obtain ⟨B, hB⟩ : ∃ B, w1.heap.size = B := ⟨_, rfl⟩
    rw [hB] at HST
    have HB := Lib.hid hB
    clear hB
    go_wp2_with fail
    go_loopw [6, 7] (fun l i wr => ∃ (k : Nat) (v : Value), k ≤ ops.length ∧ i = .int .i64 (k : Int) ∧ v = l ∧ Ran w1 B g (ops.take k) v wr) (fun _ i _ => ops.length - (intOf i).toNat)
    case atStart => exact ⟨0, _, by omega, rfl, rfl, fp0, nobody, HST.out, HM2.out⟩
    case round =>
      obtain ⟨k, v, hk, rfl, rfl, fp, ok, hst, hbl⟩ := hrel
      have hrl := runS_len [] (ops.take k)
      rw [List.length_take, Nat.min_eq_left hk] at hrl
      simp only [List.length_nil, Nat.zero_add] at hrl
      by_cases hlt : k < ops.length
      · obtain ⟨ad, rfl, p0, p1⟩ := op_at HR1.out k hlt
        have o0 := hbl.cell p0 (by simp)
        have o1 := hbl.cell p1 (by simp)
        clear p0 p1
        have HSN := Lib.hid (runS_snoc [] ops k hlt)
        have hsz := H200.out ops[k] (List.getElem_mem hlt)
        have hki : (0 : Int) ≤ (k : Int) := by omega
        have hki2 : (k : Int) < (ops.length : Int) := by omega
        generalize ops[k].f0 = kd at *
        generalize ops[k].f1 = nm at *
        generalize runS [] (ops.take k) = xs at *
        have HS := step_any wr B fp ok g v xs kd nm hst (by omega) hsz
        have HST' := Lib.hid hst
        clear hst
        go_wp2_with fail
        refine HS.mono ?_
        rintro e w3 ⟨v', fp', ok', rfl, hf3, hst3, _, _⟩
        have hbl3 : Mod [] w1 w3 := ((Fr.of_mod0 (F := nobody) hbl).trans hf3 (fun t ht => .inr (by
          rw [HB.out]
          exact ht.elim (HST'.out.fpB t) (HST'.out.okB t)))).mod (fun _ h => h.elim)
        have HBL3 := Lib.hid hbl3
        have HST3 := Lib.hid hst3
        clear hbl hbl3 hst3 hf3 o0 o1
        go_wp2
        go_roundw
        case rel => exact ⟨k + 1, v', by omega, by go_num, rfl, fp', ok', by rw [HSN.out]; exact HST3.out, HBL3.out⟩
        case measure => simp [intOf]; omega
      · have hkn : k = ops.length := by omega
        subst hkn
        rw [List.take_length] at hst hrl
        generalize runS [] ops = xs at *
        have HST9 := Lib.hid hst
        have HBL := Lib.hid hbl
        have MA := may_any a
        have fin : ∀ w3 w4 w5 : World, Fr fp wr w3 → Fr (grow fp wr w3) w3 w4 → Mod [] w4 w5 → Mod [] w w5 := fun w3 w4 w5 h3 h4 h5 => by
          have f4 : Fr fp wr w4 := h3.grow h4
          exact (HM1.out.trans0 ((((Fr.of_mod0 (F := nobody) HBL.out).trans f4 (fun t ht => .inr (by rw [HB.out]; exact HST9.out.fpB t ht))).mod (fun _ h => h.elim)))).trans0 h5
        have FIN := Lib.hid fin
        clear fin hst hbl
        by_cases hma : mayB a = true
        · have N1 := fresh_any wr fp g xs a HST9.out.tab hma (by omega)
          have N2 := fun w3 fp3 (h3 : Tab w3 fp3 g (xs ++ [freshS xs a])) => fresh_any w3 fp3 g (xs ++ [freshS xs a]) a h3 hma (by simp; omega)
          rw [show ((xs ++ [freshS xs a]).length : Int) = (xs.length : Int) + 1 by simp] at N2
          obtain ⟨hp1, hp2, hp3⟩ := fresh_pre xs a hma (by omega)
          have hu1 := freshS_free (xs ++ [freshS xs a]) a
          have hs1 := freshS_free xs a
          have mu := (fresh_pre (xs ++ [freshS xs a]) a hma (by simp; omega)).1
          have as1 : atZ xs (freshS xs a) = -1 := by simp [atZ, idx_none.2 hs1]
          have au1 : atZ xs (freshS (xs ++ [freshS xs a]) a) = -1 := by
            simp [atZ, idx_none.2 (fun h => hu1 (List.mem_append_left _ h))]
          have hne : ¬ freshS xs a = freshS (xs ++ [freshS xs a]) a := fun e => hu1 (by rw [← e]; simp)
          have n1 : nameS ((xs ++ [freshS xs a]) ++ [freshS (xs ++ [freshS xs a]) a]) (xs.length : Int) = freshS xs a := nameS_of (by simp)
          have n2 : nameS ((xs ++ [freshS xs a]) ++ [freshS (xs ++ [freshS xs a]) a]) ((xs.length : Int) + 1) = freshS (xs ++ [freshS xs a]) a := by
            rw [show (xs.length : Int) + 1 = ((xs.length + 1 : Nat) : Int) by omega]
            exact nameS_of (by rw [List.getElem?_append_right (by simp)]; simp)
          have t3 : ((freshS xs a).toList == (freshS (xs ++ [freshS xs a]) a).toList) = false := by
            rw [beq_eq_false_iff_ne]; exact fun e => hne (toList_inj e)
          have MS := may_any (freshS xs a)
          have MU := may_any (freshS (xs ++ [freshS xs a]) a)
          rw [hp1] at MS
          rw [mu] at MU
          have HAS := Lib.hid as1
          have HAU := Lib.hid au1
          have HN1 := Lib.hid n1
          have HN2 := Lib.hid n2
          have HP3 := Lib.hid hp3
          rw [hma] at MA
          clear hu1 hs1 hne n1 n2 as1 au1 hp1 mu hma hp3
          generalize freshS (xs ++ [freshS xs a]) a = u at *
          generalize freshS xs a = s at *
          go_wp2_with fail
          refine N1.mono ?_
          rintro e w3 ⟨rfl, hf3, ht3⟩
          go_wp2_with fail
          refine (N2 w3 _ ht3).mono ?_
          rintro e w4 ⟨rfl, hf4, ht4⟩
          have HF3 := Lib.hid hf3
          have HF4 := Lib.hid hf4
          have hrow := row_keep HST9.out.row (hf3.grow hf4) (fun k hk hf => HST9.out.apart k hf hk)
          obtain ⟨A2, c2, rfl, hc2, hr2⟩ := Kd.R_reads hrow
          have HR2 := Lib.hid hr2
          clear hf3 hf4 ht3 hrow hr2
          go_wp2_with fail
          refine (MA w4).mono ?_
          rintro e w5 ⟨rfl, hm5⟩
          have ht5 := ht4.mod hm5
          have k1 := name_any w5 _ g _ (xs.length : Int) ht5
          have k2 := name_any w5 _ g _ ((xs.length : Int) + 1) ht5
          rw [HN1.out] at k1
          rw [HN2.out] at k2
          clear ht4 ht5
          go_wp2_with fail
          refine k1.mono ?_
          rintro e w6 ⟨rfl, rfl⟩
          go_wp2_with fail
          refine k2.mono ?_
          rintro e w6 ⟨rfl, rfl⟩
          go_wp2_with fail
          refine (MS w5).mono ?_
          rintro e w6 ⟨rfl, hm6⟩
          go_wp2_with fail
          refine (MU w6).mono ?_
          rintro e w7 ⟨rfl, hm7⟩
          have HM47 := Lib.hid ((hm5.trans0 hm6).trans0 hm7)
          have q1 := refAt_any A2 c2 xs s w7 (C_mod HR2.out HM47.out) hc2 (by omega)
          rw [HAS.out] at q1
          clear hm5 hm6 hm7
          go_wp2_with fail
          refine q1.mono ?_
          rintro e w8 ⟨rfl, hm8⟩
          have HM48 := Lib.hid (HM47.out.trans0 hm8)
          have q2 := refAt_any A2 c2 xs u w8 (C_mod HR2.out HM48.out) hc2 (by omega)
          rw [HAU.out] at q2
          clear hm8 q1
          go_wp2_with fail
          refine q2.mono ?_
          rintro e w9 ⟨rfl, hm9⟩
          have HM9 := Lib.hid (FIN.out w3 w4 w9 HF3.out HF4.out (HM48.out.trans0 hm9))
          clear hm9 q2
          obtain ⟨wo, rfl⟩ : ∃ wo : World, wo = w9 := ⟨_, rfl⟩
          go_wp2_with fail
          go_loopw [14] (fun i wq => ∃ m : Nat, i = .int .i64 (m : Int) ∧ m ≤ s.size ∧ m ≤ a.size ∧ Mod [] wo wq) (fun i _ => s.size - (intOf i).toNat)
          case atStart => exact ⟨0, rfl, by omega, by omega, Mod.refl [] wo⟩
          case round =>
            obtain ⟨m, rfl, hm1, hm2, hmq⟩ := hrel
            have hmi : (0 : Int) ≤ (m : Int) := by omega
            by_cases q1 : m < s.size
            · have d1 : decide (m < s.size) = true := by simpa using q1
              by_cases q2 : m < a.size
              · have d2 : decide (m < a.size) = true := by simpa using q2
                have i1 : (m : Int) < (s.size : Int) := by omega
                have i2 : (m : Int) < (a.size : Int) := by omega
                have b1 := bt_at s (m : Int)
                have b2 := bt_at a (m : Int)
                simp only [Int.toNat_natCast] at b1 b2
                by_cases q3 : bt s (m : Int) = bt a (m : Int)
                · have d3 : (bt s (m : Int) == bt a (m : Int)) = true := by simpa using q3
                  clear q3
                  generalize bt s (m : Int) = x1 at *
                  generalize bt a (m : Int) = x2 at *
                  go_upto_region 17 with fail
                  go_quiet (fail)
                  go_wp2
                  go_roundw
                  case rel => exact ⟨m + 1, by go_num, by omega, by omega, hmq.drewN _⟩
                  case measure => simp [intOf]; omega
                · have d3 : (bt s (m : Int) == bt a (m : Int)) = false := by simpa using q3
                  have hmin : min a.size 20 ≤ m := by
                    rcases Nat.lt_or_ge m (min a.size 20) with h | h
                    · exact absurd (HP3.out m h) q3
                    · exact h
                  have m1 : 20 < a.size → 20 ≤ m := fun h => by omega
                  have m2 : ¬ 20 < a.size → a.size ≤ m := fun h => by omega
                  clear q3
                  generalize bt s (m : Int) = x1 at *
                  generalize bt a (m : Int) = x2 at *
                  by_cases h20 : 20 < a.size
                  · have m3 := m1 h20
                    clear m1 m2 hmin
                    have m4 : (20 : Int) < (a.size : Int) := by omega
                    go_upto_region 17 with fail
                    go_quiet (fail)
                    go_wp2_with (go_at_call 8; refine (lives_any _).mono ?_; rintro e w8 ⟨rfl, hm8⟩)
                    go_ret
                    exact ⟨rfl, (HM9.out.trans0 (hmq.drewN _)).trans0 hm8⟩
                  · have m3 := m2 h20
                    clear m1 m2 hmin
                    have m4 : ¬ (20 : Int) < (a.size : Int) := by omega
                    go_upto_region 17 with fail
                    go_quiet (fail)
                    go_wp2_with (go_at_call 8; refine (lives_any _).mono ?_; rintro e w8 ⟨rfl, hm8⟩)
                    go_ret
                    exact ⟨rfl, (HM9.out.trans0 (hmq.drewN _)).trans0 hm8⟩
              · have d2 : decide (m < a.size) = false := by simpa using q2
                have m3 : a.size ≤ m := by omega
                by_cases h20 : 20 < a.size
                · have m4 : (20 : Int) < (a.size : Int) := by omega
                  go_upto_region 17 with fail
                  go_quiet (fail)
                  go_wp2_with (go_at_call 8; refine (lives_any _).mono ?_; rintro e w8 ⟨rfl, hm8⟩)
                  go_ret
                  exact ⟨rfl, (HM9.out.trans0 (hmq.drewN _)).trans0 hm8⟩
                · have m4 : ¬ (20 : Int) < (a.size : Int) := by omega
                  go_upto_region 17 with fail
                  go_quiet (fail)
                  go_wp2_with (go_at_call 8; refine (lives_any _).mono ?_; rintro e w8 ⟨rfl, hm8⟩)
                  go_ret
                  exact ⟨rfl, (HM9.out.trans0 (hmq.drewN _)).trans0 hm8⟩
            · have d1 : decide (m < s.size) = false := by simpa using q1
              by_cases h20 : 20 < a.size
              · have m3 : 20 ≤ m := by omega
                have m4 : (20 : Int) < (a.size : Int) := by omega
                go_upto_region 17 with fail
                go_quiet (fail)
                go_wp2_with (go_at_call 8; refine (lives_any _).mono ?_; rintro e w8 ⟨rfl, hm8⟩)
                go_ret
                exact ⟨rfl, (HM9.out.trans0 (hmq.drewN _)).trans0 hm8⟩
              · have m3 : a.size ≤ m := by omega
                have m4 : ¬ (20 : Int) < (a.size : Int) := by omega
                go_upto_region 17 with fail
                go_quiet (fail)
                go_wp2_with (go_at_call 8; refine (lives_any _).mono ?_; rintro e w8 ⟨rfl, hm8⟩)
                go_ret
                exact ⟨rfl, (HM9.out.trans0 (hmq.drewN _)).trans0 hm8⟩
        · have hma' : mayB a = false := by simpa using hma
          have N1 := fresh_bad wr fp g xs a HST9.out.tab hma'
          have N2 := fun w3 fp3 (h3 : Tab w3 fp3 g xs) => fresh_bad w3 fp3 g xs a h3 hma'
          rw [hma'] at MA
          clear hma hma'
          go_wp2_with fail
          refine N1.mono ?_
          rintro e w3 ⟨rfl, hf3, ht3⟩
          go_wp2_with fail
          refine (N2 w3 _ ht3).mono ?_
          rintro e w4 ⟨rfl, hf4, ht4⟩
          have HF3 := Lib.hid hf3
          have HF4 := Lib.hid hf4
          clear hf3 hf4 ht3 ht4
          go_wp2_with fail
          refine (MA w4).mono ?_
          rintro e w5 ⟨rfl, hm5⟩
          have HM6 := Lib.hid (FIN.out w3 w4 w5 HF3.out HF4.out hm5)
          clear hm5
          go_wp2_with (go_at_call 8; refine (lives_any _).mono ?_; rintro e w8 ⟨rfl, hm8⟩)
          go_ret
          exact ⟨rfl, HM6.out.trans0 hm8⟩
  · by_cases hlb : lightB ops = true
    · rw [hlb] at HL
      have ta : (200 : Int) < (a.size : Int) := by
        by_cases ha : a.size ≤ 200
        · exact absurd ⟨hlb, ha⟩ hall
        · omega
      clear hall hlb
      go_enter Try.func5, Try.ntmps5
      go_wp2_with fail
      refine HL.mono ?_
      rintro e w1 ⟨rfl, hm1⟩
      go_wp2_with (go_at_call 8; refine (lives_any _).mono ?_; rintro e w8 ⟨rfl, hm8⟩)
      go_ret
      exact ⟨rfl, hm1.trans0 hm8⟩
    · have hlb' : lightB ops = false := by simpa using hlb
      rw [hlb'] at HL
      clear hlb hlb' hall
      go_enter Try.func5, Try.ntmps5
      go_wp2_with fail
      refine HL.mono ?_
      rintro e w1 ⟨rfl, hm1⟩
      go_wp2_with (go_at_call 8; refine (lives_any _).mono ?_; rintro e w8 ⟨rfl, hm8⟩)
      go_ret
      exact ⟨rfl, hm1.trans0 hm8⟩
theorem fresh_walk {H : Type} {enc : TypeId × Value → H} (v : Value) (d : DataW H) (p : List MemPlace) (a : ByteArray) (w : World) (ho : Value.okWide Try.prog w .any 0 22 v) (h : DataW.Trod enc Try.prog w 0 (fun _ => true) true 22 v d p) (ha : a.size ≤ 140737488351232) :
    Calls Try.prog 5 #[v, .string a] w fun e w' => e = .returned (.bool true) ∧ Mod [] w w' := by
  obtain ⟨A, c, ops, rfl, hc, hr, hb⟩ := ops_open ho h
  exact fresh_law A c ops a w hr hc
end Go.Proofs.Ytmopnchballegaa
