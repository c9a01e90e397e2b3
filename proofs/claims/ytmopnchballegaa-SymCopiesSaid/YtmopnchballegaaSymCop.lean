/- A copy goes on by itself; a nil table has nothing; names are ordered by how many bytes they have, then byte by byte. -/
import Derived.Test.YtmopnchballegaaSymLaw
import Derived.Test.YtmopnchballegaaSymCopy
set_option linter.unusedVariables false
set_option linter.unusedSimpArgs false
namespace Go.Proofs.Ytmopnchballegaa
open Go.RowKit Go.WideMaps Go.Proofs.YtmopnchballegaaW.PrintWords Go.Proofs.Ytmopnchballegaa.PSymPlays
def RanX (w1 : World) (B : Nat) (g : Nat) (xs : List ByteArray) (ops : List S31) (l : Value) (w' : World) : Prop :=
  ∃ (fp ok : Nat → Prop), St w' B fp ok g l (runS xs ops) ∧ Mod [] w1 w'
theorem pair_open {H : Type} {enc : TypeId × Value → H} {w : World} {v : Value} {D : DataW H} {p : List MemPlace} (ho : Value.okWide Try.prog w .any 0 43 v) (h : DataW.Trod enc Try.prog w 0 (fun _ => true) true 43 v D p) :
    ∃ a b : ByteArray, v = .agg #[.string a, .string b] := by
  unfold Value.okWide at ho
  rw [Try.underlying43] at ho
  obtain ⟨cs, rfl, hsz, _⟩ := ho
  obtain ⟨fuel, hf⟩ := h
  obtain ⟨xs, m, _, _, hlen, hxl, hx⟩ := DataW.trod_array Try.underlying43 hf
  have hlen2 : cs.toList.length = 2 := hlen
  have h0 := hx 0 (by omega)
  have h1 := hx 1 (by omega)
  rw [c9] at h0 h1
  have hcs : (Value.agg cs).cells.toList = cs.toList := rfl
  rw [hcs] at h0 h1
  match hl : cs.toList, hlen2, xs, hxl with
  | [u, v], _, [x0, x1], _ =>
    rw [hl] at h0 h1
    simp only [Nat.zero_mul, Nat.one_mul, List.drop_zero, List.drop_succ_cons, List.take_succ_cons, List.take_zero, List.getElem?_cons_zero, List.getElem?_cons_succ] at h0 h1
    obtain ⟨s, r0, _, _⟩ := DataW.trod_string Try.underlying9 h0
    obtain ⟨t, r1, _, _⟩ := DataW.trod_string Try.underlying9 h1
    obtain rfl : u = .string s := by simpa using r0
    obtain rfl : v = .string t := by simpa using r1
    refine ⟨s, t, ?_⟩
    rw [← Array.toArray_toList (xs := cs), hl]
set_option maxRecDepth 100000 in
set_option maxHeartbeats 4000000 in
theorem copies_any (A : Option Addr) (c : Nat) (ops : List S31) (A' : Option Addr) (c' : Nat) (more : List S31) (a b : ByteArray) (w : World) (hr : Kd.C k31 w A ops.length ops) (hc : ops.length ≤ c) (hr' : Kd.C k31 w A' more.length more) (hc' : more.length ≤ c') :
    Calls Try.prog 6 #[.slice A ops.length c, .slice A' more.length c', .agg #[.string a, .string b]] w fun e w' => e = .returned (.bool true) ∧ Mod [] w w' := by
  have hm0 := (Mod.refl [] w).alloc (.cells #[.string a, .string b] 43)
  have hk0 := blk_new w (.cells #[.string a, .string b] 43)
  have d0 := (blk_cell hk0 0).trans rfl
  have d1 := (blk_cell hk0 1).trans rfl
  have HR0 := Lib.hid (C_mod hr hm0)
  have HRM0 := Lib.hid (C_mod hr' hm0)
  have HM0 := Lib.hid hm0
  clear hk0 hm0 hr hr'
  go_enter Try.func6, Try.ntmps6
  go_wp2_with fail
  generalize w.alloc _ = w0 at *
  generalize w.heap.size = bx at *
  go_upto_region 1 with fail
  go_quiet (fail)
  have HQ := Lib.hid (HM0.out.drewN nq)
  have HRQ := Lib.hid (C_mod HR0.out ((Mod.refl [] w0).drewN nq))
  have HRMQ := Lib.hid (C_mod HRM0.out ((Mod.refl [] w0).drewN nq))
  clear d0 d1 HR0 HRM0 HM0
  generalize w0.drewN nq = wq at *
  have HL := light_any A c ops wq HRQ.out hc
  have HLM := fun W hW => light_any A' c' more W (C_mod HRMQ.out hW) hc'
  by_cases h1 : lightB ops = true
  · rw [h1] at HL
    by_cases h2 : lightB more = true
    · rw [h2] at HLM
      by_cases ha : a.size ≤ 200
      · have ta : ¬ (200 : Int) < (a.size : Int) := by omega
        by_cases hb : b.size ≤ 200
        · have tb : ¬ (200 : Int) < (b.size : Int) := by omega
          obtain ⟨hl60, hl200⟩ := lightB_true h1
          obtain ⟨hm60, hm200⟩ := lightB_true h2
          have H200 := Lib.hid hl200
          have H200M := Lib.hid hm200
          clear h1 h2 hl200 hm200
          go_wp2_with fail
          refine HL.mono ?_
          rintro e w9 ⟨rfl, hm9⟩
          go_wp2_with fail
          refine (HLM w9 hm9).mono ?_
          rintro e w1 ⟨rfl, hm1⟩
          have hm19 := hm9.trans0 hm1
          have HRM0 := Lib.hid (C_mod HRMQ.out hm19)
          have HR1 := Lib.hid (C_mod HRQ.out hm19)
          have HM1 := Lib.hid (HQ.out.trans0 hm19)
          clear hm9 hm1 hm19 HL HLM HRMQ HRQ
          go_wp2_with fail
          refine (number_nil a w1).mono ?_
          rintro e w2 ⟨rfl, rfl⟩
          go_wp2_with fail
          refine (find_nil a w1).mono ?_
          rintro e w2 ⟨rfl, rfl⟩
          go_wp2_with fail
          refine (fresh_nil a w1).mono ?_
          rintro e w2 ⟨rfl, rfl⟩
          go_wp2_with fail
          refine (len_nil w1).mono ?_
          rintro e w2 ⟨rfl, rfl⟩
          go_wp2_with fail
          refine (name_nil w1).mono ?_
          rintro e w2 ⟨rfl, rfl⟩
          go_wp2_with fail
          refine (copy_nil w1).mono ?_
          rintro e w2 ⟨rfl, rfl⟩
          go_wp2_with fail
          refine (new_any w1).mono ?_
          rintro e w2 ⟨rfl, hm2, ht2⟩
          have HSTA := Lib.hid (St.start hm2 ht2)
          have HM2 := Lib.hid hm2
          clear hm2 ht2
          generalize (fun k => k = w1.heap.size ∨ k = w1.heap.size + 1) = fp0 at *
          generalize w1.heap.size + 1 = g at *
          obtain ⟨B, hB⟩ : ∃ B, w1.heap.size = B := ⟨_, rfl⟩
          rw [hB] at HSTA
          have HB := Lib.hid hB
          clear hB
          go_wp2_with fail
          go_loopw [17, 18] (fun l i wr => ∃ (k : Nat) (v : Value), k ≤ ops.length ∧ i = .int .i64 (k : Int) ∧ v = l ∧ RanX w1 B g [] (ops.take k) v wr) (fun _ i _ => ops.length - (intOf i).toNat)
          case atStart => exact ⟨0, _, by omega, rfl, rfl, fp0, nobody, HSTA.out, HM2.out⟩
          case round =>
            obtain ⟨k, v, hk, rfl, rfl, fp, ok, hst, hbl⟩ := hrel
            have hrl := runS_len [] (ops.take k)
            rw [List.length_take, Nat.min_eq_left hk] at hrl
            by_cases hlt : k < ops.length
            · obtain ⟨ad, rfl, p0, p1⟩ := op_at HR1.out k hlt
              have o0 := hbl.cell p0 (by simp)
              have o1 := hbl.cell p1 (by simp)
              clear p0 p1
              have HSN := Lib.hid (runS_snoc [] ops k hlt)
              have hsz := H200.out ops[k] (List.getElem_mem hlt)
              have hki : (0 : Int) ≤ (k : Int) := by omega
              have hki2 : (k : Int) < (ops.length : Int) := by omega
              generalize ops[k].f0 = kd at *
              generalize ops[k].f1 = nm at *
              have hxl : (runS [] (ops.take k)).length ≤ 1000 := by (try simp only [List.length_nil] at hrl); omega
              generalize runS [] (ops.take k) = xs at *
              have HS := step_any wr B fp ok g v xs kd nm hst hxl hsz
              have HST' := Lib.hid hst
              clear hst
              go_wp2_with fail
              refine HS.mono ?_
              rintro e w3 ⟨v', fp', ok', rfl, hf3, hst3, _, _⟩
              have hbl3 : Mod [] w1 w3 := ((Fr.of_mod0 (F := nobody) hbl).trans hf3 (fun t ht => .inr (by
                rw [HB.out]
                exact ht.elim (HST'.out.fpB t) (HST'.out.okB t)))).mod (fun _ h => h.elim)
              have HBL3 := Lib.hid hbl3
              have HST3 := Lib.hid hst3
              clear hbl hbl3 hst3 hf3 o0 o1
              go_wp2
              go_roundw
              case rel => exact ⟨k + 1, v', by omega, by go_num, rfl, fp', ok', by rw [HSN.out]; exact HST3.out, HBL3.out⟩
              case measure => simp [intOf]; omega
            · have hkn : k = ops.length := by omega
              subst hkn
              rw [List.take_length] at hst hrl
              have hyl : (runS [] ops).length ≤ 60 := by (try simp only [List.length_nil] at hrl); omega
              generalize runS [] ops = ys at *
              obtain ⟨fpT, hfpT⟩ : ∃ f, fp = f := ⟨_, rfl⟩
              obtain ⟨okT, hokT⟩ : ∃ f, ok = f := ⟨_, rfl⟩
              rw [hfpT, hokT] at hst
              clear hfpT hokT
              obtain ⟨wS, rfl⟩ : ∃ wS : World, wS = wr := ⟨_, rfl⟩
              have HST := Lib.hid hst
              have HW3 := Lib.hid (HM1.out.trans0 hbl)
              have HRM := Lib.hid (C_mod HRM0.out hbl)
              have hcp := copy_any wS fpT g ys hst.tab (by omega)
              clear hst hbl
              obtain ⟨B2, hB2⟩ : ∃ B2, wS.heap.size = B2 := ⟨_, rfl⟩
              have HB2 := Lib.hid hB2
              go_wp2_with fail
              refine hcp.mono ?_
              rintro e w4 ⟨g2, rfl, hm4, ht4⟩
              have HC4 := Lib.hid hm4
              have HT4 := Lib.hid ht4
              clear hm4 ht4 hB2
              obtain ⟨A5, c5, rfl, hc5, hr5⟩ := Kd.R_reads HST.out.row
              have HR5 := Lib.hid (C_mod hr5 HC4.out)
              have HN5 := Lib.hid (Kd.R_nil Kd.string 9 w4 0 (fun k => w4.heap.size ≤ k))
              have hl16 : (([] : List ByteArray).length + ys.length) * 16 ≤ 140737488355328 := by simp; omega
              clear hr5 hcp
              obtain ⟨fp2, hfp2⟩ : ∃ f : Nat → Prop, f = newIn wS w4 := ⟨_, rfl⟩
              have HFP2 := Lib.hid hfp2
              clear hfp2
              go_upto_block 2 with (at_builtin; refine Kd.R_append_row Value.string (⟨#[]⟩ : ByteArray) (w0 := w4) 0 rfl (.tmp 113) (.tmp 114) 27 9 (.string (⟨#[]⟩ : ByteArray)) 16 rfl Try.underlying27 info9 rfl (by decide) (.slice none 0 0) [] ys A5 ys.length c5 (fun k => w4.heap.size ≤ k) rfl rfl (fun k hk => hk) HN5.out HR5.out (Below.refl 0 _) (Nat.zero_le _) hl16 ?_; intro v1 w5 hr1 _ hg _; have HR1 := Lib.hid hr1; have HG := Lib.hid hg; clear hr1 hg)
              have HC5 := Lib.hid ((Fr.of_grown HG.out).mod (fun k hk => by simp [Value.ownBlock] at hk))
              obtain ⟨ok2, hok2⟩ : ∃ f : Nat → Prop, f = newIn w4 w5 := ⟨_, rfl⟩
              have hz34 := HC4.out.size
              have hz45 := HC5.out.size
              have hlt4 := HT4.out.lt
              have HST5 := Lib.hid (show St w5 B2 fp2 ok2 g2 v1 ys from ⟨by rw [HFP2.out]; exact HT4.out.mod HC5.out, by rw [hok2]; exact Kd.R_mono (row_lt HR1.out) (fun k hk => ⟨hk.1, hk.2⟩), fun k hk hk' => by (rw [HFP2.out] at hk; rw [hok2] at hk'; have h1 := hk.2; have h2 := hk'.1; omega), fun k hk => by (rw [hok2] at hk; exact hk.2), fun k hk => by (rw [HFP2.out] at hk; rw [← HB2.out]; exact hk.1), fun k hk => by (rw [hok2] at hk; have h1 := hk.1; have h2 := HB2.out; omega), HST.out.nd, by (have h2 := HB2.out; omega)⟩)
              clear hok2 hz34 hz45 hlt4
              go_wp2_with fail
              go_loopw [20, 21] (fun l i wr => ∃ (k : Nat) (v : Value), k ≤ more.length ∧ i = .int .i64 (k : Int) ∧ v = l ∧ RanX wS B2 g2 ys (more.take k) v wr) (fun _ i _ => more.length - (intOf i).toNat)
              case atStart => exact ⟨0, _, by omega, rfl, rfl, fp2, ok2, HST5.out, HC4.out.trans0 HC5.out⟩
              case round =>
                obtain ⟨k, v, hk, rfl, rfl, fp, ok, hst, hbl⟩ := hrel
                have hrl := runS_len ys (more.take k)
                rw [List.length_take, Nat.min_eq_left hk] at hrl
                by_cases hlt : k < more.length
                · obtain ⟨ad, rfl, p0, p1⟩ := op_at HRM.out k hlt
                  have o0 := hbl.cell p0 (by simp)
                  have o1 := hbl.cell p1 (by simp)
                  clear p0 p1
                  have HSN := Lib.hid (runS_snoc ys more k hlt)
                  have hsz := H200M.out more[k] (List.getElem_mem hlt)
                  have hki : (0 : Int) ≤ (k : Int) := by omega
                  have hki2 : (k : Int) < (more.length : Int) := by omega
                  generalize more[k].f0 = kd at *
                  generalize more[k].f1 = nm at *
                  have hxl : (runS ys (more.take k)).length ≤ 1000 := by (try simp only [List.length_nil] at hrl); omega
                  generalize runS ys (more.take k) = xs at *
                  have HS := step_any wr B2 fp ok g2 v xs kd nm hst hxl hsz
                  have HST' := Lib.hid hst
                  clear hst
                  go_wp2_with fail
                  refine HS.mono ?_
                  rintro e w3 ⟨v', fp', ok', rfl, hf3, hst3, _, _⟩
                  have hbl3 : Mod [] wS w3 := ((Fr.of_mod0 (F := nobody) hbl).trans hf3 (fun t ht => .inr (by
                    rw [HB2.out]
                    exact ht.elim (HST'.out.fpB t) (HST'.out.okB t)))).mod (fun _ h => h.elim)
                  have HBL3 := Lib.hid hbl3
                  have HST3 := Lib.hid hst3
                  clear hbl hbl3 hst3 hf3 o0 o1
                  go_wp2
                  go_roundw
                  case rel => exact ⟨k + 1, v', by omega, by go_num, rfl, fp', ok', by rw [HSN.out]; exact HST3.out, HBL3.out⟩
                  case measure => simp [intOf]; omega
                · have hkn : k = more.length := by omega
                  subst hkn
                  rw [List.take_length] at hst hrl
                  have HSTC := Lib.hid hst
                  have HBLC := Lib.hid hbl
                  obtain ⟨A3, c3, rfl, hc3, hr3⟩ := Kd.R_reads hst.row
                  have hsc := same_any wr fp g2 A3 c3 (runS ys more) hst.tab hr3 (by omega)
                  have HSC := Lib.hid hsc
                  clear hst hbl hr3 hsc
                  generalize runS ys more = zs at *
                  have hst4 := HST.out.mod HBLC.out
                  have hsa := fun W (hW : Mod [] wr W) => same_any W fpT g A5 c5 ys (hst4.tab.mod hW) (C_mod (R_C hst4.row) hW) (by omega)
                  have HSA := Lib.hid hsa
                  clear hst4 hsa
                  rcases Nat.lt_trichotomy a.size b.size with hab | hab | hab
                  · have L21 := fun W => less_lt a b W hab
                    have z1 : decide (a.size < b.size) = true := by simpa using hab
                    clear hab
                    go_wp2_with fail
                    refine (HSA.out wr (Mod.refl [] wr)).mono ?_
                    rintro e w7 ⟨rfl, hm7⟩
                    have HM7 := Lib.hid hm7
                    have hq := same_any w7 fp g2 A3 c3 zs (HSTC.out.tab.mod hm7) (C_mod (R_C HSTC.out.row) hm7) (by omega)
                    clear hm7
                    go_wp2_with fail
                    refine hq.mono ?_
                    rintro e w8 ⟨rfl, hm8⟩
                    go_wp2_with fail
                    refine (L21 w8).mono ?_
                    rintro e w9 ⟨rfl, rfl⟩
                    go_wp2_with (go_at_call 8; refine (lives_any _).mono ?_; rintro e w9 ⟨rfl, hm9⟩)
                    go_ret
                    exact ⟨rfl, (((HW3.out.trans0 HBLC.out).trans0 HM7.out).trans0 hm8).trans0 hm9⟩
                  · have L21 := fun W => less_eq a b W hab
                    have z1 : decide (a.size < b.size) = false := by simp; omega
                    have z2 : ((a.size : Int) == (b.size : Int)) = true := by simp; omega
                    have z3 : (a.size == b.size) = true := by simp; omega
                    clear hab
                    go_wp2_with fail
                    refine (HSA.out wr (Mod.refl [] wr)).mono ?_
                    rintro e w7 ⟨rfl, hm7⟩
                    have HM7 := Lib.hid hm7
                    have hq := same_any w7 fp g2 A3 c3 zs (HSTC.out.tab.mod hm7) (C_mod (R_C HSTC.out.row) hm7) (by omega)
                    clear hm7
                    go_wp2_with fail
                    refine hq.mono ?_
                    rintro e w8 ⟨rfl, hm8⟩
                    go_wp2_with fail
                    refine (L21 w8).mono ?_
                    rintro e w9 ⟨rfl, rfl⟩
                    go_wp2_with (go_at_call 8; refine (lives_any _).mono ?_; rintro e w9 ⟨rfl, hm9⟩)
                    go_ret
                    exact ⟨rfl, (((HW3.out.trans0 HBLC.out).trans0 HM7.out).trans0 hm8).trans0 hm9⟩
                  · have L21 := fun W => less_gt a b W hab
                    have z1 : decide (a.size < b.size) = false := by simp; omega
                    have z2 : ((a.size : Int) == (b.size : Int)) = false := by simp; omega
                    have z3 : (a.size == b.size) = false := by simp; omega
                    clear hab
                    go_wp2_with fail
                    refine (HSA.out wr (Mod.refl [] wr)).mono ?_
                    rintro e w7 ⟨rfl, hm7⟩
                    have HM7 := Lib.hid hm7
                    have hq := same_any w7 fp g2 A3 c3 zs (HSTC.out.tab.mod hm7) (C_mod (R_C HSTC.out.row) hm7) (by omega)
                    clear hm7
                    go_wp2_with fail
                    refine hq.mono ?_
                    rintro e w8 ⟨rfl, hm8⟩
                    go_wp2_with fail
                    refine (L21 w8).mono ?_
                    rintro e w9 ⟨rfl, rfl⟩
                    go_wp2_with (go_at_call 8; refine (lives_any _).mono ?_; rintro e w9 ⟨rfl, hm9⟩)
                    go_ret
                    exact ⟨rfl, (((HW3.out.trans0 HBLC.out).trans0 HM7.out).trans0 hm8).trans0 hm9⟩
        · have tb : (200 : Int) < (b.size : Int) := by omega
          clear h1 h2
          go_wp2_with fail
          refine HL.mono ?_
          rintro e w9 ⟨rfl, hm9⟩
          go_wp2_with fail
          refine (HLM w9 hm9).mono ?_
          rintro e w1 ⟨rfl, hm1⟩
          go_wp2_with (go_at_call 8; refine (lives_any _).mono ?_; rintro e w8 ⟨rfl, hm8⟩)
          go_ret
          exact ⟨rfl, ((HQ.out.trans0 hm9).trans0 hm1).trans0 hm8⟩
      · have ta : (200 : Int) < (a.size : Int) := by omega
        clear h1 h2
        go_wp2_with fail
        refine HL.mono ?_
        rintro e w9 ⟨rfl, hm9⟩
        go_wp2_with fail
        refine (HLM w9 hm9).mono ?_
        rintro e w1 ⟨rfl, hm1⟩
        go_wp2_with (go_at_call 8; refine (lives_any _).mono ?_; rintro e w8 ⟨rfl, hm8⟩)
        go_ret
        exact ⟨rfl, ((HQ.out.trans0 hm9).trans0 hm1).trans0 hm8⟩
    · have h2' : lightB more = false := by simpa using h2
      rw [h2'] at HLM
      clear h1 h2 h2'
      go_wp2_with fail
      refine HL.mono ?_
      rintro e w9 ⟨rfl, hm9⟩
      go_wp2_with fail
      refine (HLM w9 hm9).mono ?_
      rintro e w1 ⟨rfl, hm1⟩
      go_wp2_with (go_at_call 8; refine (lives_any _).mono ?_; rintro e w8 ⟨rfl, hm8⟩)
      go_ret
      exact ⟨rfl, ((HQ.out.trans0 hm9).trans0 hm1).trans0 hm8⟩
  · have h1' : lightB ops = false := by simpa using h1
    rw [h1'] at HL
    clear h1 h1'
    go_wp2_with fail
    refine HL.mono ?_
    rintro e w9 ⟨rfl, hm9⟩
    go_wp2_with (go_at_call 8; refine (lives_any _).mono ?_; rintro e w8 ⟨rfl, hm8⟩)
    go_ret
    exact ⟨rfl, (HQ.out.trans0 hm9).trans0 hm8⟩
theorem copies_walk {H : Type} {enc : TypeId × Value → H} (v : Value) (d : DataW H) (p : List MemPlace) (v' : Value) (d' : DataW H) (p' : List MemPlace) (x : Value) (dx : DataW H) (px : List MemPlace) (w : World)
    (ho : Value.okWide Try.prog w .any 0 22 v) (h : DataW.Trod enc Try.prog w 0 (fun _ => true) true 22 v d p) (ho' : Value.okWide Try.prog w .any 0 22 v') (h' : DataW.Trod enc Try.prog w 0 (fun _ => true) true 22 v' d' p')
    (hx : Value.okWide Try.prog w .any 0 43 x) (hx' : DataW.Trod enc Try.prog w 0 (fun _ => true) true 43 x dx px) :
    Calls Try.prog 6 #[v, v', x] w fun e w' => e = .returned (.bool true) ∧ Mod [] w w' := by
  obtain ⟨A, c, ops, rfl, hc, hr, _⟩ := ops_open ho h
  obtain ⟨A', c', more, rfl, hc', hr', _⟩ := ops_open ho' h'
  obtain ⟨a, b, rfl⟩ := pair_open hx hx'
  exact copies_any A c ops A' c' more a b w hr hc hr' hc'
end Go.Proofs.Ytmopnchballegaa
