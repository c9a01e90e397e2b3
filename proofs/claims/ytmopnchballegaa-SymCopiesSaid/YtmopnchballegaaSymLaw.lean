/- The laws of the names, walked. -/
import Derived.Test.YtmopnchballegaaSymSame
import Derived.Test.YtmopnchballegaaOpen
set_option linter.unusedVariables false
set_option linter.unusedSimpArgs false
namespace Go.Proofs.Ytmopnchballegaa
open Go.RowKit Go.WideMaps Go.Proofs.YtmopnchballegaaW.PrintWords Go.Proofs.Ytmopnchballegaa.PSymPlays
theorem c31 : Try.prog.cellsOf 31 = 2 := by kernel_rfl
theorem c3 : Try.prog.cellsOf 3 = 1 := by kernel_rfl
theorem c9 : Try.prog.cellsOf 9 = 1 := by kernel_rfl
theorem op_open {H : Type} {enc : TypeId × Value → H} {w : World} {base n : Nat} {cs : List Value} {x : DataW H × List MemPlace} (h : DataW.trod enc Try.prog w base (fun _ => true) true n 31 cs = some x) (hl : cs.length = k31.sz) :
    ∃ a, k31.K w a cs ∧ (-9223372036854775808 ≤ a.f0 ∧ a.f0 ≤ 9223372036854775807) := by
  obtain ⟨_, m, hf⟩ := fields_trod (l := [(3, 0), (9, 1)]) (by kernel_rfl) h
  obtain ⟨y0, k0⟩ := hf 0 3 0 rfl
  obtain ⟨y1, k1⟩ := hf 1 9 1 rfl
  rw [c3] at k0
  rw [c9] at k1
  have hl2 : cs.length = 2 := hl
  match cs, hl2 with
  | [u, v], _ =>
    simp only [List.drop_zero, List.drop_succ_cons, List.take_succ_cons, List.take_zero] at k0 k1
    obtain ⟨n0, r0, _, w0⟩ := DataW.trod_int Try.underlying3 k0
    obtain ⟨s, r1, _, _⟩ := DataW.trod_string Try.underlying9 k1
    obtain rfl : u = .int .i64 n0 := by simpa using r0
    obtain rfl : v = .string s := by simpa using r1
    exact ⟨⟨n0, s⟩, k31_mk w ⟨n0, s⟩, bounds_i64 w0⟩
theorem ops_open {H : Type} {enc : TypeId × Value → H} {w : World} {v : Value} {D : DataW H} {p : List MemPlace} (ho : Value.okWide Try.prog w .any 0 22 v) (h : DataW.Trod enc Try.prog w 0 (fun _ => true) true 22 v D p) :
    ∃ A c ops, v = .slice A ops.length c ∧ ops.length ≤ c ∧ Kd.C k31 w A ops.length ops ∧ ∀ x ∈ ops, (-9223372036854775808 ≤ x.f0 ∧ x.f0 ≤ 9223372036854775807) :=
  rows_open k31 (fun a => -9223372036854775808 ≤ a.f0 ∧ a.f0 ≤ 9223372036854775807) Try.underlying22 c31 (fun n cs x h hl => op_open h hl) (Go.WideShapes.okWide_slice (e := 31) Try.underlying22 ho) h
def lightB (ops : List S31) : Bool := decide (ops.length ≤ 60 ∧ ∀ o ∈ ops, o.f1.size ≤ 200)
theorem lightB_true {ops : List S31} (h : lightB ops = true) : ops.length ≤ 60 ∧ ∀ o ∈ ops, o.f1.size ≤ 200 := by simpa [lightB] using h
theorem light_from (ops : List S31) (hl : ops.length ≤ 60) (d : Nat) : ∀ i : Nat, i + d = ops.length → (∀ j, j < i → (rd_T31 ops (j : Nat)).f1.size ≤ 200) → hibernaclelaw10_light.l0 (d + 1) ops (i : Int) = some (lightB ops) := by
  have key : ∀ i : Nat, (h : i < ops.length) → rd_T31 ops (i : Int) = ops[i] := fun i hi => by
    rw [rd_T31, Int.toNat_natCast, List.getD_eq_getElem?_getD, List.getElem?_eq_getElem hi]; rfl
  induction d with
  | zero =>
    intro i h1 h2
    simp only [hibernaclelaw10_light.l0]
    rw [if_neg (by omega)]
    congr 1
    symm
    simp only [lightB, decide_eq_true_eq]
    refine ⟨hl, fun o ho => ?_⟩
    obtain ⟨j, hj, rfl⟩ := List.getElem_of_mem ho
    rw [← key j hj]
    exact h2 j (by omega)
  | succ d ih =>
    intro i h1 h2
    have hi : i < ops.length := by omega
    simp only [hibernaclelaw10_light.l0]
    rw [if_pos (by omega), if_pos (by omega)]
    by_cases e : ((rd_T31 ops (i : Int)).f1.size : Int) > 200
    · rw [if_pos e]
      congr 1
      symm
      simp only [lightB, decide_eq_false_iff_not]
      intro h
      have := h.2 ops[i] (List.getElem_mem hi)
      rw [key i hi] at e
      omega
    · rw [if_neg e, show wrap64 ((i : Int) + 1) = ((i + 1 : Nat) : Int) by unfold wrap64; omega]
      refine ih (i + 1) (by omega) (fun j hj => ?_)
      by_cases ej : j = i
      · subst ej; omega
      · exact h2 j (by omega)
theorem light_any (A : Option Addr) (c : Nat) (ops : List S31) (w : World) (hr : Kd.C k31 w A ops.length ops) (hc : ops.length ≤ c) :
    Calls Try.prog 7 #[.slice A ops.length c] w fun e w' => e = .returned (.bool (lightB ops)) ∧ Mod [] w w' := by
  refine (hibernaclelaw10_light.calls (ops.length + 1) A c ops (lightB ops) w hr hc ?_).mono fun e w' h => ⟨h.1, Mod.of_below h.2.below⟩
  unfold hibernaclelaw10_light.f
  by_cases h : (ops.length : Int) > 60
  · rw [if_pos h]; simp [lightB]; omega
  · rw [if_neg h]; exact light_from ops (by omega) ops.length 0 (by omega) (fun j hj => by omega)
noncomputable def runS (xs : List ByteArray) (ops : List S31) : List ByteArray := ops.foldl (fun xs o => stepS xs o.f0 o.f1) xs
theorem runS_snoc (xs : List ByteArray) (ops : List S31) (k : Nat) (h : k < ops.length) : runS xs (ops.take (k + 1)) = stepS (runS xs (ops.take k)) ops[k].f0 ops[k].f1 := by
  rw [List.take_succ_eq_append_getElem h, runS, List.foldl_append]
  rfl
theorem runS_len (xs : List ByteArray) (ops : List S31) : (runS xs ops).length ≤ xs.length + ops.length := by
  induction ops generalizing xs with
  | nil => simp [runS]
  | cons o ops ih =>
    have h1 := ih (stepS xs o.f0 o.f1)
    have h2 := stepS_len xs o.f0 o.f1
    show (runS (stepS xs o.f0 o.f1) ops).length ≤ _
    simp
    omega
/-- Where an op lies. -/
theorem op_at {w : World} {A : Option Addr} {ops : List S31} (hr : Kd.C k31 w A ops.length ops) (i : Nat) (h : i < ops.length) :
    ∃ ad : Addr, A = some ad ∧ w.cell? (ad.add (i * 2)) = some (.int .i64 ops[i].f0) ∧ w.cell? ⟨(ad.add (i * 2)).block, (ad.add (i * 2)).off + 1, none⟩ = some (.string ops[i].f1) := by
  have := at_T31 hr (i : Int) (by omega) (by omega)
  rwa [show rd_T31 ops (i : Int) = ops[i] by rw [rd_T31, Int.toNat_natCast, List.getD_eq_getElem?_getD, List.getElem?_eq_getElem h]; rfl, Int.toNat_natCast] at this
theorem St.start {w w1 : World} (hm : Mod [] w w1) (h : Tab w1 (fun k => k = w.heap.size ∨ k = w.heap.size + 1) (w.heap.size + 1) []) :
    St w1 w.heap.size (fun k => k = w.heap.size ∨ k = w.heap.size + 1) nobody (w.heap.size + 1) (.slice none 0 0) [] :=
  ⟨h, Kd.R_nil _ _ _ _ _, fun _ _ h => h, fun _ h => h.elim, fun k hk => by omega, fun _ h => h.elim, List.nodup_nil, hm.size⟩
set_option maxRecDepth 100000 in
set_option maxHeartbeats 2000000 in
theorem plays_any (A : Option Addr) (c : Nat) (ops : List S31) (w : World) (hr : Kd.C k31 w A ops.length ops) (hc : ops.length ≤ c) (hb : ∀ x ∈ ops, (-9223372036854775808 ≤ x.f0 ∧ x.f0 ≤ 9223372036854775807)) :
    Calls Try.prog 3 #[.slice A ops.length c] w fun e w' => e = .returned (.bool true) ∧ Mod [] w w' := by
  have HL := light_any A c ops w hr hc
  by_cases hlb : lightB ops = true
  · obtain ⟨hl60, hl200⟩ := lightB_true hlb
    rw [hlb] at HL
    have HR := Lib.hid hr
    have H200 := Lib.hid hl200
    clear hlb hr hb hl200
    go_enter Try.func3, Try.ntmps3
    go_wp2_with fail
    refine HL.mono ?_
    rintro e w1 ⟨rfl, hm1⟩
    go_wp2_with fail
    refine (new_any w1).mono ?_
    rintro e w2 ⟨rfl, hm2, ht2⟩
    have HST := Lib.hid (St.start hm2 ht2)
    have HR1 := Lib.hid (C_mod HR.out hm1)
    have HM1 := Lib.hid hm1
    have HM2 := Lib.hid hm2
    clear hm1 hm2 ht2 HR
    generalize (fun k => k = w1.heap.size ∨ k = w1.heap.size + 1) = fp0 at *
    generalize w1.heap.size + 1 = g at *
    obtain ⟨B, hB⟩ : ∃ B, w1.heap.size = B := ⟨_, rfl⟩
    rw [hB] at HST
    have HB := Lib.hid hB
    clear hB
    go_wp2_with fail
    go_loopw [4, 5, 6] (fun l i _ wr => ∃ (k : Nat) (fp ok : Nat → Prop) (v : Value), k ≤ ops.length ∧ i = .int .i64 (k : Int) ∧ v = l ∧ St wr B fp ok g v (runS [] (ops.take k)) ∧ Mod [] w1 wr) (fun _ i _ _ => ops.length - (intOf i).toNat)
    case atStart => exact ⟨0, fp0, nobody, _, by omega, rfl, rfl, HST.out, HM2.out⟩
    case round =>
      obtain ⟨k, fp, ok, v, hk, rfl, rfl, hst, hbl⟩ := hrel
      have hrl := runS_len [] (ops.take k)
      rw [List.length_take, Nat.min_eq_left hk] at hrl
      simp only [List.length_nil, Nat.zero_add] at hrl
      by_cases hlt : k < ops.length
      · obtain ⟨ad, rfl, p0, p1⟩ := op_at HR1.out k hlt
        have hlb := World.block_lt_of_cell? w1 _ p0
        rw [HB.out] at hlb
        have o0 := hbl.cell p0 (by simp)
        have o1 := hbl.cell p1 (by simp)
        clear p0 p1
        have HSN := Lib.hid (runS_snoc [] ops k hlt)
        have hsz := H200.out ops[k] (List.getElem_mem hlt)
        have hki : (0 : Int) ≤ (k : Int) := by omega
        have hki2 : (k : Int) < (ops.length : Int) := by omega
        generalize ops[k].f0 = kd at *
        generalize ops[k].f1 = nm at *
        generalize runS [] (ops.take k) = xs at *
        have HS := step_any wr B fp ok g v xs kd nm hst (by omega) hsz
        have HST' := Lib.hid hst
        have O0 := Lib.hid o0
        have O1 := Lib.hid o1
        clear hst
        go_wp2_with fail
        refine HS.mono ?_
        rintro e w3 ⟨v', fp', ok', rfl, hf3, hst3, _, _⟩
        have hbl3 : Mod [] w1 w3 := ((Fr.of_mod0 (F := nobody) hbl).trans hf3 (fun t ht => .inr (by
          rw [HB.out]
          exact ht.elim (HST'.out.fpB t) (HST'.out.okB t)))).mod (fun _ h => h.elim)
        have HBL3 := Lib.hid hbl3
        have HST3 := Lib.hid hst3
        have q1 : w3.cell? ⟨(ad.add (k * 2)).block, (ad.add (k * 2)).off + 1, none⟩ = some (.string nm) := by
          refine hf3.cell O1.out (fun hk' => ?_)
          have h1 : B ≤ (ad.add (k * 2)).block := hk'.elim (HST'.out.fpB _) (HST'.out.okB _)
          omega
        clear hbl hbl3 hst3 hf3 o0 o1
        have L1 : ∀ w', Mod [] w3 w' → w'.cell? ⟨(ad.add (k * 2)).block, (ad.add (k * 2)).off + 1, none⟩ = some (.string nm) := fun w' h => h.cell q1 (by simp)
        go_upto_region 10 with fail
        go_region_held3 (fun w' => Mod [] w3 w') (first | exact (Mod.refl [] w3).drew | exact Mod.refl [] w3 | exact Mod.trans0 (by assumption) (by assumption) | exact (by assumption))
          (first
            | (go_at_call 11; refine (may_any nm _).mono ?_; rintro e w4 ⟨rfl, hm4⟩)
            | (go_at_call 12; refine (refMay_any nm _).mono ?_; rintro e w5 ⟨rfl, hm5⟩))
        have hm35 : Mod [] w3 w5 := by assumption
        go_wp2
        go_roundw
        case rel => exact ⟨k + 1, fp', ok', v', by omega, by go_num, rfl, by rw [HSN.out]; exact HST3.out.mod hm35, HBL3.out.trans0 hm35⟩
        case measure => simp [intOf]; omega
      · have hkn : k = ops.length := by omega
        subst hkn
        rw [List.take_length] at hst hrl
        generalize runS [] ops = xs at *
        obtain ⟨A2, c2, rfl, hc2, hr2⟩ := Kd.R_reads hst.row
        have hsame := same_any wr fp g A2 c2 xs hst.tab hr2 (by omega)
        clear hst hr2
        go_wp2_with fail
        refine hsame.mono ?_
        rintro e w3 ⟨rfl, hm3⟩
        go_wp2_with fail
        refine (lives_any w3).mono ?_
        rintro e w4 ⟨rfl, hm4⟩
        go_wp2
        go_ret
        exact ⟨rfl, ((HM1.out.trans0 hbl).trans0 hm3).trans0 hm4⟩
  · have hlb' : lightB ops = false := by simpa using hlb
    rw [hlb'] at HL
    clear hlb hlb'
    go_enter Try.func3, Try.ntmps3
    go_wp2_with fail
    refine HL.mono ?_
    rintro e w1 ⟨rfl, hm1⟩
    go_wp2_with fail
    refine (lives_any w1).mono ?_
    rintro e w2 ⟨rfl, hm2⟩
    go_wp2
    go_ret
    exact ⟨rfl, hm1.trans0 hm2⟩
theorem plays_walk {H : Type} {enc : TypeId × Value → H} (v : Value) (d : DataW H) (p : List MemPlace) (w : World) (ho : Value.okWide Try.prog w .any 0 22 v) (h : DataW.Trod enc Try.prog w 0 (fun _ => true) true 22 v d p) :
    Calls Try.prog 3 #[v] w fun e w' => e = .returned (.bool true) ∧ Mod [] w w' := by
  obtain ⟨A, c, ops, rfl, hc, hr, hb⟩ := ops_open ho h
  exact plays_any A c ops w hr hc hb
end Go.Proofs.Ytmopnchballegaa
