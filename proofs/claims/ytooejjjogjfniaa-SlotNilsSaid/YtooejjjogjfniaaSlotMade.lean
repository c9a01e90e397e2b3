/- The law's page and the document's slots, made of the steps; and that a page lives. -/
import Derived.Test.YtooejjjogjfniaaSlotOps
set_option linter.unusedVariables false
set_option linter.unusedSimpArgs false
namespace Go.Proofs.Ytooejjjogjfniaa
open Go.RowKit Go.Proofs.YtooejjjogjfniaaW.PrintWords Go.Proofs.Ytooejjjogjfniaa.PSlotRoom Go.Proofs.YtooejjjogjfniaaW.PrintLast
theorem St.start {w w1 : World} (hm : Mod [] w w1) (h : Pg w1 (fun k => k = w.heap.size) w.heap.size []) :
    St w1 w.heap.size (fun k => k = w.heap.size) nobody w.heap.size (.slice none 0 0) [] :=
  ⟨h, Kd.R_nil _ _ _ _ _, fun _ _ h => h, fun _ h => h.elim, fun k hk => by omega, fun _ h => h.elim, inv_nil, hm.size⟩
def MadePost (w : World) (ys : List S42) (e : Ending) (w' : World) : Prop :=
  ∃ fp ok g v, e = .returned (.tuple #[.pointer (some ⟨g, 0, none⟩), v, .bool true]) ∧ Mod [] w w' ∧ St w' w.heap.size fp ok g v ys
set_option maxRecDepth 100000 in
set_option maxHeartbeats 2000000 in
theorem made_any (A : Option Addr) (c : Nat) (ops : List S34) (w : World) (hr : Kd.C k34 w A ops.length ops) (hc : ops.length ≤ c) (hb : ∀ x ∈ ops, Op34 x) :
    Calls Try.prog 6 #[.slice A ops.length c] w (MadePost w (runS [] (ops.take 80))) := by
  have HR := Lib.hid hr
  have HBD := Lib.hid hb
  clear hr hb
  go_enter Try.func6, Try.ntmps6
  go_wp2_with fail
  refine (new_any w).mono ?_
  rintro e w2 ⟨rfl, hm2, ht2⟩
  have HST := Lib.hid (St.start hm2 ht2)
  have HM2 := Lib.hid hm2
  clear hm2 ht2
  generalize (fun k => k = w.heap.size) = fp0 at *
  obtain ⟨g, hg⟩ : ∃ g, w.heap.size = g := ⟨_, rfl⟩
  obtain ⟨B, hB⟩ : ∃ B, w.heap.size = B := ⟨_, rfl⟩
  have hST2 : St w2 B fp0 nobody g (.slice none 0 0) [] := by rw [← hg]; have := HST.out; rw [hB] at this; rw [hB]; exact this
  rw [hg]
  have HST2 := Lib.hid hST2
  have HB := Lib.hid hB
  clear HST hB hg hST2
  go_wp2_with fail
  go_loopw [6, 7, 8] (fun b l i wr => ∃ (k : Nat) (fp ok : Nat → Prop) (v : Value), k ≤ ops.length ∧ k ≤ 80 ∧ i = .int .i64 (k : Int) ∧ v = l ∧ b = .bool true ∧ St wr B fp ok g v (runS [] (ops.take k)) ∧ Mod [] w wr) (fun _ _ i _ => ops.length - (intOf i).toNat)
  case atStart => exact ⟨0, fp0, nobody, _, by omega, by omega, rfl, rfl, rfl, HST2.out, HM2.out⟩
  case round =>
    obtain ⟨k, fp, ok, v, hk, hk80, rfl, rfl, rfl, hst, hbl⟩ := hrel
    by_cases hlt : k < ops.length
    · have hki : (0 : Int) ≤ (k : Int) := by omega
      have hki2 : (k : Int) < (ops.length : Int) := by omega
      by_cases h8 : k < 80
      · have hki3 : (k : Int) < 80 := by omega
        obtain ⟨ad, rfl, p0, p1, p2, p3⟩ := op_at HR.out k hlt
        have o0 := hbl.cell p0 (by simp)
        have o1 := hbl.cell p1 (by simp)
        have o2 := hbl.cell p2 (by simp)
        have o3 := hbl.cell p3 (by simp)
        clear p0 p1 p2 p3
        have HSN := Lib.hid (runS_snoc [] ops k hlt)
        have hbd := HBD.out ops[k] (List.getElem_mem hlt)
        generalize ops[k].f0 = kd at *
        generalize ops[k].f1 = ii at *
        have hbd2 : -9223372036854775808 ≤ ops[k].f2 ∧ ops[k].f2 ≤ 9223372036854775807 := hbd
        clear hbd
        generalize ops[k].f2 = nn at *
        generalize ops[k].f3 = bb at *
        generalize runS [] (ops.take k) = xs at *
        have HS := step_any wr B fp ok g v xs kd ii nn bb hst hbd2
        have HST' := Lib.hid hst
        clear hst
        go_wp2_with fail
        refine HS.mono ?_
        rintro e w3 ⟨v', fp', ok', rfl, hf3, hst3⟩
        have hbl3 : Mod [] w w3 := ((Fr.of_mod0 (F := nobody) hbl).trans hf3 (fun t ht => .inr (by
          rw [HB.out]
          exact ht.elim (HST'.out.fpB t) (HST'.out.okB t)))).mod (fun _ h => h.elim)
        have HBL3 := Lib.hid hbl3
        have HST3 := Lib.hid hst3
        clear hbl hbl3 hst3 hf3 o0 o1 o2 o3
        go_wp2
        go_roundw
        case rel => exact ⟨k + 1, fp', ok', v', by omega, by omega, by go_num, rfl, rfl, by rw [HSN.out]; exact HST3.out, HBL3.out⟩
        case measure => simp [intOf]; omega
      · have hki3 : ¬ (k : Int) < 80 := by omega
        obtain rfl : k = 80 := by omega
        have HST' := Lib.hid hst
        have HBL := Lib.hid hbl
        clear hst hbl
        go_wp2
        go_ret3
        exact ⟨fp, ok, g, v, rfl, HBL.out, by rw [HB.out]; exact HST'.out⟩
    · have hki2 : ¬ (k : Int) < (ops.length : Int) := by omega
      have hkn : k = ops.length := by omega
      have hrun : ops.take k = ops.take 80 := by rw [List.take_of_length_le (by omega), List.take_of_length_le (by omega)]
      rw [hrun] at hst
      have HST' := Lib.hid hst
      have HBL := Lib.hid hbl
      clear hst hbl
      go_wp2
      go_ret3
      exact ⟨fp, ok, g, v, rfl, HBL.out, by rw [HB.out]; exact HST'.out⟩
def lifeL : List S42 := [⟨true, ⟨#[97, 98]⟩⟩]
theorem life_eq : addS [] ⟨#[97, 98]⟩ = (lifeL, 0, 0) := by kernel_rfl
theorem life_room : room lifeL = 480 := by kernel_rfl
theorem life_size : (bytesS lifeL).size = 512 := by kernel_rfl
theorem life_cut : (bytesS lifeL).extract 0 5 = ⟨#[1, 0, 3, 97, 98]⟩ := by kernel_rfl
set_option maxRecDepth 100000 in
set_option maxHeartbeats 2000000 in
theorem lives_any (w : World) : Calls Try.prog 11 #[] w fun e w' => e = .returned (.bool true) ∧ Mod [] w w' := by
  have hinv : Inv lifeL := by have := inv_add inv_nil ⟨#[97, 98]⟩; rwa [life_eq] at this
  go_enter Try.func11, Try.ntmps11
  go_wp2_with fail
  refine (new_any w).mono ?_
  rintro e w1 ⟨rfl, hm1, hp1⟩
  have HA := add_any w1 _ _ [] ⟨#[97, 98]⟩ hp1 inv_nil
  rw [life_eq] at HA
  go_wp2_with fail
  refine HA.mono ?_
  rintro e w2 ⟨rfl, hf2, hp2⟩
  have hm2 : Mod [] w w2 := ((Fr.of_mod0 (F := nobody) hm1).trans hf2 (fun t ht => .inr (by omega))).mod (fun _ h => h.elim)
  have HB := fun w' hm => bytes_any w' _ _ lifeL (hp2.mod hm) hinv
  have HRM := fun w' hm => room_any w' _ _ lifeL (hp2.mod hm) hinv
  rw [life_room] at HRM
  have hs := life_size
  have hc := life_cut
  have HM2 := Lib.hid hm2
  generalize bytesS lifeL = s at *
  clear hm1 hp1 hf2 hp2 hm2 HA
  go_wp2_with fail
  refine (HB w2 (Mod.refl [] w2)).mono ?_
  rintro e w3 ⟨rfl, hm3⟩
  have hs5 : 5 ≤ s.size := by omega
  have HRM3 := HRM w3 hm3
  have HM3 := Lib.hid hm3
  have hs' : ((s.size : Nat) : Int) = 512 := by omega
  clear hm3 HB HRM
  go_wp2_with fail
  refine HRM3.mono ?_
  rintro e w4 ⟨rfl, hm4⟩
  go_wp2
  go_ret
  exact ⟨rfl, (HM2.out.trans0 HM3.out).trans0 hm4⟩
end Go.Proofs.Ytooejjjogjfniaa
