/- The law of the room, walked. -/
import Derived.Test.YtooejjjogjfniaaSlotMade
set_option linter.unusedVariables false
set_option linter.unusedSimpArgs false
namespace Go.Proofs.Ytooejjjogjfniaa
open Go.RowKit Go.Proofs.YtooejjjogjfniaaW.PrintWords Go.Proofs.Ytooejjjogjfniaa.PSlotRoom Go.Proofs.YtooejjjogjfniaaW.PrintLast
theorem Fr.made {F : Nat → Prop} {w w1 w2 : World} (hm : Mod [] w w1) (hf : Fr F w1 w2) (h : ∀ k, F k → w.heap.size ≤ k) : Mod [] w w2 :=
  ((Fr.of_mod0 (F := nobody) hm).trans hf (fun t ht => .inr (h t ht))).mod (fun _ h => h.elim)
theorem recN_of (r : Int) (h : 0 ≤ r) (h2 : r ≤ 600) : ((recN r : Nat) : Int) = r := by unfold recN; omega
set_option maxRecDepth 100000 in
set_option maxHeartbeats 2000000 in
theorem roomW_any (A : Option Addr) (c : Nat) (ops : List S34) (w : World) (hr : Kd.C k34 w A ops.length ops) (hc : ops.length ≤ c) (hb : ∀ x ∈ ops, Op34 x) :
    Calls Try.prog 3 #[.slice A ops.length c] w fun e w' => e = .returned (.bool true) ∧ Mod [] w w' := by
  have HM := made_any A c ops w hr hc hb
  generalize runS [] (ops.take 80) = l at *
  clear hr hb
  go_enter Try.func3, Try.ntmps3
  go_wp2_with fail
  refine HM.mono ?_
  rintro e w1 ⟨fp, ok, g, v, rfl, hm1, hst⟩
  have hI := hst.inv
  obtain ⟨hr1, hr2⟩ := room_min l
  have HR1 := room_any w1 fp g l hst.pg hI
  have HR2 := fun w' hm => refRoom_any w' v ok l (row_mod hst.row hm) hI
  have HADD := fun w' s hm => add_any w' fp g l s (hst.pg.mod hm) hI
  have HADD2 := fun w' fp' s hp => add_any w' fp' g l s hp hI
  have hfpB := hst.fpB
  have HM1 := Lib.hid hm1
  have HST := Lib.hid hst
  have HER := fun s => @add_err l s
  have HSM := fun s => @add_same l s
  generalize room l = r at *
  clear hst hm1
  go_wp2_with fail
  refine HR1.mono ?_
  rintro e w2 ⟨rfl, hm2⟩
  have HR2' := HR2 w2 hm2
  go_wp2_with fail
  refine HR2'.mono ?_
  rintro e w3 ⟨rfl, hm3⟩
  have HM3 := Lib.hid (HM1.out.trans0 (hm2.trans0 hm3))
  have HADD3 := fun w' s hm => HADD w' s ((hm2.trans0 hm3).trans0 hm)
  have HP3 := Lib.hid (HST.out.pg.mod (hm2.trans0 hm3))
  clear hm2 hm3 HR1 HR2 HR2' HADD HST HM1
  by_cases c1 : r < 480
  · have hrec := rec_any 0 0 (r + 1) 0 w3 (by omega)
    have hsz : (recS (r + 1) 0).size ≤ 480 := by rw [recS_size]; unfold recN; omega
    have hsz2 : ((recS (r + 1) 0).size : Int) = r + 1 := by rw [recS_size]; exact recN_of _ (by omega) (by omega)
    have HA3 := fun w' hm => HADD3 w' (recS (r + 1) 0) hm
    have HE3 := HER (recS (r + 1) 0) hsz
    rw [if_neg (by omega)] at HE3
    have HS3 := HSM (recS (r + 1) 0) hsz (by omega)
    rw [HE3, HS3] at HA3
    generalize recS (r + 1) 0 = s1 at *
    clear HE3 HS3 HADD3
    go_wp2_with fail
    refine hrec.mono ?_
    rintro e w4 ⟨rfl, hm4⟩
    go_wp2_with fail
    refine (HA3 w4 hm4).mono ?_
    rintro e w6 ⟨rfl, hf6, hp6⟩
    have hm34 := HM3.out.trans0 hm4
    have HM6 := Lib.hid (Fr.made hm34 hf6 hfpB)
    have HP6 := Lib.hid hp6
    have HB6 := Lib.hid (fun k hk => grow_ge hfpB hm34.size hk : ∀ k, grow fp w4 w6 k → w.heap.size ≤ k)
    generalize grow fp w4 w6 = fp6 at *
    clear hm34 hm4 hf6 hp6 HA3
    by_cases c2 : r < 0
    · go_wp2_with fail
      refine (lives_any w6).mono ?_
      rintro e w7 ⟨rfl, hm7⟩
      go_wp2
      go_ret
      exact ⟨rfl, HM6.out.trans0 hm7⟩
    · have c3 : ¬ r < 0 := c2
      have hrec2 := rec_any 0 0 r 1 w6 (by omega)
      have hsz3 : (recS r 1).size ≤ 480 := by rw [recS_size]; unfold recN; omega
      have hsz4 : ((recS r 1).size : Int) = r := by rw [recS_size]; exact recN_of _ (by omega) (by omega)
      have HAD7 := fun w' hm => HADD2 w' fp6 (recS r 1) (HP6.out.mod hm)
      have HE7 := HER (recS r 1) hsz3
      rw [if_pos (by omega)] at HE7
      rw [HE7] at HAD7
      generalize recS r 1 = s2 at *
      clear HE7
      go_wp2_with fail
      refine hrec2.mono ?_
      rintro e w7 ⟨rfl, hm7⟩
      go_wp2_with fail
      refine (HAD7 w7 hm7).mono ?_
      rintro e w8 ⟨rfl, hf8, _⟩
      have HM8 := Lib.hid (Fr.made (HM6.out.trans0 hm7) hf8 HB6.out)
      clear hm7 hf8 HAD7
      go_wp2_with fail
      refine (lives_any w8).mono ?_
      rintro e w9 ⟨rfl, hm9⟩
      go_wp2
      go_ret
      exact ⟨rfl, HM8.out.trans0 hm9⟩
  · have HM6 := HM3
    have HP6 := HP3
    have HB6 := Lib.hid hfpB
    generalize fp = fp6 at *
    generalize w3 = w6 at *
    clear HADD3
    by_cases c2 : r < 0
    · omega
    · have c3 : ¬ r < 0 := c2
      have hrec2 := rec_any 0 0 r 1 w6 (by omega)
      have hsz3 : (recS r 1).size ≤ 480 := by rw [recS_size]; unfold recN; omega
      have hsz4 : ((recS r 1).size : Int) = r := by rw [recS_size]; exact recN_of _ (by omega) (by omega)
      have HAD7 := fun w' hm => HADD2 w' fp6 (recS r 1) (HP6.out.mod hm)
      have HE7 := HER (recS r 1) hsz3
      rw [if_pos (by omega)] at HE7
      rw [HE7] at HAD7
      generalize recS r 1 = s2 at *
      clear HE7
      go_wp2_with fail
      refine hrec2.mono ?_
      rintro e w7 ⟨rfl, hm7⟩
      go_wp2_with fail
      refine (HAD7 w7 hm7).mono ?_
      rintro e w8 ⟨rfl, hf8, _⟩
      have HM8 := Lib.hid (Fr.made (HM6.out.trans0 hm7) hf8 HB6.out)
      clear hm7 hf8 HAD7
      go_wp2_with fail
      refine (lives_any w8).mono ?_
      rintro e w9 ⟨rfl, hm9⟩
      go_wp2
      go_ret
      exact ⟨rfl, HM8.out.trans0 hm9⟩
theorem room_walk {H : Type} {enc : TypeId × Value → H} (v : Value) (d : DataW H) (p : List MemPlace) (w : World) (ho : Value.okWide Try.prog w .any 0 22 v) (h : DataW.Trod enc Try.prog w 0 (fun _ => true) true 22 v d p) :
    Calls Try.prog 3 #[v] w fun e w' => e = .returned (.bool true) ∧ Mod [] w w' := by
  obtain ⟨A, c, ops, rfl, hc, hr, hb⟩ := ops_open ho h
  exact roomW_any A c ops w hr hc hb
end Go.Proofs.Ytooejjjogjfniaa
