/- A page and the document's slots are alike. -/
import Derived.Test.YtooejjjogjfniaaSlotRefB
set_option linter.unusedVariables false
set_option linter.unusedSimpArgs false
namespace Go.Proofs.Ytooejjjogjfniaa
open Go.RowKit Go.Proofs.YtooejjjogjfniaaW.PrintWords Go.Proofs.Ytooejjjogjfniaa.PSlotRoom Go.Proofs.YtooejjjogjfniaaW.PrintLast
set_option maxRecDepth 100000 in
set_option maxHeartbeats 2000000 in
theorem alike_any (w : World) (B : Nat) (fp ok : Nat → Prop) (g : Nat) (A : Option Addr) (c : Nat) (l : List S42) (hst : St w B fp ok g (.slice A l.length c) l) (hc : l.length ≤ c) :
    Calls Try.prog 12 #[.pointer (some ⟨g, 0, none⟩), .slice A l.length c] w fun e w' => e = .returned (.bool true) ∧ Mod [] w w' := by
  have hI := hst.inv
  have hln := hI.len
  have HLEN := fun w' hm => len_any w' fp g l (hst.pg.mod hm)
  have HB1 := fun w' hm => bytes_any w' fp g l (hst.pg.mod hm) hI
  have HB2 := fun w' hm => refBytes_any A c l w' (C_mod (R_C hst.row) hm) hc hI
  have HGET := fun w' i hm => get_any w' fp g l i (hst.pg.mod hm)
  have HR := Lib.hid (R_C hst.row)
  obtain ⟨bs, hbs⟩ : ∃ bs, bytesS l = bs := ⟨_, rfl⟩
  rw [hbs] at HB1 HB2
  clear hst hI hbs
  go_enter Try.func12, Try.ntmps12
  go_wp2_with fail
  refine (HLEN w (Mod.refl [] w)).mono ?_
  rintro e w1 ⟨rfl, rfl⟩
  go_wp2_with fail
  refine (HB1 w (Mod.refl [] w)).mono ?_
  rintro e w2 ⟨rfl, hm2⟩
  go_wp2_with fail
  refine (HB2 w2 hm2).mono ?_
  rintro e w3 ⟨rfl, hm3⟩
  have HM3 := Lib.hid (hm2.trans0 hm3)
  clear hm2 hm3 HLEN HB1 HB2
  go_wp2_with fail
  go_loopw [5, 6, 7, 8] (fun i _ _ _ wr => ∃ k : Nat, i = .int .i64 ((k : Int) - 1) ∧ k ≤ l.length + 2 ∧ Mod [] w wr) (fun i _ _ _ _ => l.length + 2 - (intOf i + 1).toNat)
  case atStart => exact ⟨0, by simp, by omega, HM3.out⟩
  case round =>
    obtain ⟨k, rfl, hk, hm⟩ := hrel
    have HM := Lib.hid hm
    by_cases k0 : k = 0
    · subst k0
      have hg := HGET wr (-1) hm
      have e1 : hasS l (-1) = false := hasS_out (by omega)
      have e2 : getS l (-1) = ⟨#[]⟩ := by rw [getS, e1]; rfl
      rw [e1, e2] at hg
      have hle : (-1 : Int) ≤ (l.length : Int) := by omega
      rw [show ((0 : Nat) : Int) - 1 = -1 from rfl]
      clear hm e1 e2 HGET
      go_wp2_with fail
      refine hg.mono ?_
      rintro e w4 ⟨rfl, rfl⟩
      go_wp2
      go_roundw
      case rel => exact ⟨1, by simp, by omega, HM.out⟩
      case measure => first | (simp [intOf]; done) | (simp [intOf]; omega)
    · obtain ⟨j, rfl⟩ : ∃ j, k = j + 1 := ⟨k - 1, by omega⟩
      rw [show ((j + 1 : Nat) : Int) - 1 = (j : Int) by omega]
      have hj0 : (0 : Int) ≤ (j : Int) := by omega
      have hg := HGET wr (j : Int) hm
      by_cases hlt : j < l.length
      · obtain ⟨ad, rfl, p0, p1⟩ := ref_at HR.out j hlt
        have o0 := hm.cell p0 (by simp)
        have o1 := hm.cell p1 (by simp)
        have hlt2 : (j : Int) < (l.length : Int) := by omega
        have hle : (j : Int) ≤ (l.length : Int) := by omega
        have e1 : hasS l (j : Int) = l[j].f0 := hasS_mk hlt
        have e2 : getS l (j : Int) = if l[j].f0 = true then l[j].f1 else ⟨#[]⟩ := by rw [getS, e1, rd42 l j hlt]
        rw [e1, e2] at hg
        generalize l[j].f1 = s at *
        clear hm e1 e2 HGET p0 p1
        generalize l[j].f0 = b at *
        cases b
        · rw [if_neg (by simp)] at hg
          go_wp2_with fail
          refine hg.mono ?_
          rintro e w4 ⟨rfl, rfl⟩
          go_wp2
          go_roundw
          case rel => exact ⟨j + 2, by congr 1; omega, by omega, HM.out⟩
          case measure => first | (simp [intOf]; done) | (simp [intOf]; omega)
        · rw [if_pos rfl] at hg
          go_wp2_with fail
          refine hg.mono ?_
          rintro e w4 ⟨rfl, rfl⟩
          go_wp2
          go_roundw
          case rel => exact ⟨j + 2, by congr 1; omega, by omega, HM.out⟩
          case measure => first | (simp [intOf]; done) | (simp [intOf]; omega)
      · have e1 : hasS l (j : Int) = false := hasS_out (by omega)
        have e2 : getS l (j : Int) = ⟨#[]⟩ := by rw [getS, e1]; rfl
        rw [e1, e2] at hg
        have hlt2 : ¬ (j : Int) < (l.length : Int) := by omega
        clear hm e1 e2 HGET
        by_cases he : j = l.length
        · subst he
          have hle : ((l.length : Nat) : Int) ≤ (l.length : Int) := by omega
          go_wp2_with fail
          refine hg.mono ?_
          rintro e w4 ⟨rfl, rfl⟩
          go_wp2
          go_roundw
          case rel => exact ⟨l.length + 2, by congr 1; omega, by omega, HM.out⟩
          case measure => first | (simp [intOf]; done) | (simp [intOf]; omega)
        · have hle : ¬ (j : Int) ≤ (l.length : Int) := by omega
          clear hg
          go_wp2
          go_ret
          exact ⟨rfl, HM.out⟩
end Go.Proofs.Ytooejjjogjfniaa
