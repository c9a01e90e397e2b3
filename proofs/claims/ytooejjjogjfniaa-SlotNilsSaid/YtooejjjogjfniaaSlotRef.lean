/- The document's steps, and the law's records. -/
import Derived.Test.YtooejjjogjfniaaSlotBytes
set_option linter.unusedVariables false
set_option linter.unusedSimpArgs false
namespace Go.Proofs.Ytooejjjogjfniaa
open Go.RowKit Go.Proofs.YtooejjjogjfniaaW.PrintWords Go.Proofs.Ytooejjjogjfniaa.PSlotRoom Go.Proofs.YtooejjjogjfniaaW.PrintLast
/-- A record of the law's: so many bytes, all the same. -/
def recN (long : Int) : Nat := (max 0 (min long 600)).toNat
def recS (long fill : Int) : ByteArray := strOfNums (List.replicate (recN long) fill)
theorem recN_le (long : Int) : recN long ≤ 600 := by unfold recN; omega
theorem recS_size (long fill : Int) : (recS long fill).size = recN long := by rw [recS, str_size, List.length_replicate]
theorem rec_from (m : Nat) (hm : m ≤ 600) (fill x y z : Int) (d : Nat) : ∀ i : Nat, i + d = m → hibernaclelaw09_rec.l0 (d + 1) (List.replicate i fill ++ List.replicate d 0) (i : Int) x y z fill = some (strOfNums (List.replicate m fill)) := by
  induction d with
  | zero =>
    intro i h
    obtain rfl : i = m := by omega
    simp only [hibernaclelaw09_rec.l0]
    rw [if_neg (by simp)]
    simp
  | succ d ih =>
    intro i h
    simp only [hibernaclelaw09_rec.l0]
    rw [if_pos (by simp; omega), if_pos (by omega), wrapS i (by omega), Int.toNat_natCast]
    have hs : (List.replicate i fill ++ List.replicate (d + 1) (0 : Int)).set i fill = List.replicate (i + 1) fill ++ List.replicate d (0 : Int) := by
      rw [List.set_append_right _ _ (by simp), List.length_replicate, Nat.sub_self, List.replicate_succ (n := d), List.set_cons_zero, List.replicate_succ' (n := i), List.append_assoc]
      rfl
    rw [hs]
    exact ih (i + 1) (by omega)
theorem rec_any (a b long fill : Int) (w : World) (hl : -9223372036854775808 ≤ long ∧ long ≤ 9223372036854775807) :
    Calls Try.prog 10 #[.agg #[.int .i64 a, .int .i64 b, .int .i64 long, .int .u8 fill]] w fun e w' => e = .returned (.string (recS long fill)) ∧ Mod [] w w' := by
  refine (hibernaclelaw09_rec.calls (recN long + 1) a b long fill (recS long fill) w ?_).mono fun e w' h => ⟨h.1, Mod.of_below h.2⟩
  have hn := recN_le long
  have hm : (mx 0 (mn long 600)).toNat = recN long := by unfold mx mn recN; split <;> split <;> omega
  unfold hibernaclelaw09_rec.f
  rw [hm, if_pos (by unfold mx; split <;> omega), if_pos (by omega)]
  have := rec_from (recN long) hn fill a b long (recN long) 0 (by omega)
  simpa [recS] using this
def w00 (w : World) : World := { w with heap := #[] }
theorem w00_below (w : World) : Below (w00 w).heap.size (w00 w) w := ⟨rfl, rfl, rfl, by simp [w00], fun k hk => by simp [w00] at hk⟩
theorem fr_of_kept {w w' : World} {F : Nat → Prop} (hb : Below (w00 w).heap.size (w00 w) w') (hk : Kept w w' F) : Fr F w w' := ⟨hb.os, hb.tape, hb.output, hk.1, hk.2⟩
theorem refPut_any (w : World) (ok : Nat → Prop) (v : Value) (l : List S42) (i : Int) (s : ByteArray) (h : Kd.R k42 42 w 0 ok v l) (hi : Inv l) (hs : s.size ≤ 100000) :
    Calls Try.prog 27 #[v, .int .i64 i, .string s] w fun e w' => ∃ v', e = .returned (.tuple #[v', .int .i64 (putS l i s).2]) ∧ Fr ok w w' ∧ Kd.R k42 42 w' 0 (grow ok w w') v' (putS l i s).1 := by
  refine (hibernacleref09_Put.calls 80 ok v l i s (putS l i s).1 (putS l i s).2 (w00 w) w (w00_below w) h (put_some hi i s hs)).mono ?_
  rintro e w' ⟨v', he, hr, hb, hk⟩
  exact ⟨v', he, fr_of_kept hb hk, Kd.R_mono (row_lt hr) (fun k hk => hk)⟩
theorem refDrop_any (w : World) (ok : Nat → Prop) (v : Value) (l : List S42) (i : Int) (h : Kd.R k42 42 w 0 ok v l) (hi : Inv l) :
    Calls Try.prog 28 #[v, .int .i64 i] w fun e w' => ∃ v', e = .returned (.tuple #[v', .bool (dropS l i).2]) ∧ Fr ok w w' ∧ Kd.R k42 42 w' 0 (grow ok w w') v' (dropS l i).1 := by
  refine (hibernacleref09_Drop.calls 80 ok v l i (dropS l i).1 (dropS l i).2 (w00 w) w (w00_below w) h (drop_some hi i)).mono ?_
  rintro e w' ⟨v', he, hr, hb, hk⟩
  exact ⟨v', he, fr_of_kept hb hk, Kd.R_mono (row_lt hr) (fun k hk => hk)⟩
theorem refBare_any (A : Option Addr) (c : Nat) (l : List S42) (w : World) (hr : Kd.C k42 w A l.length l) (hc : l.length ≤ c) (hl : l.length ≤ 1000) :
    Calls Try.prog 29 #[.slice A l.length c] w fun e w' => e = .returned (.int .i64 (bare l : Int)) ∧ Mod [] w w' :=
  (hibernacleref09_Bare.calls (l.length + 1) A c l _ w hr hc (bare_some l (by omega) _ (Nat.lt_succ_self _))).mono fun e w' h => ⟨h.1, Mod.of_below h.2.below⟩
theorem refNeed_any (A : Option Addr) (c : Nat) (l : List S42) (w : World) (hr : Kd.C k42 w A l.length l) (hc : l.length ≤ c) (hl : l.length ≤ 1000) (hz : szs l ≤ 1000000) :
    Calls Try.prog 31 #[.slice A l.length c] w fun e w' => e = .returned (.int .i64 (need l : Int)) ∧ Mod [] w w' :=
  (hibernacleref09_Need.calls (l.length + 1) A c l _ w hr hc (need_some l hl hz _ (Nat.lt_succ_self _))).mono fun e w' h => ⟨h.1, Mod.of_below h.2.below⟩
theorem refWith_any (A : Option Addr) (c : Nat) (l : List S42) (i : Nat) (b : Bool) (s : ByteArray) (w : World) (hr : Kd.C k42 w A l.length l) (hc : l.length ≤ c) (hl : l.length ≤ 1000) (hi : i ≤ l.length) :
    Calls Try.prog 30 #[.slice A l.length c, .int .i64 (i : Int), .agg #[.bool b, .string s]] w fun e w' => ∃ A' c', e = .returned (.slice A' (setAt l i ⟨b, s⟩).length c') ∧ (setAt l i ⟨b, s⟩).length ≤ c' ∧ Mod [] w w' ∧ Kd.R k42 42 w' 0 (fun k => w.heap.size ≤ k ∧ k < w'.heap.size) (.slice A' (setAt l i ⟨b, s⟩).length c') (setAt l i ⟨b, s⟩) := by
  refine (hibernacleref09_with.calls A c l i b s _ w hr hc (with_some l (by omega) i hi b s)).mono ?_
  rintro e w' ⟨v', rfl, hr', hb⟩
  obtain ⟨A', c', rfl, hc', _⟩ := Kd.R_reads hr'
  exact ⟨A', c', rfl, hc', Mod.of_below hb, Kd.R_mono (Kd.R_lower (Kd.R_bound hr') (Nat.zero_le _)) (fun k hk => ⟨hk.2.1, hk.2.2.1⟩)⟩
set_option maxRecDepth 100000 in
set_option maxHeartbeats 1000000 in
theorem refAdd_any (w : World) (ok : Nat → Prop) (v : Value) (l : List S42) (s : ByteArray) (h : Kd.R k42 42 w 0 ok v l) (hi : Inv l) (hs : s.size ≤ 100000) :
    Calls Try.prog 23 #[v, .string s] w fun e w' => ∃ v', e = .returned (.tuple #[v', .int .i64 (addS l s).2.1, .int .i64 (addS l s).2.2]) ∧ Mod [] w w' ∧ Kd.R k42 42 w' 0 (grow ok w w') v' (addS l s).1 := by
  have hln := hi.len
  have hlt := row_lt h
  obtain ⟨A, c, rfl, hc, hr⟩ := Kd.R_reads h
  unfold addS
  by_cases hl : 480 < s.size
  · rw [if_pos hl]
    have t1 : (480 : Int) < (s.size : Int) := by omega
    have HLT := Lib.hid hlt
    clear hl hlt h hr
    go_enter Try.func23, Try.ntmps23
    go_wp2
    go_ret3
    exact ⟨_, rfl, Mod.refl [] w, Kd.R_mono HLT.out (fun k hk => grow_old hk.1 hk.2)⟩
  · rw [if_neg hl]
    have t1 : ¬ (480 : Int) < (s.size : Int) := by omega
    have hnd := hi.nd
    have hbl := bare_le l
    have hsn := setAt_need hi s
    have hsl := setAt_len l (bare l) ⟨true, s⟩
    have hri := room_iff hi s (by omega)
    have hzn := szs_need (setAt l (bare l) ⟨true, s⟩)
    have HB := refBare_any A c l w hr hc (by omega)
    have HW := fun w' hw' => refWith_any A c l (bare l) true s w' hw' hc (by omega) hbl
    have hl65 : (setAt l (bare l) ⟨true, s⟩).length ≤ 65 := by rw [hsl]; split <;> omega
    have hn9 : need (setAt l (bare l) ⟨true, s⟩) ≤ 200000 := by rw [hsn]; split <;> omega
    have HND := fun w' A' c' hw' hc' => refNeed_any A' c' (setAt l (bare l) ⟨true, s⟩) w' hw' hc' (by omega) (by omega)
    have HLT := Lib.hid hlt
    have HR := Lib.hid hr
    have HRI := Lib.hid hri
    clear hl hlt h hr hsn hsl hri hzn hbl
    generalize bare l = i at *
    generalize setAt l i ⟨true, s⟩ = m at *
    generalize need m = nd at *
    go_enter Try.func23, Try.ntmps23
    go_wp2_with fail
    refine HB.mono ?_
    rintro e w1 ⟨rfl, hm1⟩
    go_wp2_with fail
    refine (HW w1 (C_mod HR.out hm1)).mono ?_
    rintro e w2 ⟨A', c', rfl, hc', hm2, hr2⟩
    have HM2 := Lib.hid (hm1.trans0 hm2)
    have HR2 := Lib.hid hr2
    have hz1 := hm1.size
    clear hm1 hm2 hr2
    by_cases c1 : m.length ≤ 64
    · have s1 : ¬ 64 < m.length := by omega
      have s2 : ¬ (64 : Int) < (m.length : Int) := by omega
      have hnd2 := HND w2 A' c' (R_C HR2.out) hc'
      by_cases c2 : nd ≤ 512
      · have s3 : ¬ (512 : Int) < (nd : Int) := by omega
        have hroom := Lib.hid (HRI.out.2 ⟨c1, c2⟩)
        clear c1 c2
        go_wp2_with fail
        refine hnd2.mono ?_
        rintro e w3 ⟨rfl, hm3⟩
        go_wp2
        go_ret3
        have hz3 := hm3.size
        try rw [if_pos hroom.out]
        exact ⟨_, rfl, HM2.out.trans0 hm3, Kd.R_mono (row_mod HR2.out hm3) (fun k hk => ⟨.inr (by have := hk.1; omega), by have := hk.2; omega⟩)⟩
      · have s3 : (512 : Int) < (nd : Int) := by omega
        have hroom := Lib.hid (fun h => c2 (HRI.out.1 h).2)
        clear c1 c2
        go_wp2_with fail
        refine hnd2.mono ?_
        rintro e w3 ⟨rfl, hm3⟩
        go_wp2
        go_ret3
        try rw [if_neg hroom.out]
        have hm9 := HM2.out.trans0 hm3
        exact ⟨_, rfl, hm9, Kd.R_mono (row_mod HLT.out hm9) (fun k hk => grow_old hk.1 (by have := hm9.size; have := hk.2; omega))⟩
    · have s2 : (64 : Int) < (m.length : Int) := by omega
      have s1 : 64 < m.length := by omega
      have hroom := Lib.hid (fun h => c1 (HRI.out.1 h).1)
      clear c1
      go_wp2
      go_ret3
      try rw [if_neg hroom.out]
      exact ⟨_, rfl, HM2.out, Kd.R_mono (row_mod HLT.out HM2.out) (fun k hk => grow_old hk.1 (by have := HM2.out.size; have := hk.2; omega))⟩
end Go.Proofs.Ytooejjjogjfniaa
