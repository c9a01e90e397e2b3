/- What a disk keeps, in plain Lean. -/
import Derived.Test.YtcohfbmfmlmblaaDkPlayed
import Derived.Test.YtcohfbmfmlmblaaDkFuses
set_option linter.unusedVariables false
set_option linter.unusedSimpArgs false
namespace Go.Proofs.Ytcohfbmfmlmblaa
open Go.RowKit Go.Proofs.YtcohfbmfmlmblaaW.PrintWords Go.Proofs.Ytcohfbmfmlmblaa.PDiskPlays
theorem write_len (D : DK) (i : Int) (s : ByteArray) : (writeD D i s).l.length = D.l.length := by
  unfold writeD
  split
  · split
    · split
      · exact congrArg List.length (burn_l D)
      · exact congrArg List.length (burn_l D)
    · rfl
  · rfl
theorem bar_len (D : DK) : (barD D).l.length = D.l.length := by
  unfold barD
  split
  · split
    · exact applyAll_len _ _
    · exact congrArg List.length (burn_l D)
  · rfl
theorem step_len (o : S25) (D : DK) : (stepO o D).l.length = D.l.length := by
  unfold stepO
  split
  · exact write_len _ _ _
  · split
    · exact bar_len D
    · split
      · rfl
      · split
        · exact failTo_len _ _ _ _ _ _
        · split
          · unfold startD; split <;> rfl
          · rfl
theorem run_len (ops : List S25) : ∀ D : DK, (runO ops D).l.length = D.l.length := by
  induction ops with
  | nil => intro D; rfl
  | cons o t ih => intro D; show (runO t (stepO o D)).l.length = _; rw [ih, step_len]
theorem run_len4 (ops : List S25) : (runO ops (newD 4)).l.length = 4 := by rw [run_len]; simp [newD]
theorem run_good (ops : List S25) (hw : ∀ o ∈ ops, o.f2 ≤ 9223372036854775807) : Good (runO ops (newD 4)) ops.length := by
  have := good_run ops 4 (by omega) (by omega) hw ops.length (Nat.le_refl _)
  rwa [List.take_length] at this
/-- The sector i is s, and no write of it waits. -/
def Hold (D : DK) (i : Nat) (s : ByteArray) : Prop := D.l.getD i ⟨#[]⟩ = s ∧ ∀ x ∈ D.row, x.f0 ≠ (i : Int)
theorem getD_set_ne {l : List ByteArray} {i j : Nat} (h : i ≠ j) (s : ByteArray) : (l.set i s).getD j ⟨#[]⟩ = l.getD j ⟨#[]⟩ := by
  rw [List.getD_eq_getElem?_getD, List.getElem?_set_ne h, ← List.getD_eq_getElem?_getD]
theorem getD_set_eq {l : List ByteArray} {i : Nat} (h : i < l.length) (s : ByteArray) : (l.set i s).getD i ⟨#[]⟩ = s := by
  rw [List.getD_eq_getElem?_getD, List.getElem?_set_self h]; rfl
theorem apply_get (i : Nat) (row : List S65) : ∀ l : List ByteArray, i < l.length → (∀ x ∈ row, 0 ≤ x.f0) →
    (applyAll l row).getD i ⟨#[]⟩ = (match row.reverse.find? (fun x => x.f0 == (i : Int)) with | some x => x.f1 | none => l.getD i ⟨#[]⟩) := by
  induction row with
  | nil => intro l _ _; rfl
  | cons x t ih =>
    intro l hl hr
    have hx := hr x List.mem_cons_self
    rw [applyAll_cons, ih _ (by rw [List.length_set]; exact hl) (fun y hy => hr y (List.mem_cons_of_mem _ hy)), List.reverse_cons, List.find?_append]
    cases hf : t.reverse.find? (fun x => x.f0 == (i : Int)) with
    | some y => rfl
    | none =>
      by_cases he : x.f0 = (i : Int)
      · have h2 : ([x].find? fun x => x.f0 == (i : Int)) = some x := by simp [he]
        rw [h2]
        show (l.set x.f0.toNat x.f1).getD i _ = x.f1
        rw [he, Int.toNat_natCast]
        exact getD_set_eq hl _
      · have h2 : ([x].find? fun x => x.f0 == (i : Int)) = none := by simp [he]
        rw [h2]
        show (l.set x.f0.toNat x.f1).getD i _ = l.getD i _
        exact getD_set_ne (by omega) _
/-- A barrier that goes well brings out what was read. -/
theorem bar_hold {D : DK} {b : Nat} (hG : Good D b) (h : barE D = 0) (i : Nat) (hi : i < D.l.length) : Hold (barD D) i (readS D i) := by
  have hc : canE D 0 = 0 := by
    unfold barE at h
    split at h
    · assumption
    · exact h
  have hb : burnE D = 0 := by unfold barE at h; rwa [if_pos hc] at h
  have hd : D.down = false := by
    unfold canE at hc
    cases hd : D.down
    · rfl
    · rw [hd] at hc; cases hc
  have hci : canE D (i : Int) = 0 := can_up hd _ (by omega) (by omega)
  have e : barD D = { burnD D with l := applyAll D.l D.row, row := [] } := by unfold barD; rw [if_pos hc, if_pos hb]
  rw [e]
  refine ⟨?_, fun x hx => by cases hx⟩
  show (applyAll D.l D.row).getD i _ = _
  rw [apply_get i D.row D.l hi (fun x hx => (hG.ats x hx).1)]
  unfold readS
  rw [if_pos hci, Int.toNat_natCast]
  cases List.find? (fun x => x.f0 == (i : Int)) D.row.reverse <;> rfl
theorem bar_down {D : DK} {b : Nat} (hG : Good D b) (h : barE D ≠ 0) : (barD D).down = true := by
  by_cases hd : D.down = true
  · have hc : canE D 0 = 9 := can_down hd 0
    unfold barD
    rw [if_neg (by omega)]
    exact hd
  · have hd' : D.down = false := by simpa using hd
    have hc : canE D 0 = 0 := can_up hd' 0 (by omega) (by have := hG.lp; omega)
    have hb : burnE D ≠ 0 := by unfold barE at h; rwa [if_pos hc] at h
    unfold barD
    rw [if_pos hc, if_neg hb]
    unfold burnE at hb
    unfold burnD
    split
    · rfl
    · rename_i h0; exact absurd (if_neg h0) hb
theorem Hold.write {D : DK} {i : Nat} {s : ByteArray} (h : Hold D i s) (j : Int) (t : ByteArray) (hj : j ≠ (i : Int)) : Hold (writeD D j t) i s := by
  unfold writeD
  have hB : Hold (burnD D) i s := ⟨by rw [burn_l]; exact h.1, by rw [burn_row]; exact h.2⟩
  split
  · split
    · split
      · refine ⟨hB.1, fun x hx => ?_⟩
        rcases List.mem_append.1 hx with hx | hx
        · exact hB.2 x hx
        · rw [List.mem_singleton.1 hx]; exact hj
      · exact hB
    · exact h
  · exact h
theorem Hold.bar {D : DK} {b : Nat} (hG : Good D b) {i : Nat} {s : ByteArray} (hi : i < D.l.length) (h : Hold D i s) : Hold (barD D) i s := by
  have hB : Hold (burnD D) i s := ⟨by rw [burn_l]; exact h.1, by rw [burn_row]; exact h.2⟩
  unfold barD
  split
  · split
    · refine ⟨?_, fun x hx => by cases hx⟩
      show (applyAll D.l D.row).getD i _ = s
      rw [apply_get i D.row D.l hi (fun x hx => (hG.ats x hx).1)]
      have : D.row.reverse.find? (fun x => x.f0 == (i : Int)) = none := List.find?_eq_none.2 (fun x hx => by
        have := h.2 x (List.mem_reverse.1 hx)
        simpa using this)
      rw [this]
      exact h.1
    · exact hB
  · exact h
theorem failTo_get (keep : List Bool) (torn : Int) (n : Nat) (i : Nat) (l : List ByteArray) (row : List S65) (hr : ∀ x ∈ row, 0 ≤ x.f0 ∧ x.f0 ≠ (i : Int)) : ∀ k, k ≤ row.length → (failTo keep torn n l row k).getD i ⟨#[]⟩ = l.getD i ⟨#[]⟩
  | 0, _ => rfl
  | k + 1, h => by
    have hm : rd_T65 row (k : Int) ∈ row := by rw [rd65 row k (by omega)]; exact List.getElem_mem _
    obtain ⟨h0, h1⟩ := hr _ hm
    have ih := failTo_get keep torn n i l row hr k (by omega)
    rw [failTo, failStep]
    split
    · rw [getD_set_ne (by omega)]; exact ih
    · split
      · rw [getD_set_ne (by omega)]; exact ih
      · exact ih
theorem Hold.fail {D : DK} {b : Nat} (hG : Good D b) {i : Nat} {s : ByteArray} (h : Hold D i s) (keep : List Bool) (torn a : Int) : Hold (failD D keep torn a) i s :=
  ⟨(failTo_get keep torn _ i D.l D.row (fun x hx => ⟨(hG.ats x hx).1, h.2 x hx⟩) _ (Nat.le_refl _)).trans h.1, fun x hx => by cases hx⟩
/-- Behind a failure and a start. -/
def backD (D : DK) (o : S25) : DK := startD (failD D o.f6 o.f3 o.f2)
theorem back_eq (D : DK) (o : S25) : backD D o = ⟨(failD D o.f6 o.f3 o.f2).l, [], -1, false, D.done⟩ := rfl
theorem back_read {D : DK} {b : Nat} (hG : Good D b) (o : S25) (i : Nat) (hi : i < D.l.length) : canE (backD D o) i = 0 ∧ ∀ s, Hold D i s → readS (backD D o) i = s := by
  have hl : (backD D o).l.length = D.l.length := failTo_len _ _ _ _ _ _
  have hc : canE (backD D o) (i : Int) = 0 := can_up rfl _ (by omega) (by rw [hl]; omega)
  refine ⟨hc, fun s hs => ?_⟩
  unfold readS
  rw [if_pos hc, Int.toNat_natCast]
  exact (hs.fail hG o.f6 o.f3 o.f2).1
/-- What the law does more. -/
def moreD (o : S25) (D : DK) : DK := if o.f0 = 0 then writeD D o.f1 (FIL o.f4 o.f5) else if o.f0 = 1 then barD D else D
theorem more_len (o : S25) (D : DK) : (moreD o D).l.length = D.l.length := by
  unfold moreD
  split
  · exact write_len _ _ _
  · split
    · exact bar_len D
    · rfl
theorem Hold.more {D : DK} {b : Nat} (hG : Good D b) {i : Nat} {s : ByteArray} (hi : i < D.l.length) (h : Hold D i s) (o : S25) (ho : o.f0 = 0 → o.f1 ≠ (i : Int)) : Hold (moreD o D) i s := by
  unfold moreD
  split
  · exact h.write _ _ (ho (by assumption))
  · split
    · exact h.bar hG hi
    · exact h
theorem Good.more {D : DK} {b : Nat} (h : Good D b) (o : S25) (ho : o.f2 ≤ 9223372036854775807) : Good (moreD o D) (b + 1) := by
  have h1 := h.step o ho
  unfold stepO at h1
  unfold moreD
  split
  · rwa [if_pos (by assumption)] at h1
  · rw [if_neg (by assumption)] at h1
    split
    · rwa [if_pos (by assumption)] at h1
    · exact h.up
end Go.Proofs.Ytcohfbmfmlmblaa
