/- The document's disk: what its functions give. -/
import Derived.Test.YtcohfbmfmlmblaaDkLives
import Derived.Test.YtcohfbmfmlmblaaPDiskPlaysx2
import Derived.Test.YtcohfbmfmlmblaaPDiskPlaysx4
set_option linter.unusedVariables false
set_option linter.unusedSimpArgs false
namespace Go.Proofs.Ytcohfbmfmlmblaa
open Go.RowKit Go.Proofs.YtcohfbmfmlmblaaW.PrintWords Go.Proofs.Ytcohfbmfmlmblaa.PDiskPlays Go.Proofs.YtcohfbmfmlmblaaW.PrintMore
theorem can_up' {D : DK} (h : D.down = false) {i : Int} (h0 : 0 ≤ i) (h1 : i < D.l.length) : canE D i = 0 := by
  unfold canE; rw [h, if_neg (by simp), if_neg (by omega)]
def toR (x : S65) : S78 := ⟨x.f0, x.f1⟩
def rows (l : List S65) : List S78 := l.map toR
theorem rd78 (row : List S65) (k : Nat) (h : k < row.length) : rd_T78 (rows row) (k : Int) = toR row[k] := by
  simp [rd_T78, rows, List.getD_eq_getElem?_getD, h]
theorem wr64 {x : Int} (h0 : -9223372036854775808 ≤ x) (h1 : x ≤ 9223372036854775807) : wrap64 x = x := by unfold wrap64; omega
theorem burn_f (D : DK) (hf : D.fuse ≤ 9223372036854775807) (hd : 0 ≤ D.done ∧ D.done ≤ 1000000) :
    hibernacleref04_burn.f D.l (rows D.row) D.fuse D.down D.done = some ((burnD D).l, rows (burnD D).row, (burnD D).fuse, (burnD D).down, (burnD D).done, burnE D) := by
  unfold hibernacleref04_burn.f burnD burnE
  by_cases h0 : D.fuse = 0
  · simp only [if_pos h0]
  · simp only [if_neg h0]
    by_cases h1 : 0 < D.fuse
    · rw [if_pos h1, if_pos h1, wr64 (by omega) (by omega), wr64 (by omega) (by omega)]
    · rw [if_neg h1, if_neg h1, wr64 (by omega) (by omega)]
theorem put_f (D : DK) (i : Int) (s : ByteArray) (hf : D.fuse ≤ 9223372036854775807) (hd : 0 ≤ D.done ∧ D.done ≤ 1000000) (hl : D.row.length ≤ 1000) :
    hibernacleref04_Put.f 1 D.l (rows D.row) D.fuse D.down D.done i s = some ((writeD D i s).l, rows (writeD D i s).row, (writeD D i s).fuse, (writeD D i s).down, (writeD D i s).done, writeE D i s) := by
  unfold hibernacleref04_Put.f writeD writeE
  cases hdn : D.down with
  | true =>
    have hc : canE D i = 9 := by unfold canE; rw [hdn]; rfl
    rw [hc]; simp [hdn]
  | false =>
    have key : ∀ b : Bool, hibernacleref04_Put.j0 1 i s b D.l (rows D.row) D.fuse false D.done = if b = true then some (D.l, rows D.row, D.fuse, false, D.done, 7) else if s.size = 128 then
        (if burnE D = 0 then some ((burnD D).l, rows ((burnD D).row ++ [⟨i, s⟩]), (burnD D).fuse, (burnD D).down, (burnD D).done, 0) else some ((burnD D).l, rows (burnD D).row, (burnD D).fuse, (burnD D).down, (burnD D).done, burnE D)) else some (D.l, rows D.row, D.fuse, false, D.done, 1) := by
      intro b
      have hb := burn_f D hf hd
      rw [hdn] at hb
      rw [hibernacleref04_Put.j0, hb]
      cases b
      · simp only [Option.bind_some, Bool.false_eq_true, if_false]
        have hrl : (burnD D).row.length = D.row.length := by rw [burn_row]
        by_cases hs : s.size = 128
        · rw [if_pos (show (s.size : Int) = 128 by omega), if_pos hs]
          by_cases he : burnE D = 0
          · rw [if_pos he, if_pos he, if_pos (by simp [rows]; omega)]
            simp only [List.nil_append]
            rw [if_pos (by simp [rows]; omega)]
            simp [rows, toR]
          · rw [if_neg he, if_neg he]
        · rw [if_neg (show ¬ (s.size : Int) = 128 by omega), if_neg hs]
      · simp
    simp only [Bool.false_eq_true, if_false]
    by_cases i0 : i < 0
    · have hc : canE D i = 7 := by unfold canE; rw [hdn, if_neg (by simp), if_pos (.inl i0)]
      rw [if_pos i0, key, hc]
      simp [hdn]
    · rw [if_neg i0, key]
      by_cases i1 : i ≥ (D.l.length : Int)
      · have hc : canE D i = 7 := by unfold canE; rw [hdn, if_neg (by simp), if_pos (.inr i1)]
        rw [hc]
        simp [hdn, i1]
      · have hc : canE D i = 0 := by unfold canE; rw [hdn, if_neg (by simp), if_neg (by omega)]
        rw [hc]
        simp only [i1, decide_false, Bool.false_eq_true, if_false, if_true]
        by_cases hs : s.size = 128
        · by_cases he : burnE D = 0
          · simp only [hs, he, if_true]
          · simp only [hs, he, if_true, if_false]
        · simp only [hs, if_false, hdn]
theorem with_f (l : List ByteArray) (i : Int) (s : ByteArray) (h0 : 0 ≤ i) (h1 : i < l.length) (hl : l.length ≤ 1000000) : hibernacleref04_with.f l i s = some (l.set i.toNat s) := by
  unfold hibernacleref04_with.f
  rw [if_pos (by simp only [List.length_nil]; omega)]
  simp only [List.nil_append, Option.bind_some]
  rw [if_pos h0, if_pos h1]
theorem applyAll_cons (l : List ByteArray) (x : S65) (t : List S65) : applyAll l (x :: t) = applyAll (l.set x.f0.toNat x.f1) t := rfl
theorem bar_l0 (row : List S65) (n : Nat) (hn : n ≤ 1000000) (hr : row.length ≤ 1000) (hat : ∀ x ∈ row, 0 ≤ x.f0 ∧ x.f0 < (n : Int)) (f : Int) (d : Bool) (c : Int) : ∀ (m j : Nat), j + m = row.length → ∀ (l : List ByteArray), l.length = n → ∀ k, m < k →
    hibernacleref04_Barrier.l0 k (j : Int) l (rows row) f d c = some (applyAll l (row.drop j), [], f, d, c, 0) := by
  intro m
  induction m with
  | zero =>
    intro j hj l hl k hk
    obtain ⟨k, rfl⟩ : ∃ q, k = q + 1 := ⟨k - 1, by omega⟩
    rw [hibernacleref04_Barrier.l0, if_neg (by simp [rows]; omega), List.drop_of_length_le (by omega)]
    rfl
  | succ m ih =>
    intro j hj l hl k hk
    obtain ⟨k, rfl⟩ : ∃ q, k = q + 1 := ⟨k - 1, by omega⟩
    have hjl : j < row.length := by omega
    have hx := hat row[j] (List.getElem_mem hjl)
    rw [hibernacleref04_Barrier.l0, if_pos (by simp [rows]; omega), if_pos (by omega), rd78 row j hjl]
    show (hibernacleref04_with.f l row[j].f0 row[j].f1).bind _ = _
    rw [with_f l _ _ hx.1 (by rw [hl]; exact hx.2) (by omega), Option.bind_some, wr64 (by omega) (by omega), show ((j : Int) + 1) = ((j + 1 : Nat) : Int) by omega, ih (j + 1) (by omega) _ (by rw [List.length_set]; exact hl) k (by omega), List.drop_eq_getElem_cons hjl, applyAll_cons]
theorem bar_f (D : DK) (hf : D.fuse ≤ 9223372036854775807) (hd : 0 ≤ D.done ∧ D.done ≤ 1000000) (hl : D.row.length ≤ 1000) (hll : D.l.length ≤ 1000000) (hlp : 0 < D.l.length) (hat : ∀ x ∈ D.row, 0 ≤ x.f0 ∧ x.f0 < D.l.length) :
    hibernacleref04_Barrier.f 1001 D.l (rows D.row) D.fuse D.down D.done = some ((barD D).l, rows (barD D).row, (barD D).fuse, (barD D).down, (barD D).done, barE D) := by
  unfold hibernacleref04_Barrier.f barD barE
  cases hdn : D.down with
  | true =>
    have hc : canE D 0 = 9 := by unfold canE; rw [hdn]; rfl
    rw [hc]; simp [hdn]
  | false =>
    have hc : canE D 0 = 0 := can_up' hdn (by omega) (by omega)
    have hb := burn_f D hf hd
    rw [hdn] at hb
    rw [hb, hc]
    simp only [Bool.false_eq_true, if_false, if_true, Option.bind_some]
    by_cases he : burnE D = 0
    · rw [if_pos he, if_pos he, burn_l, burn_row]
      have := bar_l0 D.row D.l.length hll hl hat (burnD D).fuse (burnD D).down (burnD D).done D.row.length 0 (by omega) D.l rfl 1001 (by omega)
      rw [show ((0 : Nat) : Int) = 0 from rfl] at this
      rw [this, List.drop_zero, he]
      rfl
    · rw [if_neg he, if_neg he]
/-- The last write's bytes. -/
def lastOf (i : Int) (s : ByteArray) (row : List S65) : ByteArray := row.foldl (fun s x => if x.f0 = i then x.f1 else s) s
theorem lastOf_find (i : Int) (s : ByteArray) (row : List S65) : lastOf i s row = match row.reverse.find? (fun x => x.f0 == i) with | some x => x.f1 | none => s := by
  have key : ∀ r : List S65, lastOf i s r.reverse = match r.find? (fun x => x.f0 == i) with | some x => x.f1 | none => s := by
    intro r
    induction r with
    | nil => rfl
    | cons x t ih =>
      rw [List.reverse_cons, lastOf, List.foldl_append]
      show (if x.f0 = i then x.f1 else lastOf i s t.reverse) = _
      by_cases h : x.f0 = i
      · rw [if_pos h, List.find?_cons_of_pos (by simp [h])]
      · rw [if_neg h, List.find?_cons_of_neg (by simp [h]), ih]
  rw [← key row.reverse, List.reverse_reverse]
theorem read_l0 (row : List S65) (hr : row.length ≤ 1000) (i : Int) (l : List ByteArray) (f : Int) (d : Bool) (c : Int) : ∀ (m j : Nat), j + m = row.length → ∀ (s : ByteArray) (k : Nat), m < k →
    hibernacleref04_Read.l0 k i s (j : Int) l (rows row) f d c = some (lastOf i s (row.drop j), 0) := by
  intro m
  induction m with
  | zero =>
    intro j hj s k hk
    obtain ⟨k, rfl⟩ : ∃ q, k = q + 1 := ⟨k - 1, by omega⟩
    rw [hibernacleref04_Read.l0, if_neg (by simp [rows]; omega), List.drop_of_length_le (by omega)]
    rfl
  | succ m ih =>
    intro j hj s k hk
    obtain ⟨k, rfl⟩ : ∃ q, k = q + 1 := ⟨k - 1, by omega⟩
    have hjl : j < row.length := by omega
    rw [hibernacleref04_Read.l0, if_pos (by simp [rows]; omega), if_pos (by omega), rd78 row j hjl, wr64 (by omega) (by omega), show ((j : Int) + 1) = ((j + 1 : Nat) : Int) by omega, ih (j + 1) (by omega) _ k (by omega), ih (j + 1) (by omega) _ k (by omega), List.drop_eq_getElem_cons hjl]
    show (if row[j].f0 = i then some (lastOf i row[j].f1 (row.drop (j + 1)), (0 : Int)) else some (lastOf i s (row.drop (j + 1)), 0)) = some (lastOf i (if row[j].f0 = i then row[j].f1 else s) (row.drop (j + 1)), 0)
    split <;> rfl
theorem read_f (D : DK) (i : Int) (hl : D.row.length ≤ 1000) : hibernacleref04_Read.f 1002 D.l (rows D.row) D.fuse D.down D.done i = some (readS D i, canE D i) := by
  unfold hibernacleref04_Read.f readS
  cases hdn : D.down with
  | true =>
    have hc : canE D i = 9 := by unfold canE; rw [hdn]; rfl
    rw [hc]; simp
  | false =>
    simp only [Bool.false_eq_true, if_false]
    by_cases i0 : i < 0
    · have hc : canE D i = 7 := by unfold canE; rw [hdn, if_neg (by simp), if_pos (.inl i0)]
      rw [if_pos i0, hibernacleref04_Read.j0, hc]
      simp
    · rw [if_neg i0, hibernacleref04_Read.j0]
      by_cases i1 : i ≥ (D.l.length : Int)
      · have hc : canE D i = 7 := by unfold canE; rw [hdn, if_neg (by simp), if_pos (.inr i1)]
        rw [hc]
        simp [i1]
      · have hc : canE D i = 0 := can_up' hdn (by omega) (by omega)
        have h2 := read_l0 D.row hl i D.l D.fuse false D.done D.row.length 0 (by omega) (rdOf ByteArray.empty D.l i) 1001 (by omega)
        rw [show ((0 : Nat) : Int) = 0 from rfl, List.drop_zero] at h2
        simp only [i1, decide_false, Bool.false_eq_true, if_false]
        rw [if_pos (by omega), if_pos (by omega), h2, hc, if_pos rfl, lastOf_find]
        rfl
end Go.Proofs.Ytcohfbmfmlmblaa
