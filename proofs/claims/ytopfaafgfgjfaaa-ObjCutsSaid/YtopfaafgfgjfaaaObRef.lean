/- What the printed functions reckon, by plain lists; their contracts. -/
import Derived.Test.YtopfaafgfgjfaaaOwn
import Derived.Test.YtopfaafgfgjfaaaPObjLinksx3
import Derived.Test.YtopfaafgfgjfaaaPObjLinksx4
import Derived.Test.YtopfaafgfgjfaaaPObjLinksx5
set_option linter.unusedVariables false
set_option linter.unusedSimpArgs false
namespace Go.Proofs.Ytopfaafgfgjfaaa
open Go.RowKit Go.Proofs.YtopfaafgfgjfaaaW.PrintWords Go.Proofs.Ytopfaafgfgjfaaa.PObjLinks
theorem wr64 {n : Int} (h0 : -9223372036854775808 ≤ n) (h1 : n ≤ 9223372036854775807) : wrap64 n = n := by unfold wrap64; omega
def to54 (p : S40) : S54 := ⟨p.f0, p.f1, p.f2⟩
def to40 (p : S54) : S40 := ⟨p.f0, p.f1, p.f2⟩
theorem rd40 (l : List S40) (k : Nat) (h : k < l.length) : rd_T40 l (k : Int) = l[k] := by simp [rd_T40, List.getD_eq_getElem?_getD, h]
theorem rd54 (l : List S54) (k : Nat) (h : k < l.length) : rd_T54 l (k : Int) = l[k] := by simp [rd_T54, List.getD_eq_getElem?_getD, h]
/-- Is a record gone through? -/
def smallB (l : List S40) (s : ByteArray) : Bool := decide (l.length ≤ 300) && (decide (s.size ≤ 5000) && l.all (fun p => decide (p.f2.size ≤ 100)))
theorem small_f (a : Int) (l : List S40) (s : ByteArray) : ∃ k, hibernacleref11_Small.f k a l s = some (smallB l s) := by
  by_cases h : 300 < l.length
  · refine ⟨1, ?_⟩
    unfold hibernacleref11_Small.f smallB
    rw [if_pos (by omega), decide_eq_false (by omega)]; rfl
  · by_cases h2 : 5000 < s.size
    · refine ⟨1, ?_⟩
      unfold hibernacleref11_Small.f smallB
      rw [if_neg (by omega), decide_eq_true (by omega), decide_eq_false (by omega : ¬ s.size ≤ 5000), decide_eq_true (by omega)]; rfl
    · have key : ∀ (q j : Nat), j + q = l.length → ∀ k, q < k → hibernacleref11_Small.l0 k (j : Int) a l s = some ((l.drop j).all (fun p => decide (p.f2.size ≤ 100))) := by
        intro q
        induction q with
        | zero =>
          intro j hj k hk
          obtain ⟨k, rfl⟩ : ∃ q, k = q + 1 := ⟨k - 1, by omega⟩
          rw [hibernacleref11_Small.l0, if_neg (by omega), List.drop_eq_nil_of_le (by omega)]; rfl
        | succ q ih =>
          intro j hj k hk
          obtain ⟨k, rfl⟩ : ∃ q, k = q + 1 := ⟨k - 1, by omega⟩
          have hlt : j < l.length := by omega
          rw [hibernacleref11_Small.l0, if_pos (by omega), if_pos (by omega), rd40 l j hlt, List.drop_eq_getElem_cons hlt, List.all_cons]
          by_cases hc : 100 < l[j].f2.size
          · rw [if_pos (by omega), decide_eq_false (by omega)]; rfl
          · rw [if_neg (by omega), decide_eq_true (by omega), wr64 (by omega) (by omega), show ((j : Int) + 1) = ((j + 1 : Nat) : Int) by omega, ih (j + 1) (by omega) k (by omega)]; rfl
      refine ⟨l.length + 2, ?_⟩
      unfold hibernacleref11_Small.f smallB
      rw [if_neg (by omega), decide_eq_false (by omega), decide_eq_true (by omega), decide_eq_true (by omega), hibernacleref11_Small.j0, if_neg (by simp)]
      have := key l.length 0 (by omega) (l.length + 1) (by omega)
      rw [List.drop_zero] at this
      rw [Int.natCast_zero] at this
      rw [this]; rfl
theorem small_any (a : Int) (A : Option Addr) (c : Nat) (l : List S40) (s : ByteArray) (w : World) (hr : Kd.C k40 w A l.length l) (hc : l.length ≤ c) : Calls Try.prog 6 #[.agg #[.int .i64 a, .slice A l.length c, .string s]] w fun e w' => e = .returned (.bool (smallB l s)) ∧ Mod [] w w' := by
  obtain ⟨k, hk⟩ := small_f a l s
  refine (hibernacleref11_Small.calls k a A c l s _ w hr hc hk).mono ?_
  rintro e w1 ⟨rfl, hd⟩
  exact ⟨rfl, Mod.of_below hd⟩
theorem small_len {l : List S40} {s : ByteArray} (h : smallB l s = true) : l.length ≤ 300 := by
  unfold smallB at h
  rw [Bool.and_eq_true] at h
  exact of_decide_eq_true h.1
theorem mine_f (a : Int) (l : List S40) (s : ByteArray) (hl : l.length ≤ 1000000) : ∃ k, hibernaclelaw11_mine.f k a l s = some (a, l.map to54, s) := by
  have key : ∀ (q j : Nat), j + q = l.length → ∀ k, q < k → hibernaclelaw11_mine.l0 k (j : Int) a l s a ((l.take j).map to54) s = some (a, l.map to54, s) := by
    intro q
    induction q with
    | zero =>
      intro j hj k hk
      obtain ⟨k, rfl⟩ : ∃ q, k = q + 1 := ⟨k - 1, by omega⟩
      rw [hibernaclelaw11_mine.l0, if_neg (by omega), List.take_of_length_le (by omega)]
    | succ q ih =>
      intro j hj k hk
      obtain ⟨k, rfl⟩ : ∃ q, k = q + 1 := ⟨k - 1, by omega⟩
      have hlt : j < l.length := by omega
      rw [hibernaclelaw11_mine.l0, if_pos (by omega), if_pos (by omega), if_pos (by simp; omega), rd40 l j hlt, wr64 (by omega) (by omega), show ((j : Int) + 1) = ((j + 1 : Nat) : Int) by omega]
      have e : (l.take j).map to54 ++ [(⟨l[j].f0, l[j].f1, l[j].f2⟩ : S54)] = (l.take (j + 1)).map to54 := by
        rw [List.take_add_one, List.getElem?_eq_getElem hlt, List.map_append]; rfl
      rw [e]
      exact ih (j + 1) (by omega) k (by omega)
  refine ⟨l.length + 1, ?_⟩
  unfold hibernaclelaw11_mine.f
  exact key l.length 0 (by omega) (l.length + 1) (by omega)
theorem mine_any (a : Int) (A : Option Addr) (c : Nat) (l : List S40) (s : ByteArray) (w : World) (hr : Kd.C k40 w A l.length l) (hc : l.length ≤ c) (hl : l.length ≤ 1000000) :
    Calls Try.prog 9 #[.agg #[.int .i64 a, .slice A l.length c, .string s]] w fun e w' => ∃ A1 c1, e = .returned (.agg #[.int .i64 a, .slice A1 l.length c1, .string s]) ∧ l.length ≤ c1 ∧ Kd.C k54 w' A1 l.length (l.map to54) ∧ Mod [] w w' := by
  obtain ⟨k, hk⟩ := mine_f a l s hl
  refine (hibernaclelaw11_mine.calls k a A c l s _ _ _ w hr hc hk).mono ?_
  rintro e w1 ⟨v, rfl, hR, hd⟩
  obtain ⟨A1, c1, rfl, hc1, hC⟩ := Kd.R_reads hR
  rw [List.length_map] at hc1 hC ⊢
  exact ⟨A1, c1, rfl, hc1, hC, Mod.of_below hd⟩
theorem theirs_f (a : Int) (l : List S54) (s : ByteArray) (hl : l.length ≤ 1000000) : ∃ k, hibernaclelaw11_theirs.f k a l s = some (a, l.map to40, s) := by
  have key : ∀ (q j : Nat), j + q = l.length → ∀ k, q < k → hibernaclelaw11_theirs.l0 k (j : Int) a l s a ((l.take j).map to40) s = some (a, l.map to40, s) := by
    intro q
    induction q with
    | zero =>
      intro j hj k hk
      obtain ⟨k, rfl⟩ : ∃ q, k = q + 1 := ⟨k - 1, by omega⟩
      rw [hibernaclelaw11_theirs.l0, if_neg (by omega), List.take_of_length_le (by omega)]
    | succ q ih =>
      intro j hj k hk
      obtain ⟨k, rfl⟩ : ∃ q, k = q + 1 := ⟨k - 1, by omega⟩
      have hlt : j < l.length := by omega
      rw [hibernaclelaw11_theirs.l0, if_pos (by omega), if_pos (by omega), if_pos (by simp; omega), rd54 l j hlt, wr64 (by omega) (by omega), show ((j : Int) + 1) = ((j + 1 : Nat) : Int) by omega]
      have e : (l.take j).map to40 ++ [(⟨l[j].f0, l[j].f1, l[j].f2⟩ : S40)] = (l.take (j + 1)).map to40 := by
        rw [List.take_add_one, List.getElem?_eq_getElem hlt, List.map_append]; rfl
      rw [e]
      exact ih (j + 1) (by omega) k (by omega)
  refine ⟨l.length + 1, ?_⟩
  unfold hibernaclelaw11_theirs.f
  exact key l.length 0 (by omega) (l.length + 1) (by omega)
theorem theirs_any (a : Int) (A : Option Addr) (c : Nat) (l : List S54) (s : ByteArray) (w : World) (hr : Kd.C k54 w A l.length l) (hc : l.length ≤ c) (hl : l.length ≤ 1000000) :
    Calls Try.prog 10 #[.agg #[.int .i64 a, .slice A l.length c, .string s]] w fun e w' => ∃ A1 c1, e = .returned (.agg #[.int .i64 a, .slice A1 l.length c1, .string s]) ∧ l.length ≤ c1 ∧ Kd.C k40 w' A1 l.length (l.map to40) ∧ Mod [] w w' := by
  obtain ⟨k, hk⟩ := theirs_f a l s hl
  refine (hibernaclelaw11_theirs.calls k a A c l s _ _ _ w hr hc hk).mono ?_
  rintro e w1 ⟨v, rfl, hR, hd⟩
  obtain ⟨A1, c1, rfl, hc1, hC⟩ := Kd.R_reads hR
  rw [List.length_map] at hc1 hC ⊢
  exact ⟨A1, c1, rfl, hc1, hC, Mod.of_below hd⟩
/-- What a record refers to. -/
def linksL (l : List S54) : List Int := (l.filter (fun p => decide (p.f0 = 8))).map (·.f1)
theorem links_le (l : List S54) : (linksL l).length ≤ l.length := by
  unfold linksL
  rw [List.length_map]
  exact List.length_filter_le _ _
theorem links_f (a : Int) (l : List S54) (s : ByteArray) (hl : l.length ≤ 1000000) : ∃ k, obj_Links.f k a l s = some (linksL l) := by
  have key : ∀ (q j : Nat), j + q = l.length → ∀ k, q < k → obj_Links.l0 k (linksL (l.take j)) l (l.length : Int) (j : Int) = some (linksL l) := by
    intro q
    induction q with
    | zero =>
      intro j hj k hk
      obtain ⟨k, rfl⟩ : ∃ q, k = q + 1 := ⟨k - 1, by omega⟩
      rw [obj_Links.l0, if_neg (by omega), List.take_of_length_le (by omega)]
    | succ q ih =>
      intro j hj k hk
      obtain ⟨k, rfl⟩ : ∃ q, k = q + 1 := ⟨k - 1, by omega⟩
      have hlt : j < l.length := by omega
      have ht := links_le (l.take j)
      rw [List.length_take] at ht
      rw [obj_Links.l0, if_pos (by omega), if_pos (by omega), if_pos (by omega), rd54 l j hlt, wr64 (by omega) (by omega), show ((j : Int) + 1) = ((j + 1 : Nat) : Int) by omega]
      have e : linksL (l.take (j + 1)) = linksL (l.take j) ++ (if l[j].f0 = 8 then [l[j].f1] else []) := by
        unfold linksL
        rw [List.take_add_one, List.getElem?_eq_getElem hlt, List.filter_append, List.map_append]
        congr 1
        by_cases h8 : l[j].f0 = 8
        · rw [if_pos h8]; simp [h8]
        · rw [if_neg h8]; simp [h8]
      by_cases h8 : l[j].f0 = 8
      · rw [if_pos h8, if_pos (by omega)]
        rw [if_pos h8] at e
        rw [← e]
        exact ih (j + 1) (by omega) k (by omega)
      · rw [if_neg h8]
        rw [if_neg h8, List.append_nil] at e
        rw [← e]
        exact ih (j + 1) (by omega) k (by omega)
  refine ⟨l.length + 1, ?_⟩
  unfold obj_Links.f
  exact key l.length 0 (by omega) (l.length + 1) (by omega)
theorem links_any (a : Int) (A : Option Addr) (c : Nat) (l : List S54) (s : ByteArray) (w : World) (hr : Kd.C k54 w A l.length l) (hc : l.length ≤ c) (hl : l.length ≤ 1000000) :
    Calls Try.prog 8 #[.agg #[.int .i64 a, .slice A l.length c, .string s]] w fun e w' => ∃ A1 c1, e = .returned (.slice A1 (linksL l).length c1) ∧ Kd.C (Kd.int .i64) w' A1 (linksL l).length (linksL l) ∧ Mod [] w w' := by
  obtain ⟨k, hk⟩ := links_f a l s hl
  refine (obj_Links.calls k a A c l s _ w hr hc hk).mono ?_
  rintro e w1 ⟨v, rfl, hR, hd⟩
  obtain ⟨A1, c1, rfl, hc1, hC⟩ := Kd.R_reads hR
  exact ⟨A1, c1, rfl, hC, Mod.of_below hd⟩
def pq (p q : S40) : Bool := (p.f0 == q.f0) && ((p.f1 == q.f1) && (p.f2.toList == q.f2.toList))
theorem pq_not (p q : S40) : ((!(p.f0 == q.f0) || (!(p.f1 == q.f1) || (!(p.f2.toList == q.f2.toList)))) = true) ↔ pq p q = false := by
  unfold pq
  cases (p.f0 == q.f0) <;> cases (p.f1 == q.f1) <;> cases (p.f2.toList == q.f2.toList) <;> simp
theorem pq_not54 (p q : S40) : ((!((to54 p).f0 == (to54 q).f0) || (!((to54 p).f1 == (to54 q).f1) || (!((to54 p).f2.toList == (to54 q).f2.toList)))) = true) ↔ pq p q = false := pq_not p q
/-- Are q things from j on the same? -/
def eqF (l l' : List S40) : Nat → Nat → Bool
  | 0, _ => true
  | q + 1, j => pq (rd_T40 l (j : Int)) (rd_T40 l' (j : Int)) && eqF l l' q (j + 1)
/-- Are two records the same? -/
def sameB (a : Int) (l : List S40) (s : ByteArray) (a' : Int) (l' : List S40) (s' : ByteArray) : Bool :=
  decide (a = a') && (decide (s.toList = s'.toList) && (decide (l.length = l'.length) && eqF l l' l.length 0))
theorem rd_to54 (l : List S40) (j : Nat) (h : j < l.length) : rd_T54 (l.map to54) (j : Int) = to54 (rd_T40 l (j : Int)) := by
  rw [rd54 _ j (by simpa using h), rd40 l j h, List.getElem_map]
theorem parts_f (l l' : List S40) (hl : l.length ≤ 1000000) : ∃ k, obj_Part_22.f k (l.map to54) (l'.map to54) = some (decide (l.length = l'.length) && eqF l l' l.length 0) := by
  by_cases h : l.length = l'.length
  · have key : ∀ (q j : Nat), j + q = l.length → ∀ k, q < k → obj_Part_22.l0 k (l.map to54) (l'.map to54) (l.length : Int) (j : Int) = some (eqF l l' q j) := by
      intro q
      induction q with
      | zero =>
        intro j hj k hk
        obtain ⟨k, rfl⟩ : ∃ q, k = q + 1 := ⟨k - 1, by omega⟩
        rw [obj_Part_22.l0, if_neg (by omega)]; rfl
      | succ q ih =>
        intro j hj k hk
        obtain ⟨k, rfl⟩ : ∃ q, k = q + 1 := ⟨k - 1, by omega⟩
        rw [obj_Part_22.l0, if_pos (by omega), if_pos (by omega), if_pos (by simp; omega), if_pos (by simp; omega), rd_to54 l j (by omega), rd_to54 l' j (by omega), eqF]
        by_cases hp : pq (rd_T40 l (j : Int)) (rd_T40 l' (j : Int)) = false
        · rw [if_pos ((pq_not54 _ _).2 hp), hp]; rfl
        · have hp2 : pq (rd_T40 l (j : Int)) (rd_T40 l' (j : Int)) = true := by simpa using hp
          rw [if_neg (fun h => hp ((pq_not54 _ _).1 h)), hp2, wr64 (by omega) (by omega), show ((j : Int) + 1) = ((j + 1 : Nat) : Int) by omega, ih (j + 1) (by omega) k (by omega)]; rfl
    refine ⟨l.length + 1, ?_⟩
    unfold obj_Part_22.f
    rw [if_pos (by simp; omega), List.length_map, decide_eq_true h]
    exact key l.length 0 (by omega) (l.length + 1) (by omega)
  · refine ⟨0, ?_⟩
    unfold obj_Part_22.f
    rw [if_neg (by simp; omega), decide_eq_false h]; rfl
theorem osame_any (a : Int) (A : Option Addr) (c : Nat) (l : List S40) (s : ByteArray) (a' : Int) (A' : Option Addr) (c' : Nat) (l' : List S40) (s' : ByteArray) (w : World) (hr : Kd.C k54 w A l.length (l.map to54)) (hc : l.length ≤ c) (hr' : Kd.C k54 w A' l'.length (l'.map to54)) (hc' : l'.length ≤ c') (hl : l.length ≤ 1000000) :
    Calls Try.prog 13 #[.agg #[.int .i64 a, .slice A l.length c, .string s], .agg #[.int .i64 a', .slice A' l'.length c', .string s']] w fun e w' => e = .returned (.bool (sameB a l s a' l' s')) ∧ Mod [] w w' := by
  obtain ⟨k, hk⟩ := parts_f l l' hl
  have hf : obj_Same.f k a (l.map to54) s a' (l'.map to54) s' = some (sameB a l s a' l' s') := by
    unfold obj_Same.f sameB
    by_cases h1 : a = a'
    · rw [if_pos h1, decide_eq_true h1]
      by_cases h2 : s.toList = s'.toList
      · rw [if_pos h2, decide_eq_true h2, hk]; rfl
      · rw [if_neg h2, decide_eq_false h2]; rfl
    · rw [if_neg h1, decide_eq_false h1]; rfl
  have h := obj_Same.calls k a A c (l.map to54) s a' A' c' (l'.map to54) s' _ w (by simpa using hr) (by simpa using hc) (by simpa using hr') (by simpa using hc') hf
  rw [List.length_map, List.length_map] at h
  refine h.mono ?_
  rintro e w1 ⟨rfl, hd⟩
  exact ⟨rfl, Mod.of_below hd⟩
theorem rsame_any (a : Int) (A : Option Addr) (c : Nat) (l : List S40) (s : ByteArray) (a' : Int) (A' : Option Addr) (c' : Nat) (l' : List S40) (s' : ByteArray) (w : World) (hr : Kd.C k40 w A l.length l) (hc : l.length ≤ c) (hr' : Kd.C k40 w A' l'.length l') (hc' : l'.length ≤ c') (hl : l.length ≤ 1000000) :
    Calls Try.prog 14 #[.agg #[.int .i64 a, .slice A l.length c, .string s], .agg #[.int .i64 a', .slice A' l'.length c', .string s']] w fun e w' => e = .returned (.bool (sameB a l s a' l' s')) ∧ Mod [] w w' := by
  have hf : ∃ k, hibernacleref11_Same.f k a l s a' l' s' = some (sameB a l s a' l' s') := by
    refine ⟨l.length + 2, ?_⟩
    unfold hibernacleref11_Same.f sameB
    by_cases h1 : a = a'
    · rw [if_pos h1, decide_eq_true h1]
      by_cases h2 : s.toList = s'.toList
      · rw [if_pos h2, decide_eq_true h2]
        by_cases h : l.length = l'.length
        · have key : ∀ (q j : Nat), j + q = l.length → ∀ k, q < k → hibernacleref11_Same.l0 k (j : Int) a l s a' l' s' = some (eqF l l' q j) := by
            intro q
            induction q with
            | zero =>
              intro j hj k hk
              obtain ⟨k, rfl⟩ : ∃ q, k = q + 1 := ⟨k - 1, by omega⟩
              rw [hibernacleref11_Same.l0, if_neg (by omega)]; rfl
            | succ q ih =>
              intro j hj k hk
              obtain ⟨k, rfl⟩ : ∃ q, k = q + 1 := ⟨k - 1, by omega⟩
              rw [hibernacleref11_Same.l0, if_pos (by omega), if_pos (by omega), if_pos (by omega), eqF]
              by_cases hp : pq (rd_T40 l (j : Int)) (rd_T40 l' (j : Int)) = false
              · rw [if_pos ((pq_not _ _).2 hp), hp]; rfl
              · have hp2 : pq (rd_T40 l (j : Int)) (rd_T40 l' (j : Int)) = true := by simpa using hp
                rw [if_neg (fun h => hp ((pq_not _ _).1 h)), hp2, wr64 (by omega) (by omega), show ((j : Int) + 1) = ((j + 1 : Nat) : Int) by omega, ih (j + 1) (by omega) k (by omega)]; rfl
          rw [decide_eq_true h, hibernacleref11_Same.j0, if_neg (by simp; omega)]
          exact key l.length 0 (by omega) (l.length + 1) (by omega)
        · rw [decide_eq_false h, hibernacleref11_Same.j0, if_pos (by simp; omega)]; rfl
      · rw [if_neg h2, decide_eq_false h2, hibernacleref11_Same.j0, if_pos rfl]; rfl
    · rw [if_neg h1, decide_eq_false h1, hibernacleref11_Same.j0, if_pos rfl]; rfl
  obtain ⟨k, hk⟩ := hf
  refine (hibernacleref11_Same.calls k a A c l s a' A' c' l' s' _ w hr hc hr' hc' hk).mono ?_
  rintro e w1 ⟨rfl, hd⟩
  exact ⟨rfl, Mod.of_below hd⟩
end Go.Proofs.Ytopfaafgfgjfaaa
