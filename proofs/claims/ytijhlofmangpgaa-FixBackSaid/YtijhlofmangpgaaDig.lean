/- Decimal digits: lists of digits, the lowest first, and the numbers that they are. Nothing of the program stands here. -/
namespace Go.Proofs.Ytijhlofmangpgaa.Dig
/-- The digits of a number, the lowest first; none of 0. -/
def D (n : Nat) : List Int := if n = 0 then [] else ((n % 10 : Nat) : Int) :: D (n / 10)
termination_by n
decreasing_by omega
theorem D_zero : D 0 = [] := by rw [D]; simp
theorem D_pos {n : Nat} (h : n ≠ 0) : D n = ((n % 10 : Nat) : Int) :: D (n / 10) := by rw [D, if_neg h]
def dv : List Int → Int
  | [] => 0
  | d :: ds => d + 10 * dv ds
def digs (ds : List Int) : Prop := ∀ d ∈ ds, 0 ≤ d ∧ d ≤ 9
theorem digs_nil : digs [] := fun d h => by simp at h
theorem digs_cons {d : Int} {ds : List Int} : digs (d :: ds) ↔ (0 ≤ d ∧ d ≤ 9) ∧ digs ds := by simp [digs]
theorem digs_append {a b : List Int} : digs (a ++ b) ↔ digs a ∧ digs b := by
  simp only [digs, List.mem_append]
  exact ⟨fun h => ⟨fun d hd => h d (.inl hd), fun d hd => h d (.inr hd)⟩, fun ⟨h, k⟩ d hd => hd.elim (h d) (k d)⟩
theorem digs_drop {a : List Int} (h : digs a) (i : Nat) : digs (a.drop i) := fun d hd => h d (List.mem_of_mem_drop hd)
theorem digs_take {a : List Int} (h : digs a) (i : Nat) : digs (a.take i) := fun d hd => h d (List.mem_of_mem_take hd)
theorem digs_getD {a : List Int} (h : digs a) (i : Nat) : 0 ≤ a.getD i 0 ∧ a.getD i 0 ≤ 9 := by
  rw [List.getD_eq_getElem?_getD]
  by_cases hi : i < a.length
  · rw [List.getElem?_eq_getElem hi]; exact h _ (List.getElem_mem hi)
  · rw [List.getElem?_eq_none (by omega)]; simp
theorem digs_D (n : Nat) : digs (D n) := by
  induction n using Nat.strongRecOn with
  | _ n ih =>
    by_cases h : n = 0
    · subst h; rw [D_zero]; exact digs_nil
    · rw [D_pos h, digs_cons]; exact ⟨by omega, ih _ (by omega)⟩
theorem dv_D (n : Nat) : dv (D n) = n := by
  induction n using Nat.strongRecOn with
  | _ n ih =>
    by_cases h : n = 0
    · subst h; rw [D_zero]; rfl
    · rw [D_pos h, dv, ih _ (by omega)]; omega
theorem dv_nonneg {ds : List Int} (h : digs ds) : 0 ≤ dv ds := by
  induction ds with
  | nil => simp [dv]
  | cons d ds ih => rw [digs_cons] at h; have := ih h.2; rw [dv]; omega
theorem dv_append (a b : List Int) : dv (a ++ b) = dv a + 10 ^ a.length * dv b := by
  induction a with
  | nil => simp [dv]
  | cons d a ih =>
    rw [List.cons_append, dv, ih, dv, List.length_cons, Int.pow_succ, Int.mul_add, ← Int.add_assoc, ← Int.mul_assoc, Int.mul_comm (10 ^ a.length) 10]
theorem dv_lt {ds : List Int} (h : digs ds) : dv ds < 10 ^ ds.length := by
  induction ds with
  | nil => simp [dv]
  | cons d ds ih =>
    rw [digs_cons] at h
    have := ih h.2
    rw [dv, List.length_cons, Int.pow_succ]
    omega
theorem dv_drop (ds : List Int) : ∀ i : Nat, dv (ds.drop i) = ds.getD i 0 + 10 * dv (ds.drop (i + 1)) := by
  induction ds with
  | nil => intro i; simp [dv]
  | cons d ds ih =>
    intro i
    cases i with
    | zero => simp [dv]
    | succ i => simpa using ih i
theorem pow_pos (n : Nat) : (0 : Int) < 10 ^ n := Int.pow_pos (by decide)
/-- No zero at the high end. -/
def canon (ds : List Int) : Prop := ds.getLast? ≠ some 0
theorem canon_tail {d : Int} {ds : List Int} (h : canon (d :: ds)) : canon ds := by
  cases ds with
  | nil => simp [canon]
  | cons e ds => simpa [canon, List.getLast?_cons_cons] using h
theorem dv_pos {ds : List Int} (h : digs ds) (hc : canon ds) (hn : ds ≠ []) : 1 ≤ dv ds := by
  induction ds with
  | nil => exact absurd rfl hn
  | cons d ds ih =>
    rw [digs_cons] at h
    rw [dv]
    have hk := dv_nonneg h.2
    cases ds with
    | nil => simp [canon] at hc; simp [dv]; omega
    | cons e ds => have := ih h.2 (canon_tail hc) (by simp); omega
theorem D_unique {ds : List Int} (h : digs ds) (hc : canon ds) : ds = D (dv ds).toNat := by
  induction ds with
  | nil => simp [dv, D_zero]
  | cons d ds ih =>
    have hd := h
    rw [digs_cons] at h
    have hp := dv_pos hd hc (by simp)
    have hk := dv_nonneg h.2
    have := ih h.2 (canon_tail hc)
    rw [dv] at hp ⊢
    have hne : (d + 10 * dv ds).toNat ≠ 0 := by omega
    rw [D_pos hne]
    have e1 : (((d + 10 * dv ds).toNat % 10 : Nat) : Int) = d := by omega
    have e2 : (d + 10 * dv ds).toNat / 10 = (dv ds).toNat := by omega
    rw [e1, e2, ← this]
theorem canon_D (n : Nat) : canon (D n) := by
  induction n using Nat.strongRecOn with
  | _ n ih =>
    by_cases h : n = 0
    · subst h; rw [D_zero]; simp [canon]
    · rw [D_pos h]
      have := ih (n / 10) (by omega)
      by_cases h1 : n / 10 = 0
      · rw [h1, D_zero]; simp [canon]; omega
      · rw [D_pos h1] at this ⊢; simpa [canon, List.getLast?_cons_cons] using this
theorem D_len_mono {a b : Nat} (h : b ≤ a) : (D b).length ≤ (D a).length := by
  induction a using Nat.strongRecOn generalizing b with
  | _ a ih =>
    by_cases hb : b = 0
    · subst hb; rw [D_zero]; simp
    · have ha : a ≠ 0 := by omega
      rw [D_pos ha, D_pos hb]
      have := ih (a / 10) (by omega) (b := b / 10) (by omega)
      simpa using this
theorem D_len_lt {n : Nat} : ∀ {L : Nat}, n < 10 ^ L → (D n).length ≤ L := by
  induction n using Nat.strongRecOn with
  | _ n ih =>
    intro L h
    by_cases h0 : n = 0
    · subst h0; rw [D_zero]; simp
    · rw [D_pos h0]
      cases L with
      | zero => simp at h; omega
      | succ L =>
        rw [Nat.pow_succ] at h
        have := ih (n / 10) (by omega) (L := L) (by omega)
        simpa using this
theorem D_len_gt {n L : Nat} (h : 10 ^ L ≤ n) : L < (D n).length := by
  have h1 := dv_lt (digs_D n)
  rw [dv_D] at h1
  rcases Nat.lt_or_ge L (D n).length with h2 | h2
  · exact h2
  · exfalso
    have h3 : (10 : Nat) ^ (D n).length ≤ 10 ^ L := Nat.pow_le_pow_right (by decide) h2
    have h4 : ((n : Nat) : Int) < ((10 ^ (D n).length : Nat) : Int) := by simpa using h1
    omega
/-- Where the digits at a place part, the beginnings part. -/
theorem take_lt {a b : List Int} (ha : digs a) (i : Nat) (hi : i < a.length) (hi' : i < b.length) (hb : digs b)
    (h : a.getD i 0 < b.getD i 0) : dv (a.take (i + 1)) < dv (b.take (i + 1)) := by
  have e : ∀ c : List Int, i < c.length → dv (c.take (i + 1)) = dv (c.take i) + 10 ^ i * c.getD i 0 := fun c hc => by
    rw [List.take_succ_eq_append_getElem hc, dv_append, List.length_take, Nat.min_eq_left (by omega), List.getD_eq_getElem?_getD, List.getElem?_eq_getElem hc]
    simp [dv]
  rw [e a hi, e b hi']
  have h1 := dv_lt (digs_take ha i)
  rw [List.length_take, Nat.min_eq_left (by omega)] at h1
  have h2 := dv_nonneg (digs_take hb i)
  have h3 : (10 : Int) ^ i * (a.getD i 0 + 1) ≤ 10 ^ i * b.getD i 0 := Int.mul_le_mul_of_nonneg_left (by omega) (Int.le_of_lt (pow_pos i))
  rw [Int.mul_add, Int.mul_one] at h3
  omega
theorem take_same {a b : List Int} (i : Nat) (hi : i < a.length) (hi' : i < b.length) (h : a.getD i 0 = b.getD i 0) :
    dv (a.take (i + 1)) - dv (b.take (i + 1)) = dv (a.take i) - dv (b.take i) := by
  have e : ∀ c : List Int, i < c.length → dv (c.take (i + 1)) = dv (c.take i) + 10 ^ i * c.getD i 0 := fun c hc => by
    rw [List.take_succ_eq_append_getElem hc, dv_append, List.length_take, Nat.min_eq_left (by omega), List.getD_eq_getElem?_getD, List.getElem?_eq_getElem hc]
    simp [dv]
  rw [e a hi, e b hi', h]
  omega
end Go.Proofs.Ytijhlofmangpgaa.Dig
