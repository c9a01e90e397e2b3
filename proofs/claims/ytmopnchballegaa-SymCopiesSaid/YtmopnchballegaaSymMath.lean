/- Names as lists of bytes: where a name is, the digits of a number, the new name. -/
import Derived.Test.YtmopnchballegaaSymMay
set_option linter.unusedVariables false
set_option linter.unusedSimpArgs false
namespace Go.Proofs.Ytmopnchballegaa
open Go.RowKit Go.Proofs.YtmopnchballegaaW.PrintWords Go.Proofs.Ytmopnchballegaa.PSymPlays
theorem bys_inj {a b : ByteArray} (h : bys a = bys b) : a = b := by
  refine data_inj ?_
  have h1 : ∀ s : ByteArray, s.data.toList = (bys s).map (fun n => UInt8.ofNat n.toNat) := fun s => by
    rw [bys, List.map_map]
    conv => lhs; rw [← List.map_id s.data.toList]
    exact List.map_congr_left fun x _ => by simp
  rw [h1 a, h1 b, h]
theorem bys_app (a b : ByteArray) : bys (a ++ b) = bys a ++ bys b := by simp [bys, data_app]
theorem bys_take (s : ByteArray) (m : Nat) : bys (s.extract 0 m) = (bys s).take m := by rw [bys, data_ext]; simp [bys]
theorem bys_str {l : List Int} (h : Bytes l) : bys (strOfNums l) = l := by
  have : bys (strOfNums l) = l.map (fun n => ((UInt8.ofNat n.toNat).toNat : Int)) := by simp [bys, strOfNums]
  rw [this]
  conv => rhs; rw [← List.map_id l]
  refine List.map_congr_left fun x hx => ?_
  have := h x hx
  simp
  omega
theorem mem_bys {s : ByteArray} {c : Int} (h : c ∈ bys s) : ∃ j : Nat, j < s.size ∧ bt s (j : Int) = c := by
  obtain ⟨j, hj, e⟩ := List.getElem_of_mem h
  have hj' : j < s.size := by rw [← bys_length]; exact hj
  refine ⟨j, hj', ?_⟩
  rw [← bys_getD s j hj', List.getD_eq_getElem?_getD, List.getElem?_eq_getElem hj]
  exact e
theorem mayB_bys {s : ByteArray} : mayB s = true ↔ 0 < (bys s).length ∧ (bys s).length ≤ 32 ∧ ∀ c ∈ bys s, 33 ≤ c ∧ c ≤ 126 := by
  rw [mayB_true, bys_length]
  refine ⟨fun ⟨h1, h2, h3⟩ => ⟨h1, h2, fun c hc => ?_⟩, fun ⟨h1, h2, h3⟩ => ⟨h1, h2, fun j hj => ?_⟩⟩
  · obtain ⟨j, hj, rfl⟩ := mem_bys hc
    exact h3 j hj
  · rw [← bys_getD s j hj, List.getD_eq_getElem?_getD, List.getElem?_eq_getElem (by rw [bys_length]; exact hj)]
    exact h3 _ (List.getElem_mem _)
theorem refMay_from (s : ByteArray) (d : Nat) : ∀ i : Nat, i + d = 33 → i ≤ 32 → i ≤ s.size → (∀ j : Nat, j < i → 33 ≤ bt s (j : Int) ∧ bt s (j : Int) ≤ 126) → hibernacleref10_May.l0 (d + 1) s (i : Int) = some (mayB s) := by
  induction d with
  | zero => intro i h1 h2; omega
  | succ d ih =>
    intro i h1 h2 h3 h4
    simp only [hibernacleref10_May.l0]
    by_cases hlt : i < s.size
    · rw [if_pos (by omega)]
      by_cases h32 : i = 32
      · rw [if_pos (by omega), mayB_false (by omega)]
      · rw [if_neg (by omega), if_pos (by omega)]
        by_cases a : bt s (i : Int) < 33
        · rw [if_pos a, mayB_false (fun h => by have := h.2.2 i hlt; omega)]
        · rw [if_neg a]
          by_cases b : bt s (i : Int) > 126
          · rw [if_pos b, mayB_false (fun h => by have := h.2.2 i hlt; omega)]
          · rw [if_neg b, show wrap64 ((i : Int) + 1) = ((i + 1 : Nat) : Int) by unfold wrap64; omega]
            refine ih (i + 1) (by omega) (by omega) (by omega) (fun j hj => ?_)
            by_cases e : j = i
            · subst e; omega
            · exact h4 j (by omega)
    · have : i = s.size := by omega
      subst this
      rw [if_neg (by omega)]
      congr 1
      by_cases h0 : 0 < s.size
      · rw [mayB_true.2 ⟨h0, by omega, h4⟩]; exact decide_eq_true (by omega)
      · rw [mayB_false (by omega)]; exact decide_eq_false (by omega)
theorem refMay_some (s : ByteArray) : hibernacleref10_May.f 34 s = some (mayB s) := refMay_from s 33 0 (by omega) (by omega) (by omega) (fun j hj => by omega)
/-- Where a name is. -/
def idx : List ByteArray → ByteArray → Option Nat
  | [], _ => none
  | x :: xs, s => if x = s then some 0 else (idx xs s).map (· + 1)
theorem idx_none {xs : List ByteArray} {s : ByteArray} : idx xs s = none ↔ s ∉ xs := by
  induction xs with
  | nil => simp [idx]
  | cons x xs ih =>
    by_cases e : x = s
    · simp [idx, e]
    · simp only [idx, e, if_false, Option.map_eq_none_iff, ih, List.mem_cons, not_or]
      exact ⟨fun h => ⟨fun h' => e h'.symm, h⟩, fun h => h.2⟩
theorem idx_some {xs : List ByteArray} {s : ByteArray} {i : Nat} (h : idx xs s = some i) : i < xs.length ∧ xs[i]? = some s ∧ ∀ j, j < i → xs[j]? ≠ some s := by
  induction xs generalizing i with
  | nil => simp [idx] at h
  | cons x xs ih =>
    by_cases e : x = s
    · simp [idx, e] at h
      subst h
      simp [e]
    · simp only [idx, e, if_false, Option.map_eq_some_iff] at h
      obtain ⟨k, hk, rfl⟩ := h
      obtain ⟨h1, h2, h3⟩ := ih hk
      refine ⟨by simpa using h1, by simpa using h2, fun j hj => ?_⟩
      cases j with
      | zero => simpa using e
      | succ j => simpa using h3 j (by omega)
theorem idx_snoc (xs : List ByteArray) (t s : ByteArray) : idx (xs ++ [t]) s = match idx xs s with | some i => some i | none => if t = s then some xs.length else none := by
  induction xs with
  | nil => simp [idx]
  | cons x xs ih =>
    by_cases e : x = s
    · simp [idx, e]
    · simp only [List.cons_append, idx, e, if_false, ih]
      cases idx xs s with
      | some i => rfl
      | none => by_cases h : t = s <;> simp [h]
theorem idx_at {xs : List ByteArray} (hn : xs.Nodup) {i : Nat} (h : i < xs.length) : idx xs xs[i] = some i := by
  have hm : xs[i] ∈ xs := List.getElem_mem h
  cases e : idx xs xs[i] with
  | none => exact absurd hm (idx_none.1 e)
  | some j =>
    obtain ⟨h1, h2, _⟩ := idx_some e
    rw [List.getElem?_eq_getElem h1] at h2
    have := (List.getElem_inj hn).1 (Option.some.inj h2)
    rw [this]
def atZ (xs : List ByteArray) (s : ByteArray) : Int := match idx xs s with | some i => (i : Int) | none => -1
theorem refAt_from (s : ByteArray) (xs : List ByteArray) (hl : xs.length ≤ 1000000) (d : Nat) : ∀ i : Nat, i + d = xs.length → (∀ j, j < i → xs[j]? ≠ some s) → hibernacleref10_At.l0 (d + 1) xs s (i : Int) = some (atZ xs s) := by
  have key : ∀ i : Nat, i < xs.length → ((rdOf ByteArray.empty xs (i : Int)).toList = s.toList ↔ xs[i]? = some s) := fun i hi => by
    rw [rdOf, Int.toNat_natCast, List.getD_eq_getElem?_getD, List.getElem?_eq_getElem hi]
    simp only [Option.getD_some, Option.some.injEq]
    exact ⟨fun h => toList_inj h, fun h => by rw [h]⟩
  induction d with
  | zero =>
    intro i h1 h2
    simp only [hibernacleref10_At.l0]
    rw [if_neg (by omega)]
    have : idx xs s = none := idx_none.2 fun hm => by
      obtain ⟨j, hj, e⟩ := List.getElem_of_mem hm
      exact h2 j (by omega) (by rw [List.getElem?_eq_getElem hj, e])
    simp [atZ, this]
  | succ d ih =>
    intro i h1 h2
    have hi : i < xs.length := by omega
    simp only [hibernacleref10_At.l0]
    rw [if_pos (by omega), if_pos (by omega)]
    by_cases e : xs[i]? = some s
    · rw [if_pos ((key i hi).2 e)]
      have hm : s ∈ xs := List.mem_of_getElem? e
      cases hx : idx xs s with
      | none => exact absurd hm (idx_none.1 hx)
      | some j =>
        obtain ⟨a1, a2, a3⟩ := idx_some hx
        have : j = i := by
          rcases Nat.lt_trichotomy j i with h | h | h
          · exact absurd a2 (h2 j h)
          · exact h
          · exact absurd e (a3 i h)
        subst this
        simp [atZ, hx]
    · rw [if_neg (fun h => e ((key i hi).1 h)), show wrap64 ((i : Int) + 1) = ((i + 1 : Nat) : Int) by unfold wrap64; omega]
      refine ih (i + 1) (by omega) (fun j hj => ?_)
      by_cases ej : j = i
      · subst ej; exact e
      · exact h2 j (by omega)
theorem refAt_some (xs : List ByteArray) (s : ByteArray) (hl : xs.length ≤ 1000000) : hibernacleref10_At.f (xs.length + 1) xs s = some (atZ xs s) := refAt_from s xs hl xs.length 0 (by omega) (fun j hj => by omega)
/-- The digits of a number, the highest first, as bytes. -/
def dgs (n : Nat) : List Int := if n < 10 then [48 + (n : Int)] else dgs (n / 10) ++ [48 + ((n % 10 : Nat) : Int)]
termination_by n
decreasing_by omega
theorem dgs_small {n : Nat} (h : n < 10) : dgs n = [48 + (n : Int)] := by rw [dgs, if_pos h]
theorem dgs_big {n : Nat} (h : ¬ n < 10) : dgs n = dgs (n / 10) ++ [48 + ((n % 10 : Nat) : Int)] := by rw [dgs, if_neg h]
theorem dgs_digit (n : Nat) : ∀ c ∈ dgs n, 48 ≤ c ∧ c ≤ 57 := by
  induction n using Nat.strongRecOn with
  | _ n ih =>
    by_cases h : n < 10
    · rw [dgs_small h]; intro c hc; simp at hc; omega
    · rw [dgs_big h]
      intro c hc
      rcases List.mem_append.1 hc with hc | hc
      · exact ih _ (by omega) c hc
      · simp at hc; omega
theorem dgs_bytes (n : Nat) : Bytes (dgs n) := fun c hc => by have := dgs_digit n c hc; omega
theorem dgs_len {n : Nat} : ∀ {L : Nat}, n < 10 ^ (L + 1) → (dgs n).length ≤ L + 1 := by
  induction n using Nat.strongRecOn with
  | _ n ih =>
    intro L h
    by_cases h0 : n < 10
    · rw [dgs_small h0]; simp
    · rw [dgs_big h0]
      cases L with
      | zero => simp at h; omega
      | succ L =>
        rw [Nat.pow_succ] at h
        have := ih (n / 10) (by omega) (L := L) (by omega)
        simpa using this
def vals (l : List Int) : Int := l.foldl (fun a d => 10 * a + (d - 48)) 0
theorem vals_dgs (n : Nat) : vals (dgs n) = n := by
  induction n using Nat.strongRecOn with
  | _ n ih =>
    by_cases h : n < 10
    · rw [dgs_small h]; simp [vals]; omega
    · have := ih (n / 10) (by omega)
      rw [dgs_big h, vals, List.foldl_append, ← vals, this]
      simp
      omega
theorem dgs_inj {n m : Nat} (h : dgs n = dgs m) : n = m := by
  have h1 := vals_dgs n
  rw [h, vals_dgs m] at h1
  omega
theorem tdivN (n : Nat) : Int.tdiv (n : Int) 10 = ((n / 10 : Nat) : Int) := rfl
theorem tmodN (n : Nat) : Int.tmod (n : Int) 10 = ((n % 10 : Nat) : Int) := rfl
theorem digits_some (n : Nat) (hn : n ≤ 1000000) : ∀ k, n < k → sym_digits.f k (n : Int) = some (strOfNums (dgs n)) := by
  induction n using Nat.strongRecOn with
  | _ n ih =>
    intro k hk
    obtain ⟨k, rfl⟩ : ∃ m, k = m + 1 := ⟨k - 1, by omega⟩
    simp only [sym_digits.f]
    by_cases h : n < 10
    · rw [if_pos (by omega), dgs_small h, show (wrap64 (48 + (n : Int))) % 256 = 48 + (n : Int) by unfold wrap64; omega]
    · rw [if_neg (by omega), show wrap64 (Int.tdiv (n : Int) 10) = ((n / 10 : Nat) : Int) by rw [tdivN]; unfold wrap64; omega, ih (n / 10) (by omega) (by omega) k (by omega)]
      simp only [Option.bind_some]
      have hL := dgs_len (n := n / 10) (L := 6) (by omega)
      rw [show (wrap64 (48 + Int.tmod (n : Int) 10)) % 256 = 48 + ((n % 10 : Nat) : Int) by rw [tmodN]; unfold wrap64; omega, str_size, str_size, if_pos (by simp; omega), ← str_append, ← dgs_big h]
theorem number_some (n : Nat) (hn : n ≤ 1000000) : ∀ (k : Nat) (acc : ByteArray), n < k → acc.size + (dgs n).length ≤ 1000 → hibernacleref10_Number.l0 k (n : Int) acc = some (strOfNums (dgs n) ++ acc) := by
  induction n using Nat.strongRecOn with
  | _ n ih =>
    intro k acc hk hacc
    obtain ⟨k, rfl⟩ : ∃ m, k = m + 1 := ⟨k - 1, by omega⟩
    simp only [hibernacleref10_Number.l0]
    by_cases h : n < 10
    · rw [if_neg (by omega)]
      simp only [Option.bind_some]
      rw [show (wrap64 (48 + (n : Int))) % 256 = 48 + (n : Int) by unfold wrap64; omega, ← dgs_small h, str_size, if_pos (by omega)]
    · rw [dgs_big h] at hacc
      rw [List.length_append] at hacc
      rw [if_pos (by omega)]
      simp only [Option.bind_some]
      rw [show (wrap64 (48 + Int.tmod (n : Int) 10)) % 256 = 48 + ((n % 10 : Nat) : Int) by rw [tmodN]; unfold wrap64; omega, str_size, if_pos (by simp at *; omega),
        show wrap64 (Int.tdiv (n : Int) 10) = ((n / 10 : Nat) : Int) by rw [tdivN]; unfold wrap64; omega, ih (n / 10) (by omega) (by omega) k _ (by omega) (by rw [size_app, str_size]; simp at *; omega)]
      congr 1
      refine data_inj ?_
      rw [dgs_big h, str_append]
      simp [data_app]
theorem refNumber_some (n : Nat) (hn : n ≤ 1000000) : hibernacleref10_Number.f (n + 1) (n : Int) = some (strOfNums (dgs n)) := by
  have hL := dgs_len (n := n) (L := 6) (by omega)
  have h := number_some n hn (n + 1) (⟨#[]⟩ : ByteArray) (by omega) (by simp [ByteArray.size]; omega)
  rw [hibernacleref10_Number.f, h]
  congr 1
  refine data_inj ?_
  simp [data_app]
/-- The end of a new name, and the new name. -/
def endOf (n : Nat) : ByteArray := (⟨#[37]⟩ : ByteArray) ++ strOfNums (dgs n)
def cand (s : ByteArray) (n : Nat) : ByteArray := s.extract 0 (min s.size (32 - (endOf n).size)) ++ endOf n
theorem endOf_bys (n : Nat) : bys (endOf n) = 37 :: dgs n := by
  rw [endOf, bys_app, bys_str (dgs_bytes n)]
  rfl
theorem endOf_size (n : Nat) : (endOf n).size = (dgs n).length + 1 := by rw [← bys_length, endOf_bys]; rfl
theorem cand_bys (s : ByteArray) (n : Nat) : bys (cand s n) = (bys s).take (32 - (endOf n).size) ++ 37 :: dgs n := by
  rw [cand, bys_app, endOf_bys, bys_take]
  congr 1
  rcases Nat.le_total s.size (32 - (endOf n).size) with h | h
  · rw [Nat.min_eq_left h, List.take_of_length_le (by rw [bys_length]; exact Nat.le_refl _), List.take_of_length_le (by rw [bys_length]; exact h)]
  · rw [Nat.min_eq_right h]
theorem tail_eq {a b x y : List Int} (hx : ∀ c ∈ x, c ≠ 37) (hy : ∀ c ∈ y, c ≠ 37) (h : a ++ 37 :: x = b ++ 37 :: y) : x = y := by
  have h1 : ∀ (a x : List Int), (∀ c ∈ x, c ≠ 37) → ((a ++ 37 :: x).reverse.takeWhile (· != 37)) = x.reverse := fun a x hx => by
    rw [List.reverse_append, List.reverse_cons, List.append_assoc, List.takeWhile_append_of_pos (fun c hc => by simpa using hx c (List.mem_reverse.1 hc))]
    simp
  have h2 := h1 a x hx
  rw [h, h1 b y hy] at h2
  exact (List.reverse_inj.1 h2).symm
theorem cand_inj {s : ByteArray} {n m : Nat} (h : cand s n = cand s m) : n = m := by
  have h1 := congrArg bys h
  rw [cand_bys, cand_bys] at h1
  exact dgs_inj (tail_eq (fun c hc => by have := dgs_digit n c hc; omega) (fun c hc => by have := dgs_digit m c hc; omega) h1)
theorem cand_may {s : ByteArray} {n : Nat} (h : mayB s = true) (hn : n ≤ 99999) : mayB (cand s n) = true := by
  have hL := dgs_len (n := n) (L := 4) (by omega)
  rw [mayB_bys] at h ⊢
  rw [cand_bys, endOf_size]
  refine ⟨by simp; omega, by simp; omega, fun c hc => ?_⟩
  rcases List.mem_append.1 hc with hc | hc
  · exact h.2.2 c (List.mem_of_mem_take hc)
  · rcases List.mem_cons.1 hc with rfl | hc
    · omega
    · have := dgs_digit n c hc; omega
theorem nodup_le {α : Type} [DecidableEq α] (l : List α) : ∀ xs : List α, l.Nodup → (∀ x ∈ l, x ∈ xs) → l.length ≤ xs.length := by
  induction l with
  | nil => intro xs _ _; simp
  | cons a l ih =>
    intro xs hn hs
    obtain ⟨h1, h2⟩ := List.nodup_cons.1 hn
    have ha : a ∈ xs := hs a (by simp)
    have := ih (xs.erase a) h2 (fun x hx => (List.mem_erase_of_ne (fun e => by subst e; exact h1 hx)).2 (hs x (by simp [hx])))
    rw [List.length_erase_of_mem ha] at this
    have := List.length_pos_of_mem ha
    simp
    omega
theorem cand_free (xs : List ByteArray) (s : ByteArray) : ∃ n, 1 ≤ n ∧ n ≤ xs.length + 1 ∧ cand s n ∉ xs := by
  refine Classical.byContradiction fun hno => ?_
  have hall : ∀ n, 1 ≤ n → n ≤ xs.length + 1 → cand s n ∈ xs := fun n h1 h2 => Classical.byContradiction fun h => hno ⟨n, h1, h2, h⟩
  have := nodup_le ((List.range (xs.length + 1)).map fun i => cand s (i + 1)) xs (by
    refine List.pairwise_map.2 (List.Pairwise.imp ?_ List.nodup_range)
    intro a b hab e
    exact hab (by have := cand_inj e; omega)) (fun x hx => by
    obtain ⟨i, hi, rfl⟩ := List.mem_map.1 hx
    have := List.mem_range.1 hi
    exact hall _ (by omega) (by omega))
  simp at this
  omega
/-- The new name's number. -/
def IsFree (xs : List ByteArray) (s : ByteArray) (n : Nat) : Prop := 1 ≤ n ∧ n ≤ xs.length + 1 ∧ cand s n ∉ xs ∧ ∀ m, 1 ≤ m → m < n → cand s m ∈ xs
theorem free_ex (xs : List ByteArray) (s : ByteArray) : ∃ n, IsFree xs s n := by
  obtain ⟨n, h⟩ := cand_free xs s
  have : ∀ N n, n ≤ N → 1 ≤ n ∧ n ≤ xs.length + 1 ∧ cand s n ∉ xs → ∃ n, IsFree xs s n := by
    intro N
    induction N with
    | zero => intro n hn h; omega
    | succ N ih =>
      intro n hn h
      by_cases hm : ∃ m, 1 ≤ m ∧ m < n ∧ cand s m ∉ xs
      · obtain ⟨m, h1, h2, h3⟩ := hm
        exact ih m (by omega) ⟨h1, by omega, h3⟩
      · exact ⟨n, h.1, h.2.1, h.2.2, fun m h1 h2 => Classical.byContradiction fun h3 => hm ⟨m, h1, h2, h3⟩⟩
  exact this n n (Nat.le_refl _) h
theorem free_one {xs : List ByteArray} {s : ByteArray} {n m : Nat} (h : IsFree xs s n) (k : IsFree xs s m) : n = m := by
  rcases Nat.lt_trichotomy n m with e | e | e
  · exact absurd (k.2.2.2 n h.1 e) h.2.2.1
  · exact e
  · exact absurd (h.2.2.2 m k.1 e) k.2.2.1
noncomputable def freeN (xs : List ByteArray) (s : ByteArray) : Nat := Classical.choose (free_ex xs s)
theorem freeN_is (xs : List ByteArray) (s : ByteArray) : IsFree xs s (freeN xs s) := Classical.choose_spec (free_ex xs s)
noncomputable def freshS (xs : List ByteArray) (s : ByteArray) : ByteArray := cand s (freeN xs s)
end Go.Proofs.Ytmopnchballegaa
