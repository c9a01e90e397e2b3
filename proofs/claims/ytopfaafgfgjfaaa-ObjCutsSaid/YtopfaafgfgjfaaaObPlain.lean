/- What a record's bytes are taken off as, whole, cut, and with one more behind. Plain lists. -/
import Derived.Test.YtopfaafgfgjfaaaObDec
set_option linter.unusedVariables false
set_option linter.unusedSimpArgs false
namespace Go.Proofs.Ytopfaafgfgjfaaa
open Go.RowKit Go.Proofs.YtopfaafgfgjfaaaW.PrintWords Go.Proofs.Ytopfaafgfgjfaaa.PObjLinks
theorem pow_le_128 {k : Nat} (h : k ≤ 9) : 128 ^ k ≤ 9223372036854775808 := Nat.le_trans (Nat.pow_le_pow_right (by omega) h) (by decide)
theorem numL_put (rest : List Int) (x : Nat) : ∀ (k a : Nat), k ≤ 9 → x * 128 ^ k < 18446744073709551616 → (k = 0 ∨ 0 < x) → numL (uput x ++ rest) k a = (a + x * 128 ^ k, k + (uput x).length, 0) := by
  induction x using Nat.strongRecOn with
  | _ x ih =>
    intro k a hk hx hp
    by_cases h : x < 128
    · rw [uput_lo h, List.singleton_append, numL, if_neg, if_pos (by omega), if_neg, Int.toNat_natCast, Nat.mod_eq_of_lt h]
      · rfl
      · omega
      · rintro (h9 | ⟨rfl, h1⟩)
        · omega
        · omega
    · have e : 128 ^ (k + 1) = 128 ^ k * 128 := Nat.pow_succ ..
      have hpow : 0 < 128 ^ k := Nat.pow_pos (by omega)
      have h9 : k ≠ 9 := by
        rintro rfl
        omega
      rw [uput_hi h, List.cons_append, numL, if_neg (by omega), if_neg (by omega), Int.toNat_natCast]
      have hdiv : x = x / 128 * 128 + x % 128 := by omega
      have hmul : x / 128 * 128 ^ (k + 1) + x % 128 * 128 ^ k = x * 128 ^ k := by
        rw [e]
        conv => rhs; rw [hdiv]
        rw [Nat.add_mul, Nat.mul_comm (128 ^ k) 128, Nat.mul_assoc]
      rw [ih (x / 128) (by omega) (k + 1) _ (by omega) (by omega) (by omega), show (x % 128 + 128) % 128 = x % 128 by omega, List.length_cons]
      refine Prod.ext ?_ (Prod.ext ?_ rfl)
      · show _ + _ + _ = _; omega
      · show k + 1 + _ = k + (_ + 1); omega
theorem numL_cut (x : Nat) : ∀ (k a j : Nat), k ≤ 9 → x * 128 ^ k < 18446744073709551616 → j < (uput x).length → numL ((uput x).take j) k a = (0, 0, 3) := by
  induction x using Nat.strongRecOn with
  | _ x ih =>
    intro k a j hk hx hj
    by_cases h : x < 128
    · rw [uput_lo h] at hj ⊢
      obtain rfl : j = 0 := by simp at hj; omega
      rfl
    · have e : 128 ^ (k + 1) = 128 ^ k * 128 := Nat.pow_succ ..
      have hpow : 0 < 128 ^ k := Nat.pow_pos (by omega)
      have h9 : k ≠ 9 := by
        rintro rfl
        omega
      cases j with
      | zero => rw [List.take_zero]; rfl
      | succ j =>
        rw [uput_hi h] at hj ⊢
        rw [List.take_succ_cons, numL, if_neg (by omega), if_neg (by omega)]
        have hdiv : x = x / 128 * 128 + x % 128 := by omega
        have hmul : x / 128 * 128 ^ (k + 1) + x % 128 * 128 ^ k = x * 128 ^ k := by
          rw [e]
          conv => rhs; rw [hdiv]
          rw [Nat.add_mul, Nat.mul_comm (128 ^ k) 128, Nat.mul_assoc]
        exact ih (x / 128) (by omega) (k + 1) _ j (by omega) (by omega) (by simpa using hj)
theorem rcount_ok {bs rest : List Int} {p x : Nat} {limit : Int} (h : bs.drop p = uput x ++ rest) (hx : x < 9223372036854775808) (hl : (x : Int) ≤ limit) : rcount bs p limit = (x, p + (uput x).length, 0) := by
  have e := numL_put rest x 0 0 (by omega) (by omega) (.inl rfl)
  rw [← h] at e
  unfold rcount
  rw [e]
  simp only [Nat.pow_zero, Nat.mul_one, Nat.zero_add]
  rw [if_neg (by omega), if_neg (by omega), if_neg (by omega)]
theorem rcount_cut {bs : List Int} {p x j : Nat} {limit : Int} (h : bs.drop p = (uput x).take j) (hj : j < (uput x).length) (hx : x < 9223372036854775808) : rcount bs p limit = (0, p, 3) := by
  have e := numL_cut x 0 0 j (by omega) (by omega) hj
  rw [← h] at e
  unfold rcount
  rw [e]; rfl
theorem rwhole_ok {bs rest : List Int} {p x : Nat} (h : bs.drop p = uput x ++ rest) (hx : x < 18446744073709551616) : rwhole bs p = (unzz x, p + (uput x).length, 0) := by
  have e := numL_put rest x 0 0 (by omega) (by omega) (.inl rfl)
  rw [← h] at e
  unfold rwhole
  rw [e]
  simp only [Nat.pow_zero, Nat.mul_one, Nat.zero_add]
  rw [if_neg (by omega)]
theorem rwhole_cut {bs : List Int} {p x j : Nat} (h : bs.drop p = (uput x).take j) (hj : j < (uput x).length) (hx : x < 18446744073709551616) : rwhole bs p = (0, p, 3) := by
  have e := numL_cut x 0 0 j (by omega) (by omega) hj
  rw [← h] at e
  unfold rwhole
  rw [e]; rfl
theorem rsized_ok {bs rest ds : List Int} {p : Nat} {limit : Int} (h : bs.drop p = uput ds.length ++ ds ++ rest) (hp : p ≤ bs.length) (hx : ds.length < 9223372036854775808) (hl : (ds.length : Int) ≤ limit) :
    rsized bs p limit = (ds, p + (uput ds.length ++ ds).length, 0) := by
  have e := rcount_ok (rest := ds ++ rest) (by rw [h, List.append_assoc]) hx hl
  have hlen : bs.length = p + ((uput ds.length).length + ds.length + rest.length) := by
    have := congrArg List.length h
    simp only [List.length_drop, List.length_append] at this
    omega
  have hd : bs.drop (p + (uput ds.length).length) = ds ++ rest := by
    rw [← List.drop_drop, h, List.append_assoc, List.drop_left]
  unfold rsized
  rw [e]
  simp only
  rw [if_neg (by omega), if_neg (by omega), hd, List.take_left, List.length_append, Nat.add_assoc]
theorem rsized_cut {bs ds : List Int} {p j : Nat} {limit : Int} (h : bs.drop p = (uput ds.length ++ ds).take j) (hp : p ≤ bs.length) (hj : j < (uput ds.length ++ ds).length) (hx : ds.length < 9223372036854775808) (hl : (ds.length : Int) ≤ limit) :
    rsized bs p limit = ([], p, 3) := by
  rw [List.length_append] at hj
  by_cases hju : j < (uput ds.length).length
  · have e := rcount_cut (limit := limit) (x := ds.length) (j := j) (by rw [h, List.take_append_of_le_length (by omega)]) hju hx
    unfold rsized
    rw [e]; rfl
  · have e := rcount_ok (rest := ds.take (j - (uput ds.length).length)) (by rw [h, List.take_append, List.take_of_length_le (by omega)]) hx hl
    have hlen : bs.length = p + j := by
      have := congrArg List.length h
      simp only [List.length_drop, List.length_take, List.length_append] at this
      omega
    unfold rsized
    rw [e]
    simp only
    rw [if_neg (by omega), if_pos (by omega)]
theorem bys_str {l : List Int} (h : Bytes l) : bys (strOfNums l) = l := by
  have : bys (strOfNums l) = l.map (fun n => ((UInt8.ofNat n.toNat).toNat : Int)) := by simp [bys, strOfNums]
  rw [this]
  conv => rhs; rw [← List.map_id l]
  refine List.map_congr_left fun x hx => ?_
  have := h x hx
  simp
  omega
theorem str_bys (s : ByteArray) : strOfNums (bys s) = s := by
  refine data_inj ?_
  rw [strOfNums_data, bys, List.map_map]
  conv => rhs; rw [← List.map_id s.data.toList]
  exact List.map_congr_left (fun x _ => by simp)
theorem size0 {s : ByteArray} (h : s.size = 0) : s = ⟨#[]⟩ := ByteArray.ext (Array.eq_empty_of_size_eq_zero h)
theorem rbyte_at {bs rest : List Int} {p : Nat} {x : Int} (h : bs.drop p = x :: rest) : rbyte bs p = (x, p + 1, 0) := by
  have hl := congrArg List.length h
  simp only [List.length_drop, List.length_cons] at hl
  have hp : p < bs.length := by omega
  unfold rbyte
  rw [if_pos hp]
  rw [List.drop_eq_getElem_cons hp] at h
  injection h with h1 h2
  rw [List.getD_eq_getElem?_getD, List.getElem?_eq_getElem hp, Option.getD_some, h1]
theorem rbyte_end {bs : List Int} {p : Nat} (h : bs.drop p = []) : rbyte bs p = (0, p, 3) := by
  unfold rbyte
  rw [if_neg (by have := List.drop_eq_nil_iff.1 h; omega)]
theorem drop_one {bs rest : List Int} {p : Nat} {x : Int} (h : bs.drop p = x :: rest) : bs.drop (p + 1) = rest := by rw [← List.drop_drop, h]; rfl
/-- What a part that may be is. -/
theorem pm_kind {q : S54} (h : pmB q = true) : (q.f0 = 1 ∨ q.f0 = 3 ∨ q.f0 = 5 ∨ q.f0 = 8) ∧ 0 ≤ q.f1 ∧ q.f1 ≤ 16384 ∧ q.f2 = ⟨#[]⟩ ∨ q.f0 = 2 ∧ q.f2 = ⟨#[]⟩ ∨ q.f0 = 4 ∧ q.f1 = 0 ∧ q.f2.size ≤ 32 ∨ (q.f0 = 0 ∨ q.f0 = 6 ∨ q.f0 = 7) ∧ q.f1 = 0 ∧ q.f2 = ⟨#[]⟩ := by
  unfold pmB at h
  by_cases h4 : q.f0 = 4
  · rw [if_pos h4, Bool.and_eq_true] at h
    exact .inr (.inr (.inl ⟨h4, of_decide_eq_true h.1, (mayB_true.1 h.2).2.1⟩))
  · rw [if_neg h4] at h
    by_cases hz : q.f2.size ≠ 0
    · rw [if_pos hz] at h; cases h
    · rw [if_neg hz] at h
      have hz' : q.f2 = ⟨#[]⟩ := size0 (by omega)
      by_cases h0 : q.f0 = 0 ∨ q.f0 = 6 ∨ q.f0 = 7
      · rw [if_pos h0] at h
        exact .inr (.inr (.inr ⟨h0, of_decide_eq_true h, hz'⟩))
      · rw [if_neg h0] at h
        by_cases h1 : q.f0 = 1
        · rw [if_pos h1] at h
          have := of_decide_eq_true h
          exact .inl ⟨.inl h1, this.1, by omega, hz'⟩
        · rw [if_neg h1] at h
          by_cases h3 : q.f0 = 3
          · rw [if_pos h3] at h
            have := of_decide_eq_true h
            exact .inl ⟨.inr (.inl h3), this.1, by omega, hz'⟩
          · rw [if_neg h3] at h
            by_cases h5 : q.f0 = 5
            · rw [if_pos h5] at h
              have := of_decide_eq_true h
              exact .inl ⟨.inr (.inr (.inl h5)), this.1, by omega, hz'⟩
            · rw [if_neg h5] at h
              by_cases h8 : q.f0 = 8
              · rw [if_pos h8] at h
                have := of_decide_eq_true h
                exact .inl ⟨.inr (.inr (.inr h8)), by omega, this.2, hz'⟩
              · rw [if_neg h8] at h
                exact .inr (.inl ⟨of_decide_eq_true h, hz'⟩)
/-- A part that may be is taken off as it is. -/
theorem rpart_ok {bs rest : List Int} {p : Nat} {q : S54} (hm : pmB q = true) (h0 : -9223372036854775808 ≤ q.f1) (h1 : q.f1 ≤ 9223372036854775807) (h : bs.drop p = pbytes q ++ rest) : rpart bs p = (q, p + (pbytes q).length, 0) := by
  obtain ⟨K, N, S⟩ := q
  dsimp only at *
  have hb := rbyte_at (show bs.drop p = K % 256 :: (ptail ⟨K, N, S⟩ ++ rest) from h)
  have hd := drop_one (show bs.drop p = K % 256 :: (ptail ⟨K, N, S⟩ ++ rest) from h)
  have hle : p + 1 ≤ bs.length := by
    have := congrArg List.length h
    simp only [List.length_drop, List.length_append] at this
    have h2 : 0 < (pbytes ⟨K, N, S⟩).length := by simp [pbytes]
    omega
  have hlen : (pbytes ⟨K, N, S⟩).length = (ptail ⟨K, N, S⟩).length + 1 := by simp [pbytes]
  rcases pm_kind hm with ⟨hK, hn0, hn1, hS⟩ | ⟨hK, hS⟩ | ⟨hK, hN, hS⟩ | ⟨hK, hN, hS⟩
  · dsimp only at hK hn0 hn1 hS
    have ht : ptail ⟨K, N, S⟩ = uput N.toNat := by unfold ptail; rw [if_pos hK]
    rw [ht] at hd hlen
    rw [show K % 256 = K by omega] at hb
    have hc := rcount_ok (limit := 16384) hd (by omega) (by omega)
    rw [rpart_count hb hK, hc, hlen, hS]
    simp only
    rw [Int.toNat_of_nonneg hn0, Nat.add_assoc, Nat.add_comm 1]
  · dsimp only at hK hS
    subst hK
    have ht : ptail ⟨2, N, S⟩ = uput (zz N) := by unfold ptail; simp
    rw [ht] at hd hlen
    have hc := rwhole_ok hd (zz_lt h0 h1)
    rw [rpart_whole hb, hc, hlen, hS, unzz_zz]
    simp only
    rw [Nat.add_assoc, Nat.add_comm 1]
  · dsimp only at hK hN hS
    subst hK; subst hN
    have ht : ptail ⟨4, 0, S⟩ = uput (bys S).length ++ bys S := by unfold ptail; rw [bys_length]; simp
    rw [ht] at hd hlen
    have hc := rsized_ok (limit := 32) hd hle (by rw [bys_length]; omega) (by rw [bys_length]; omega)
    rw [rpart_sym hb, hc, hlen, str_bys]
    simp only
    rw [Nat.add_assoc, Nat.add_comm 1]
  · dsimp only at hK hN hS
    have ht : ptail ⟨K, N, S⟩ = [] := by unfold ptail; dsimp only; rw [if_neg (by omega), if_neg (by omega), if_neg (by omega)]
    rw [ht] at hlen
    rw [show K % 256 = K by omega] at hb
    rw [rpart_other hb (by omega), hlen, hN, hS]
    rfl
theorem rpart_cut {bs : List Int} {p j : Nat} {q : S54} (hm : pmB q = true) (h0 : -9223372036854775808 ≤ q.f1) (h1 : q.f1 ≤ 9223372036854775807) (h : bs.drop p = (pbytes q).take j) (hj : j < (pbytes q).length) : (rpart bs p).2.2 = 3 := by
  obtain ⟨K, N, S⟩ := q
  dsimp only at *
  have hlen : (pbytes ⟨K, N, S⟩).length = (ptail ⟨K, N, S⟩).length + 1 := by simp [pbytes]
  cases j with
  | zero =>
    have := rpart_bad (rbyte_end (by simpa using h))
    rw [this]
  | succ j =>
    have hb := rbyte_at (show bs.drop p = K % 256 :: (ptail ⟨K, N, S⟩).take j from h)
    have hd := drop_one (show bs.drop p = K % 256 :: (ptail ⟨K, N, S⟩).take j from h)
    have hle : p + 1 ≤ bs.length := by
      have := congrArg List.length h
      simp only [List.length_drop, List.length_take] at this
      omega
    rcases pm_kind hm with ⟨hK, hn0, hn1, hS⟩ | ⟨hK, hS⟩ | ⟨hK, hN, hS⟩ | ⟨hK, hN, hS⟩
    · dsimp only at hK hn0 hn1 hS
      have ht : ptail ⟨K, N, S⟩ = uput N.toNat := by unfold ptail; rw [if_pos hK]
      rw [ht] at hd hlen
      rw [show K % 256 = K by omega] at hb
      have hc := rcount_cut (limit := 16384) hd (by omega) (by omega)
      rw [rpart_count hb hK, hc]
    · dsimp only at hK hS
      subst hK
      have ht : ptail ⟨2, N, S⟩ = uput (zz N) := by unfold ptail; simp
      rw [ht] at hd hlen
      have hc := rwhole_cut hd (by omega) (zz_lt h0 h1)
      rw [rpart_whole hb, hc]
    · dsimp only at hK hN hS
      subst hK; subst hN
      have ht : ptail ⟨4, 0, S⟩ = uput (bys S).length ++ bys S := by unfold ptail; rw [bys_length]; simp
      rw [ht] at hd hlen
      have hc := rsized_cut (limit := 32) hd hle (by omega) (by rw [bys_length]; omega) (by rw [bys_length]; omega)
      rw [rpart_sym hb, hc]
    · dsimp only at hK hN hS
      have ht : ptail ⟨K, N, S⟩ = [] := by unfold ptail; dsimp only; rw [if_neg (by omega), if_neg (by omega), if_neg (by omega)]
      rw [ht] at hlen
      simp at hlen
      omega
theorem okPart_3 {r : S54 × Nat × Nat} (h : r.2.2 = 3) : okPart r = false := by unfold okPart; rw [h]; rfl
theorem rparts_ok {bs rest : List Int} : ∀ (l : List S54) (p : Nat) (acc : List S54), (∀ q ∈ l, pmB q = true) → Wf54 l → bs.drop p = lbytes l ++ rest → rparts bs l.length p acc = (true, acc ++ l, p + (lbytes l).length, 0)
  | [], p, acc, _, _, _ => by simp [rparts, lbytes]
  | q :: l, p, acc, hm, hw, h => by
    have h' : bs.drop p = pbytes q ++ (lbytes l ++ rest) := by rw [h]; show (pbytes q ++ lbytes l) ++ rest = _; rw [List.append_assoc]
    have hq := hw q (List.mem_cons_self ..)
    have hp := rpart_ok (hm q (List.mem_cons_self ..)) hq.1 hq.2 h'
    have hd : bs.drop (p + (pbytes q).length) = lbytes l ++ rest := by rw [← List.drop_drop, h', List.drop_left]
    rw [List.length_cons, rparts, hp, if_pos (by unfold okPart; rw [hm q (List.mem_cons_self ..)]; rfl)]
    dsimp only
    rw [rparts_ok l _ _ (fun x hx => hm x (List.mem_cons_of_mem _ hx)) (fun x hx => hw x (List.mem_cons_of_mem _ hx)) hd]
    have hl : (lbytes (q :: l)).length = (pbytes q).length + (lbytes l).length := by show (pbytes q ++ lbytes l).length = _; rw [List.length_append]
    rw [hl, List.append_assoc, Nat.add_assoc]; rfl
theorem rparts_cut {bs : List Int} : ∀ (l : List S54) (p j : Nat) (acc : List S54), (∀ q ∈ l, pmB q = true) → Wf54 l → bs.drop p = (lbytes l).take j → j < (lbytes l).length → ∃ a' p', rparts bs l.length p acc = (false, a', p', 3)
  | [], p, j, acc, _, _, _, hj => by simp [lbytes] at hj
  | q :: l, p, j, acc, hm, hw, h, hj => by
    have hq := hw q (List.mem_cons_self ..)
    have hmq := hm q (List.mem_cons_self ..)
    have hl : (lbytes (q :: l)).length = (pbytes q).length + (lbytes l).length := by show (pbytes q ++ lbytes l).length = _; rw [List.length_append]
    have h' : bs.drop p = (pbytes q ++ lbytes l).take j := h
    by_cases hjq : j < (pbytes q).length
    · rw [List.take_append_of_le_length (by omega)] at h'
      have h3 := rpart_cut hmq hq.1 hq.2 h' hjq
      rw [List.length_cons, rparts, if_neg (by rw [okPart_3 h3]; simp), h3]
      exact ⟨_, _, rfl⟩
    · rw [List.take_append, List.take_of_length_le (by omega)] at h'
      have hp := rpart_ok hmq hq.1 hq.2 h'
      have hd : bs.drop (p + (pbytes q).length) = (lbytes l).take (j - (pbytes q).length) := by rw [← List.drop_drop, h', List.drop_left]
      rw [List.length_cons, rparts, hp, if_pos (by unfold okPart; rw [hmq]; rfl)]
      exact rparts_cut l _ _ _ (fun x hx => hm x (List.mem_cons_of_mem _ hx)) (fun x hx => hw x (List.mem_cons_of_mem _ hx)) hd (by omega)
end Go.Proofs.Ytopfaafgfgjfaaa
