/- A record's bytes, taken off whole, cut, and with one more behind. Plain lists. -/
import Derived.Test.YtopfaafgfgjfaaaObPlain
set_option linter.unusedVariables false
set_option linter.unusedSimpArgs false
namespace Go.Proofs.Ytopfaafgfgjfaaa
open Go.RowKit Go.Proofs.YtopfaafgfgjfaaaW.PrintWords Go.Proofs.Ytopfaafgfgjfaaa.PObjLinks
theorem wbytes_eq (a : Int) (l : List S54) (s : ByteArray) (rest : List Int) : wbytes a l s ++ rest = a % 256 :: (uput l.length ++ (lbytes l ++ ((uput (bys s).length ++ bys s) ++ rest))) := by
  unfold wbytes hbytes
  rw [bys_length]
  simp [List.append_assoc]
section
variable {a : Int} {l : List S54} {s : ByteArray}
theorem wbytes_len : (wbytes a l s).length = 1 + (uput l.length).length + (lbytes l).length + (uput (bys s).length ++ bys s).length := by
  have := congrArg List.length (wbytes_eq a l s [])
  simp only [List.append_nil, List.length_append, List.length_cons] at this ⊢
  omega
theorem kept_mod (h : keptB a = true) : a % 256 = a := by
  have := of_decide_eq_true h
  omega
theorem dec_head {bs x : List Int} (hm : mayR a l s = true) (hw : Wf54 l) (h : bs = a % 256 :: (uput l.length ++ x)) : rdec bs = decEnd bs a (rparts bs l.length (1 + (uput l.length).length) []) ∧ bs.drop (1 + (uput l.length).length) = x := by
  obtain ⟨h1, h2, h3, h4, h5, h6⟩ := may_parts hm hw
  have hd0 : bs.drop 0 = a % 256 :: (uput l.length ++ x) := h
  have hb := rbyte_at hd0
  have hd1 := drop_one hd0
  rw [kept_mod h3] at hb
  have hc := rcount_ok (limit := 256) hd1 (by omega) (by omega)
  constructor
  · unfold rdec
    rw [hb]
    dsimp only
    rw [Nat.zero_add] at hc ⊢
    rw [hc, if_neg (by simp), if_neg (by rw [h3]; simp), if_neg (by simp)]
  · rw [← List.drop_drop, show bs.drop 1 = _ from hd1, List.drop_left]
/-- Behind the parts. -/
theorem dec_whole {rest : List Int} (hm : mayR a l s = true) (hw : Wf54 l) : rdec (wbytes a l s ++ rest) = if 0 < rest.length then noDec 4 else ⟨a, l, s, 0⟩ := by
  obtain ⟨h1, h2, h3, h4, h5, h6⟩ := may_parts hm hw
  obtain ⟨e, hd⟩ := dec_head hm hw (wbytes_eq a l s rest)
  have hp := rparts_ok l _ [] h5 hw hd
  have hlen : (wbytes a l s ++ rest).length = (wbytes a l s).length + rest.length := List.length_append
  have hl := @wbytes_len a l s
  have hd2 : (wbytes a l s ++ rest).drop (1 + (uput l.length).length + (lbytes l).length) = uput (bys s).length ++ bys s ++ rest := by rw [← List.drop_drop, hd, List.drop_left]
  have hs := rsized_ok (limit := 4096) hd2 (by omega) (by rw [bys_length]; omega) (by rw [bys_length]; omega)
  rw [e, hp]
  unfold decEnd
  dsimp only
  rw [hs]
  dsimp only
  rw [List.nil_append, if_neg (by simp), str_bys]
  have hre : rend (wbytes a l s ++ rest) (1 + (uput l.length).length + (lbytes l).length + (uput (bys s).length ++ bys s).length) ((0 : Nat) : Int) = if 0 < rest.length then 4 else 0 := by
    unfold rend
    by_cases hr : 0 < rest.length
    · rw [if_pos hr, if_pos ⟨rfl, by omega⟩]
    · rw [if_neg hr, if_neg (by rintro ⟨_, h⟩; omega)]; rfl
  rw [hre]
  by_cases hr : 0 < rest.length
  · rw [if_pos hr, if_pos hr, if_pos (by decide)]; rfl
  · rw [if_neg hr, if_neg hr, if_neg (by decide), if_neg (by rw [hm]; simp)]
theorem dec_ok (hm : mayR a l s = true) (hw : Wf54 l) : rdec (wbytes a l s) = ⟨a, l, s, 0⟩ := by
  have := dec_whole (rest := []) hm hw
  rw [List.append_nil] at this
  rw [this]; rfl
theorem dec_more (hm : mayR a l s = true) (hw : Wf54 l) (m : Int) : rdec (wbytes a l s ++ [m]) = noDec 4 := dec_whole hm hw
theorem dec_cut (hm : mayR a l s = true) (hw : Wf54 l) (k : Nat) (hk : k < (wbytes a l s).length) : rdec ((wbytes a l s).take k) = noDec 3 := by
  obtain ⟨h1, h2, h3, h4, h5, h6⟩ := may_parts hm hw
  have hl := @wbytes_len a l s
  have he := wbytes_eq a l s []
  rw [List.append_nil, List.append_nil] at he
  cases k with
  | zero =>
    rw [List.take_zero]
    unfold rdec
    rw [rbyte_end (p := 0) (by simp), if_pos (by simp)]; rfl
  | succ k =>
    obtain ⟨bs, hbs⟩ : ∃ q, (wbytes a l s).take (k + 1) = q := ⟨_, rfl⟩
    have hb0 : bs = a % 256 :: (uput l.length ++ (lbytes l ++ (uput (bys s).length ++ bys s))).take k := by rw [← hbs, he]; rfl
    rw [hbs]
    by_cases hu : k < (uput l.length).length
    · have hd0 : bs.drop 0 = a % 256 :: (uput l.length).take k := by rw [List.drop_zero, hb0, List.take_append_of_le_length (by omega)]
      have hb := rbyte_at hd0
      have hd1 := drop_one hd0
      rw [kept_mod h3] at hb
      have hc := rcount_cut (limit := 256) hd1 hu (by omega)
      unfold rdec
      rw [hb]
      dsimp only
      rw [hc, if_neg (by simp), if_neg (by rw [h3]; simp), if_pos (by simp)]; rfl
    · rw [List.take_append, List.take_of_length_le (by omega)] at hb0
      obtain ⟨e, hd⟩ := dec_head hm hw hb0
      rw [e]
      obtain ⟨j, hj⟩ : ∃ j, k - (uput l.length).length = j := ⟨_, rfl⟩
      rw [hj] at hd
      by_cases hjl : j < (lbytes l).length
      · rw [List.take_append_of_le_length (by omega)] at hd
        obtain ⟨a', p', hp⟩ := rparts_cut l _ j [] h5 hw hd hjl
        rw [hp]
        unfold decEnd
        dsimp only
        rw [if_pos rfl]; rfl
      · rw [List.take_append, List.take_of_length_le (by omega)] at hd
        have hp := rparts_ok l _ [] h5 hw hd
        have hd2 : bs.drop (1 + (uput l.length).length + (lbytes l).length) = (uput (bys s).length ++ bys s).take (j - (lbytes l).length) := by rw [← List.drop_drop, hd, List.drop_left]
        have hbl : bs.length = k + 1 := by rw [← hbs, List.length_take]; omega
        have hs := rsized_cut (limit := 4096) hd2 (by omega) (by omega) (by rw [bys_length]; omega) (by rw [bys_length]; omega)
        rw [hp]
        unfold decEnd
        dsimp only
        rw [hs]
        dsimp only
        have hre : rend bs (1 + (uput l.length).length + (lbytes l).length) ((3 : Nat) : Int) = 3 := by
          unfold rend
          rw [if_neg (by rintro ⟨h, _⟩; cases h)]; rfl
        rw [hre, if_neg (by simp), if_pos (by decide)]; rfl
end
end Go.Proofs.Ytopfaafgfgjfaaa
