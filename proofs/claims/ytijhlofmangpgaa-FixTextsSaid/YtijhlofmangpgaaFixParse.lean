/- The number of a text: what Parse gives. -/
import Derived.Test.YtijhlofmangpgaaFixDg
set_option linter.unusedVariables false
set_option linter.unusedSimpArgs false
namespace Go.Proofs.Ytijhlofmangpgaa
open Go.RowKit Go.Proofs.YtijhlofmangpgaaW.PrintWords
/-- The number that digits are, to a base. -/
def VAL (b : Nat) (cs : List Int) : Nat := cs.foldl (fun n c => n * b + (dref c).toNat) 0
/-- Are all of them digits to the base? -/
def good (b : Nat) (cs : List Int) : Bool := cs.all fun c => decide (0 ≤ dgt b c)
def parseR (b : Nat) (below : Bool) (cs : List Int) : Int × Int :=
  if cs = [] then (0, 4) else if good b cs = false then (0, 4) else if (fitN (sgn below (VAL b cs))).2 = true then ((fitN (sgn below (VAL b cs))).1, 0) else (0, 7)
def signedB (s : ByteArray) : Bool := pre s 45 || pre s 43
def tailB (s : ByteArray) : ByteArray := if signedB s then s.extract 1 s.size else s
def parseOf (b : Nat) (s : ByteArray) : Int × Int := parseR b (pre s 45) (bys (tailB s))
theorem take_snoc {α : Type} (d : α) (l : List α) (i : Nat) (h : i < l.length) : l.take (i + 1) = l.take i ++ [l.getD i d] := by
  rw [List.take_add_one, List.getD_eq_getElem?_getD, List.getElem?_eq_getElem h]; rfl
theorem VAL_snoc (b : Nat) (cs : List Int) (i : Nat) (h : i < cs.length) : VAL b (cs.take (i + 1)) = VAL b (cs.take i) * b + (dref (cs.getD i 0)).toNat := by
  rw [take_snoc 0 cs i h, VAL, List.foldl_append]; rfl
theorem good_snoc (b : Nat) (cs : List Int) (i : Nat) (h : i < cs.length) : good b (cs.take (i + 1)) = (good b (cs.take i) && decide (0 ≤ dgt b (cs.getD i 0))) := by
  rw [take_snoc 0 cs i h, good, List.all_append]; simp [good]
theorem good_bad (b : Nat) (cs : List Int) (i : Nat) (h : i < cs.length) (hb : ¬ 0 ≤ dgt b (cs.getD i 0)) : good b cs = false := by
  rw [good, List.all_eq_false]
  refine ⟨cs.getD i 0, ?_, by simpa using hb⟩
  rw [List.getD_eq_getElem?_getD, List.getElem?_eq_getElem h]
  exact List.getElem_mem h
theorem bys_byte (s : ByteArray) (i : Nat) : 0 ≤ (bys s).getD i 0 ∧ (bys s).getD i 0 ≤ 255 := by
  refine Bytes.at_ (fun x hx => ?_) i
  obtain ⟨c, _, rfl⟩ := List.mem_map.1 hx
  have := c.toNat_lt
  omega
theorem dgt_dref {b : Nat} {c : Int} (h : 0 ≤ dgt b c) : dgt b c = dref c ∧ 0 ≤ dref c ∧ dref c < b := by
  unfold dgt at *
  by_cases k : 0 ≤ dref c ∧ dref c < (b : Int)
  · rw [if_pos k]; exact ⟨rfl, k⟩
  · rw [if_neg k] at h; omega
theorem step_num (V b d : Nat) : ((V % 18446744073709551616) * b % 18446744073709551616 + d) % 18446744073709551616 = (V * b + d) % 18446744073709551616 := by
  rw [Nat.add_mod, Nat.mod_mod, ← Nat.add_mod, Nat.add_mod (V % 18446744073709551616 * b), Nat.mod_mul_mod, ← Nat.add_mod]
theorem step_wide (V b d : Nat) (hb : 1 ≤ b) : decide (18446744073709551616 ≤ V * b + d) = (decide (18446744073709551616 ≤ V) || (!decide ((V % 18446744073709551616) * b / 18446744073709551616 = 0) || !decide (((V % 18446744073709551616) * b % 18446744073709551616 + d) / 18446744073709551616 = 0))) := by
  by_cases h : 18446744073709551616 ≤ V
  · have : V * 1 ≤ V * b := Nat.mul_le_mul_left V hb
    rw [decide_eq_true h, decide_eq_true (by omega)]; rfl
  · rw [decide_eq_false h, Nat.mod_eq_of_lt (by omega : V < 18446744073709551616)]
    generalize V * b = P
    rw [Bool.false_or]
    by_cases h2 : 18446744073709551616 ≤ P + d
    · rw [decide_eq_true h2]
      by_cases h3 : P / 18446744073709551616 = 0
      · have h4 : ¬ (P % 18446744073709551616 + d) / 18446744073709551616 = 0 := by omega
        simp [h4]
      · simp [h3]
    · have h3 : P / 18446744073709551616 = 0 := by omega
      have h4 : (P % 18446744073709551616 + d) / 18446744073709551616 = 0 := by omega
      simp [h2, h3, h4]
theorem parse_not (s : ByteArray) (b : Int) (w : World) (hb : ¬ (2 ≤ b ∧ b ≤ 16)) :
    Calls Try.prog 28 #[.string s, .int .i64 b] w fun e w' => e = .returned (.tuple #[.int .i64 0, .int .i64 1]) ∧ w = w' := by
  have hB := based_any b w
  rw [decide_eq_false hb] at hB
  go_enter Try.func28, Try.ntmps28
  go_wp2_with fail
  refine hB.mono ?_
  rintro e w1 ⟨rfl, rfl⟩
  go_wp2
  go_ret2
  exact ⟨rfl, rfl⟩
set_option maxRecDepth 100000 in
set_option maxHeartbeats 2000000 in
theorem parse_any (s : ByteArray) (b : Nat) (w : World) (hs : s.size ≤ 1000) (hb0 : 2 ≤ b) (hb1 : b ≤ 16) :
    Calls Try.prog 28 #[.string s, .int .i64 (b : Int)] w fun e w' => e = .returned (.tuple #[.int .i64 (parseOf b s).1, .int .i64 (parseOf b s).2]) ∧ Mod [] w w' := by
  have hB := based_any (b : Int) w
  rw [show decide (2 ≤ (b : Int) ∧ (b : Int) ≤ 16) = true by simp; omega] at hB
  have h45 := prefix_any s 45 w (by omega)
  have h43 := prefix_any s 43 w (by omega)
  rw [show (((45 : UInt8).toNat : Nat) : Int) = 45 from rfl] at h45
  rw [show (((43 : UInt8).toNat : Nat) : Int) = 43 from rfl] at h43
  have hsz : signedB s = true → (1 : Int) ≤ (s.size : Int) := by
    intro h
    simp [signedB, pre] at h
    omega
  obtain ⟨s1, hs1⟩ : ∃ s1, tailB s = s1 := ⟨_, rfl⟩
  have hz1 : s1.size ≤ 1000 := by
    rw [← hs1, tailB]
    split
    · rw [ByteArray.size_extract]; omega
    · exact hs
  have HPR : parseOf b s = parseR b (pre s 45) (bys s1) := by rw [parseOf, hs1]
  rw [HPR]
  have hs1' : (if signedB s then s.extract 1 s.size else s) = s1 := hs1
  have hsg : (pre s 45 || pre s 43) = signedB s := rfl
  generalize pre s 45 = p at *
  generalize pre s 43 = q at *
  generalize signedB s = r at *
  clear HPR hs1
  have qb : IntKind.u64.wrap (b : Int) = (b : Int) := by rw [IntKind.wrap_u64]; omega
  go_enter Try.func28, Try.ntmps28
  go_wp2_with fail
  refine hB.mono ?_
  rintro e w1 ⟨rfl, rfl⟩
  clear hB
  go_wp2_with fail
  refine h45.mono ?_
  rintro e w1 ⟨rfl, rfl⟩
  clear h45
  go_upto_region 4 with fail
  go_cut [28] (fun t wx => t = .bool r ∧ wx = w)
  case first =>
    cases p
    · simp only [Bool.false_or] at hsg
      go_wp2_with fail
      refine h43.mono ?_
      rintro e w1 ⟨rfl, rfl⟩
      go_wp2
      go_meet
      exact ⟨rfl, rfl⟩
    · simp only [Bool.true_or] at hsg
      go_wp2
      go_meet
      exact ⟨rfl, rfl⟩
  case rest =>
    obtain ⟨rfl, rfl⟩ := hcut
    clear h43 hsg
    go_upto_if 28 with fail
    go_cut [0] (fun t wx => t = .string s1 ∧ wx = wc)
    case first =>
      cases r
      · have e1 : s = s1 := hs1'
        subst e1
        go_wp2
        go_meet
        exact ⟨rfl, rfl⟩
      · have e1 : s.extract 1 s.size = s1 := hs1'
        have e2 := hsz rfl
        go_wp2
        go_meet
        exact ⟨rfl, rfl⟩
    case rest =>
      obtain ⟨rfl, rfl⟩ := hcut
      clear hs1' hsz
      have hnum := fun (n : Nat) (w : World) (hn : n < 18446744073709551616) => signed_any n p w hn
      obtain ⟨w1, c1, hcv, hm1, hc1, hr1, hz⟩ := conv_str (P := Try.prog) wc 9 54 5 s1 Try.underlying9 Try.underlying54 Try.underlying5 (by omega)
      have hlen : (bys s1).length = s1.size := bys_length s1
      have hby := bys_byte s1
      have hemp : s1.size = 0 → (s1.toList == ([] : List UInt8)) = true := fun h => by rw [nil_of s1 h]; rfl
      have hnem : s1.size ≠ 0 → (s1.toList == ([] : List UInt8)) = false := fun h => by
        have := isEmpty_of s1 h
        cases hx : s1.toList with
        | nil => rw [hx] at this; exact absurd this (by simp)
        | cons x t => rfl
      have HM1 := Lib.hid hm1
      clear hz hm1
      generalize wc.heap.size = g at *
      generalize hxs : bys s1 = xs at *
      generalize hN : s1.size = N at *
      have HX := Lib.hid hxs
      clear hxs
      go_upto_region 6 with fail
      go_wp2_with fail
      go_loopw [7, 8, 34] (fun n wd i wr => ∃ k : Nat, i = .int .i64 (k : Int) ∧ k ≤ N ∧ n = .int .u64 ((VAL b (xs.take k) % 18446744073709551616 : Nat) : Int) ∧ wd = .bool (decide (18446744073709551616 ≤ VAL b (xs.take k))) ∧ good b (xs.take k) = true ∧ wr = w1) (fun _ _ i _ => N - (intOf i).toNat)
      case atStart => exact ⟨0, rfl, by omega, rfl, rfl, rfl, rfl⟩
      case round =>
        obtain ⟨k, rfl, hk, rfl, rfl, hgood, rfl⟩ := hrel
        have HG := Lib.hid hgood
        clear hgood
        by_cases hlt : k < N
        · have hlt2 : (k : Int) < (N : Int) := by omega
          obtain ⟨ad, had, hc⟩ := hr1.at_ k (by omega) (by omega)
          obtain rfl := Option.some.inj had
          clear had
          rw [add_plain] at hc
          rw [Int.toNat_natCast] at hc
          have e : rd xs (k : Int) = xs.getD k 0 := rfl
          rw [e] at hc
          have hV := Lib.hid (VAL_snoc b xs k (by omega))
          have hGs := Lib.hid (good_snoc b xs k (by omega))
          have hGb := Lib.hid (good_bad b xs k (by omega))
          have hcb := hby k
          generalize xs.getD k 0 = c at *
          have hD := digit_any c b wr hcb.1 hcb.2 (by omega)
          by_cases hd : 0 ≤ dgt b c
          · obtain ⟨d1, d2, d3⟩ := dgt_dref hd
            obtain ⟨d, hdd⟩ := Int.eq_ofNat_of_zero_le d2
            have hmx : max (dgt b c) 0 = (d : Int) := by omega
            have hdb : d < 16 := by omega
            rw [hmx, decide_eq_true hd] at hD
            have hV1 : VAL b (xs.take (k + 1)) = VAL b (xs.take k) * b + d := by rw [hV.out, hdd]; rfl
            have hR : decide (18446744073709551616 ≤ VAL b (xs.take (k + 1))) = (decide (18446744073709551616 ≤ VAL b (xs.take k)) || (!decide ((VAL b (xs.take k) % 18446744073709551616) * b / 18446744073709551616 = 0) || !decide (((VAL b (xs.take k) % 18446744073709551616) * b % 18446744073709551616 + d) / 18446744073709551616 = 0))) := by rw [hV1]; exact step_wide _ _ _ (by omega)
            have hS : VAL b (xs.take (k + 1)) % 18446744073709551616 = ((VAL b (xs.take k) % 18446744073709551616) * b % 18446744073709551616 + d) % 18446744073709551616 := by rw [hV1]; exact (step_num _ _ _).symm
            have hnb : VAL b (xs.take k) % 18446744073709551616 < 18446744073709551616 := Nat.mod_lt _ (by omega)
            have hM := bmul_any _ b wr hnb (by omega)
            have hLb : (VAL b (xs.take k) % 18446744073709551616) * b % 18446744073709551616 < 18446744073709551616 := Nat.mod_lt _ (by omega)
            have hA := adds_any _ d wr hLb (by omega)
            have HG1 := Lib.hid (show good b (xs.take (k + 1)) = true by rw [hGs.out, HG.out, decide_eq_true hd]; rfl)
            clear hV1 hmx hdd hV hGs hGb HG d1 d2 d3 hd
            generalize VAL b (xs.take k) % 18446744073709551616 * b / 18446744073709551616 = H at *
            generalize VAL b (xs.take k) % 18446744073709551616 * b % 18446744073709551616 = L at *
            generalize (L + d) % 18446744073709551616 = S at *
            generalize (L + d) / 18446744073709551616 = C at *
            generalize VAL b (xs.take k) % 18446744073709551616 = n at *
            generalize decide (18446744073709551616 ≤ VAL b (xs.take k)) = wd at *
            have HS := Lib.hid hS
            clear hS
            go_upto_region 9 with fail
            go_wp2_with fail
            refine hD.mono ?_
            rintro e w2 ⟨rfl, rfl⟩
            clear hD hc
            go_wp2_with fail
            refine hM.mono ?_
            rintro e w2 ⟨rfl, rfl⟩
            clear hM
            go_wp2_with fail
            refine hA.mono ?_
            rintro e w2 ⟨rfl, rfl⟩
            clear hA
            cases wd with
            | true =>
              have HR := Lib.hid (show decide (18446744073709551616 ≤ VAL b (xs.take (k + 1))) = true by rw [hR]; simp [*])
              clear hR
              go_wp2
              go_roundw
              case rel => exact ⟨k + 1, by go_num, by omega, by rw [HS.out], by rw [HR.out] <;> simp <;> omega, HG1.out, trivial⟩
              case measure => simp [intOf]; omega
            | false =>
              by_cases hH : H = 0
              · by_cases hC : C = 0
                · have tH : ((H : Int) == 0) = true := by simp [hH]
                  have tC : ((C : Int) == 0) = true := by simp [hC]
                  have HR := Lib.hid (show decide (18446744073709551616 ≤ VAL b (xs.take (k + 1))) = false by rw [hR]; simp [*])
                  clear hR
                  go_wp2
                  go_roundw
                  case rel => exact ⟨k + 1, by go_num, by omega, by rw [HS.out], by rw [HR.out] <;> simp <;> omega, HG1.out, trivial⟩
                  case measure => simp [intOf]; omega
                · have tH : ((H : Int) == 0) = true := by simp [hH]
                  have tC : ((C : Int) == 0) = false := by simp; omega
                  have HR := Lib.hid (show decide (18446744073709551616 ≤ VAL b (xs.take (k + 1))) = true by rw [hR]; simp [*])
                  clear hR
                  go_wp2
                  go_roundw
                  case rel => exact ⟨k + 1, by go_num, by omega, by rw [HS.out], by rw [HR.out] <;> simp <;> omega, HG1.out, trivial⟩
                  case measure => simp [intOf]; omega
              · have tH : ((H : Int) == 0) = false := by simp; omega
                have HR := Lib.hid (show decide (18446744073709551616 ≤ VAL b (xs.take (k + 1))) = true by rw [hR]; simp [*])
                clear hR
                go_wp2
                go_roundw
                case rel => exact ⟨k + 1, by go_num, by omega, by rw [HS.out], by rw [HR.out] <;> simp <;> omega, HG1.out, trivial⟩
                case measure => simp [intOf]; omega
          · have hb1 := hGb.out hd
            rw [decide_eq_false hd] at hD
            have hne : xs ≠ [] := fun h => by rw [h] at hlen; simp at hlen; omega
            have HPR := Lib.hid (show parseR b p xs = (0, 4) by rw [parseR, if_neg hne, if_pos hb1])
            clear hV hGs hGb HG hb1 hne
            go_upto_region 9 with fail
            go_wp2_with fail
            refine hD.mono ?_
            rintro e w2 ⟨rfl, rfl⟩
            clear hD hc
            go_wp2
            go_ret2
            rw [HX.out, HPR.out]
            exact ⟨rfl, HM1.out⟩
        · obtain rfl : k = N := by omega
          have hlt2 : ¬ (k : Int) < (k : Int) := by omega
          have hfull : xs.take k = xs := List.take_of_length_le (by omega)
          rw [hfull] at HG ⊢
          by_cases h0 : k = 0
          · have he := hemp h0
            have HPR := Lib.hid (show parseR b p xs = (0, 4) by rw [parseR, if_pos (List.eq_nil_of_length_eq_zero (by omega))])
            clear hfull
            go_wp2
            go_ret2
            rw [HX.out, HPR.out]
            exact ⟨rfl, HM1.out⟩
          · have he := hnem h0
            have hne : xs ≠ [] := fun h => by rw [h] at hlen; simp at hlen; omega
            have HPR := Lib.hid (show parseR b p xs = if (fitN (sgn p (VAL b xs))).2 = true then ((fitN (sgn p (VAL b xs))).1, 0) else (0, 7) by rw [parseR, if_neg hne, if_neg (by rw [HG.out]; simp)])
            clear hfull hne
            generalize VAL b xs = V at *
            by_cases hw : 18446744073709551616 ≤ V
            · have hnf : fitN (sgn p V) = (0, false) := if_neg (by cases p <;> simp [sgn] <;> omega)
              rw [hnf] at HPR
              have hmod := Nat.mod_lt V (show 0 < 18446744073709551616 by omega)
              rw [decide_eq_true hw]
              have hnum := signed_any (V % 18446744073709551616) p wr hmod
              clear hnf hw
              generalize V % 18446744073709551616 = n at *
              generalize fitN (sgn p n) = z at *
              obtain ⟨z1, z2⟩ := z
              go_wp2_with fail
              refine hnum.mono ?_
              rintro e w2 ⟨rfl, rfl⟩
              go_wp2
              go_ret2
              rw [HX.out, HPR.out]
              exact ⟨rfl, HM1.out⟩
            · rw [decide_eq_false hw, Nat.mod_eq_of_lt (by omega)]
              have hnum := signed_any V p wr (by omega)
              generalize fitN (sgn p V) = z at *
              obtain ⟨z1, z2⟩ := z
              cases z2
              · go_wp2_with fail
                refine hnum.mono ?_
                rintro e w2 ⟨rfl, rfl⟩
                go_wp2
                go_ret2
                rw [HX.out, HPR.out]
                exact ⟨rfl, HM1.out⟩
              · go_wp2_with fail
                refine hnum.mono ?_
                rintro e w2 ⟨rfl, rfl⟩
                go_wp2
                go_ret2
                rw [HX.out, HPR.out]
                exact ⟨rfl, HM1.out⟩
end Go.Proofs.Ytijhlofmangpgaa
