/- The law of the way back: a number's text is parsed to it. -/
import Derived.Test.YtijhlofmangpgaaFixTextsW
set_option linter.unusedVariables false
set_option linter.unusedSimpArgs false
namespace Go.Proofs.Ytijhlofmangpgaa
open Go.RowKit Go.Proofs.YtijhlofmangpgaaW.PrintWords
theorem dref_ch {d : Nat} (h : d < 16) : dref (ch d) = (d : Int) := by
  unfold ch dref
  by_cases h1 : d < 10
  · rw [if_pos h1, if_pos (by omega)]; omega
  · rw [if_neg h1, if_neg (by omega), if_pos (by omega)]; omega
theorem ch_range {d : Nat} (h : d < 16) : 48 ≤ ch d ∧ ch d ≤ 102 := by
  unfold ch; split <;> omega
theorem VAL_app (b : Nat) (l : List Int) (c : Int) : VAL b (l ++ [c]) = VAL b l * b + (dref c).toNat := by
  rw [VAL, List.foldl_append]; rfl
theorem TB_val (b : Nat) (hb0 : 2 ≤ b) (hb1 : b ≤ 16) : ∀ n : Nat, VAL b (TB b n).reverse = n := by
  intro n
  induction n using Nat.strongRecOn with
  | _ n ih =>
    by_cases h : n = 0
    · subst h; rw [TB_zero]; rfl
    · have hlt : n % b < b := Nat.mod_lt _ (by omega)
      rw [TB_pos h hb0, List.reverse_cons, VAL_app, ih (n / b) (Nat.div_lt_self (by omega) (by omega)), dref_ch (by omega), Int.toNat_natCast]
      exact Nat.div_add_mod' n b
theorem TB_all (b : Nat) (hb0 : 2 ≤ b) : ∀ n : Nat, ∀ c ∈ TB b n, ∃ d, d < b ∧ c = ch d := by
  intro n
  induction n using Nat.strongRecOn with
  | _ n ih =>
    by_cases h : n = 0
    · subst h; rw [TB_zero]; intro c hc; cases hc
    · rw [TB_pos h hb0]
      intro c hc
      rcases List.mem_cons.1 hc with rfl | hc
      · exact ⟨n % b, Nat.mod_lt _ (by omega), rfl⟩
      · exact ih (n / b) (Nat.div_lt_self (by omega) (by omega)) c hc
theorem TT_all (b n : Nat) (hb0 : 2 ≤ b) : ∀ c ∈ TT b n, ∃ d, d < b ∧ c = ch d := by
  unfold TT
  split
  · intro c hc
    rw [List.mem_singleton] at hc
    exact ⟨0, by omega, by rw [hc]; rfl⟩
  · exact TB_all b hb0 n
theorem TT_val (b n : Nat) (hb0 : 2 ≤ b) (hb1 : b ≤ 16) : VAL b (TT b n).reverse = n := by
  unfold TT
  split
  · rename_i h; subst h; show 0 * b + (dref 48).toNat = 0; rw [Nat.zero_mul]; rfl
  · exact TB_val b hb0 hb1 n
theorem TT_ne (b n : Nat) (hb0 : 2 ≤ b) : (TT b n).reverse ≠ [] := by
  unfold TT
  split
  · simp
  · rename_i h; rw [TB_pos h hb0]; simp
theorem bys_str (l : List Int) (h : Bytes l) : bys (strOfNums l) = l := by
  unfold bys
  rw [strOfNums_data, List.map_map]
  conv => rhs; rw [← List.map_id l]
  refine List.map_congr_left fun x hx => ?_
  have := h x hx
  simp
  omega
theorem pre_bys (s : ByteArray) (c : Int) {x : Int} {t : List Int} (h : bys s = x :: t) : pre s c = decide (x = c) := by
  have hz : 0 < s.size := by rw [← bys_length, h]; simp
  have hb := bys_getD s 0 hz
  rw [h] at hb
  rw [pre_bt s c hz, ← show x = bt s 0 from hb]
  by_cases k : x = c <;> simp [k]
theorem parseR_back (a : Int) (b : Nat) (hb0 : 2 ≤ b) (hb1 : b ≤ 16) (h0 : -9223372036854775808 ≤ a) (h1 : a ≤ 9223372036854775807) : parseR b (decide (a < 0)) (TT b a.natAbs).reverse = (a, 0) := by
  have hg : good b (TT b a.natAbs).reverse = true := by
    refine List.all_eq_true.2 fun c hc => ?_
    obtain ⟨d, hd, rfl⟩ := TT_all b a.natAbs hb0 c (List.mem_reverse.1 hc)
    have h16 : d < 16 := by omega
    unfold dgt
    rw [dref_ch h16, if_pos (by omega)]
    simp
  have hf : fitN (sgn (decide (a < 0)) (VAL b (TT b a.natAbs).reverse)) = (a, true) := by
    rw [TT_val b _ hb0 hb1, sgn_of]
    exact if_pos ⟨h0, h1⟩
  rw [parseR, if_neg (TT_ne b _ hb0), if_neg (by rw [hg]; simp), hf]
  rfl
theorem txt_bytes (a : Int) (b : Nat) (hb0 : 2 ≤ b) (hb1 : b ≤ 16) : Bytes (txt a b) := by
  intro c hc
  unfold txt at hc
  rcases List.mem_append.1 hc with hc | hc
  · split at hc
    · rw [List.mem_singleton] at hc; omega
    · cases hc
  · obtain ⟨d, hd, rfl⟩ := TT_all b a.natAbs hb0 c (List.mem_reverse.1 hc)
    have := ch_range (d := d) (by omega)
    omega
theorem parse_text (a : Int) (b : Nat) (hb0 : 2 ≤ b) (hb1 : b ≤ 16) (h0 : -9223372036854775808 ≤ a) (h1 : a ≤ 9223372036854775807) : parseOf b (strOfNums (txt a b)) = (a, 0) := by
  have hb := bys_str _ (txt_bytes a b hb0 hb1)
  generalize strOfNums (txt a b) = s at *
  have hR := parseR_back a b hb0 hb1 h0 h1
  have hT := tail_bys s
  rw [parseOf, hT, hb]
  by_cases ha : a < 0
  · have ht : txt a b = 45 :: (TT b a.natAbs).reverse := by unfold txt; rw [if_pos ha]; rfl
    rw [ht] at hb ⊢
    have h45 := pre_bys s 45 hb
    rw [decide_eq_true rfl] at h45
    have hs : signedB s = true := by unfold signedB; rw [h45]; rfl
    rw [hs, h45, if_pos rfl]
    rw [decide_eq_true ha] at hR
    exact hR
  · have ht : txt a b = (TT b a.natAbs).reverse := by unfold txt; rw [if_neg ha]; rfl
    rw [decide_eq_false ha] at hR
    rw [ht] at hb ⊢
    obtain ⟨x, t, hxt⟩ : ∃ x t, (TT b a.natAbs).reverse = x :: t := by
      cases hc : (TT b a.natAbs).reverse with
      | nil => exact absurd hc (TT_ne b _ hb0)
      | cons x t => exact ⟨x, t, rfl⟩
    obtain ⟨d, hd, hx⟩ := TT_all b a.natAbs hb0 x (List.mem_reverse.1 (by rw [hxt]; exact List.mem_cons_self))
    have hr := ch_range (d := d) (by omega)
    have hb' := hb.trans hxt
    have h45 := pre_bys s 45 hb'
    have h43 := pre_bys s 43 hb'
    rw [decide_eq_false (by omega)] at h45 h43
    have hs : signedB s = false := by unfold signedB; rw [h45, h43]; rfl
    rw [hs, h45, if_neg (by simp)]
    exact hR
theorem fit_y {x : Int} (h0 : -9223372036854775808 ≤ x) (h1 : x ≤ 9223372036854775807) : fitN x = (x, true) := if_pos ⟨h0, h1⟩
set_option maxRecDepth 100000 in
set_option maxHeartbeats 2000000 in
theorem back_walk (a b c : Int) (w : World) (ha : (Lit.int .i64 a).wf = true) (hb : (Lit.int .i64 b).wf = true) (hc : (Lit.int .i64 c).wf = true) :
    Calls Try.prog 9 #[.int .i64 a, .int .i64 b, .int .i64 c] w fun e w' => e = .returned (.bool true) ∧ Mod [] w w' := by
  obtain ⟨a0, a1⟩ := bounds_i64 ha
  obtain ⟨b0, b1⟩ := bounds_i64 hb
  have hcb := bounds_i64 hc
  clear ha hb hc
  -- the way there and back
  have hT : ∃ s : ByteArray, (∀ w, Calls Try.prog 30 #[.int .i64 a, .int .i64 c] w fun e w' => e = .returned (.string s) ∧ Mod [] w w') ∧ ∃ v1 v2 : Int, (∀ w, Calls Try.prog 28 #[.string s, .int .i64 c] w fun e w' => e = .returned (.tuple #[.int .i64 v1, .int .i64 v2]) ∧ Mod [] w w') ∧ ((¬ c < 2 ∧ 2 ≤ c ∧ c ≤ 16 ∧ v1 = a ∧ v2 = 0) ∨ c < 2 ∨ (2 ≤ c ∧ 16 < c)) := by
    by_cases hB : 2 ≤ c ∧ c ≤ 16
    · obtain ⟨C, rfl⟩ := Int.eq_ofNat_of_zero_le (by omega : 0 ≤ c)
      have hb0 : 2 ≤ C := by omega
      have hb1 : C ≤ 16 := by omega
      refine ⟨_, fun w => text_any a C w a0 a1 hb0 hb1, a, 0, fun w => ?_, .inl ⟨by omega, by omega, by omega, rfl, rfl⟩⟩
      have hz : (strOfNums (txt a C)).size ≤ 1000 := by
        rw [str_size]
        unfold txt
        rw [List.length_append, List.length_reverse]
        have := TT_len C a.natAbs hb0 (by omega)
        split <;> simp <;> omega
      have h := parse_any (strOfNums (txt a C)) C w hz hb0 hb1
      rw [parse_text a C hb0 hb1 a0 a1] at h
      exact h
    · refine ⟨⟨#[]⟩, fun w => (text_not a c w hB).mono ?_, 0, 1, fun w => (parse_not _ c w hB).mono ?_, by omega⟩
      · rintro e w1 ⟨rfl, rfl⟩; exact ⟨rfl, Mod.refl _ _⟩
      · rintro e w1 ⟨rfl, rfl⟩; exact ⟨rfl, Mod.refl _ _⟩
  obtain ⟨s, ht, v1, v2, hp, hcase⟩ := hT
  have hS : ∃ (x y : Int) (ok ok2 : Bool), (∀ w, Calls Try.prog 19 #[.int .i64 a, .int .i64 b] w (FitPost w (x, ok))) ∧ (∀ w, Calls Try.prog 20 #[.int .i64 x, .int .i64 b] w (FitPost w (y, ok2))) ∧ ((ok = true ∧ ok2 = true ∧ y = a) ∨ ok = false) := by
    by_cases hf : -9223372036854775808 ≤ a + b ∧ a + b ≤ 9223372036854775807
    · refine ⟨a + b, a, true, true, fun w => ?_, fun w => ?_, .inl ⟨rfl, rfl, rfl⟩⟩
      · have := add_any a b w ⟨a0, a1⟩ ⟨b0, b1⟩
        rwa [fit_y hf.1 hf.2] at this
      · have := sub_any (a + b) b w hf ⟨b0, b1⟩
        rwa [show a + b - b = a by omega, fit_y a0 a1] at this
    · refine ⟨0, (fitN (0 - b)).1, false, (fitN (0 - b)).2, fun w => ?_, fun w => sub_any 0 b w (by omega) ⟨b0, b1⟩, .inr rfl⟩
      have := add_any a b w ⟨a0, a1⟩ ⟨b0, b1⟩
      rwa [show fitN (a + b) = (0, false) from if_neg hf] at this
  obtain ⟨x, y, ok, ok2, hadd, hsub, hok⟩ := hS
  have hN : ∃ (n m : Int) (f g : Bool), (∀ w, Calls Try.prog 21 #[.int .i64 a] w (FitPost w (n, f))) ∧ (∀ w, Calls Try.prog 21 #[.int .i64 n] w (FitPost w (m, g))) ∧ ((f = false ∧ (a != -9223372036854775808) = false) ∨ (f = true ∧ g = true ∧ m = a ∧ (a != -9223372036854775808) = true)) := by
    by_cases hm : a = -9223372036854775808
    · subst hm
      exact ⟨0, 0, false, true, fun w => neg_any _ w (by omega), fun w => neg_any _ w (by omega), .inl ⟨rfl, rfl⟩⟩
    · refine ⟨-a, a, true, true, fun w => ?_, fun w => ?_, .inr ⟨rfl, rfl, rfl, by simp [hm]⟩⟩
      · have := neg_any a w ⟨a0, a1⟩
        rwa [fit_y (by omega) (by omega)] at this
      · have := neg_any (-a) w (by omega)
        rwa [show - -a = a by omega, fit_y a0 a1] at this
  obtain ⟨n, m, f, g, hn1, hn2, hfg⟩ := hN
  have HCB := Lib.hid hcb
  clear hcb a0 a1 b0 b1
  obtain ⟨c1, c2, c3, rfl, rfl⟩ | c1 | ⟨c1, c2⟩ := hcase
  all_goals
    obtain ⟨rfl, rfl, rfl⟩ | rfl := hok
    all_goals
      obtain ⟨rfl, ha⟩ | ⟨rfl, rfl, rfl, ha⟩ := hfg
      all_goals
        go_enter Try.func9, Try.ntmps9
        go_wp2_with fail
        refine (ht _).mono ?_
        rintro e w1 ⟨rfl, hm1⟩
        go_wp2_with fail
        refine (hp _).mono ?_
        rintro e w2 ⟨rfl, hm2⟩
        have hm3 := hm1.trans0 hm2
        clear hm1 hm2
        go_wp2_with fail
        refine (hadd _).mono ?_
        rintro e w1 ⟨rfl, rfl⟩
        go_wp2_with fail
        refine (hsub _).mono ?_
        rintro e w1 ⟨rfl, rfl⟩
        go_wp2_with fail
        refine (hn1 _).mono ?_
        rintro e w1 ⟨rfl, rfl⟩
        go_wp2_with fail
        refine (hn2 _).mono ?_
        rintro e w1 ⟨rfl, rfl⟩
        go_wp2_with fail
        refine (lives_any _).mono ?_
        rintro e w5 ⟨rfl, hm6⟩
        go_wp2
        go_ret
        exact ⟨rfl, hm3.trans0 hm6⟩
end Go.Proofs.Ytijhlofmangpgaa
