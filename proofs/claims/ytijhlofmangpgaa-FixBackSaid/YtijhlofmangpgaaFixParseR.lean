/- The number of a text, the document's: what its Parse gives. -/
import Derived.Test.YtijhlofmangpgaaFixTextR
import Derived.Test.YtijhlofmangpgaaWLast
set_option linter.unusedVariables false
set_option linter.unusedSimpArgs false
namespace Go.Proofs.Ytijhlofmangpgaa
open Go.RowKit Go.Proofs.YtijhlofmangpgaaW.PrintWords Go.Proofs.YtijhlofmangpgaaW.PrintLast Go.Proofs.Ytijhlofmangpgaa.Dig
theorem rparse_not (s : ByteArray) (b : Int) (w : World) (hb : ¬ (2 ≤ b ∧ b ≤ 16)) :
    Calls Try.prog 29 #[.string s, .int .i64 b] w fun e w' => e = .returned (.tuple #[.int .i64 0, .int .i64 1]) ∧ w = w' := by
  by_cases h1 : b < 2
  · go_enter Try.func29, Try.ntmps29
    go_wp2
    go_ret2
    exact ⟨rfl, rfl⟩
  · have h2 : 16 < b := by omega
    go_enter Try.func29, Try.ntmps29
    go_wp2
    go_ret2
    exact ⟨rfl, rfl⟩
theorem tail_bys (s : ByteArray) : bys (tailB s) = (bys s).drop (if signedB s then 1 else 0) := by
  unfold tailB
  cases signedB s
  · rfl
  · show bys (s.extract 1 s.size) = (bys s).drop 1
    unfold bys
    rw [data_ext, List.take_of_length_le (by rw [size_data]; exact Nat.le_refl _), List.map_drop]
theorem box1_set {w : World} {b : Nat} {t : TypeId} {u0 u1 : Value} (v1 : Value) (h : w.heap[b]? = some (.cells #[u0, u1] t (0, 0))) :
    (w.setCell ⟨b, 1, none⟩ v1).heap[b]? = some (.cells #[u0, v1] t (0, 0)) := by
  obtain ⟨hlt, hk⟩ := Array.getElem?_eq_some_iff.1 h
  show (w.heap.modify b _)[b]? = _
  rw [Array.getElem?_eq_getElem (by rw [Array.size_modify]; exact hlt), Array.getElem_modify_self, hk]
  rfl
theorem box0_set {w : World} {b : Nat} {t : TypeId} {u0 u1 : Value} (v0 : Value) (h : w.heap[b]? = some (.cells #[u0, u1] t (0, 0))) :
    (w.setCell ⟨b, 0, none⟩ v0).heap[b]? = some (.cells #[v0, u1] t (0, 0)) := by
  obtain ⟨hlt, hk⟩ := Array.getElem?_eq_some_iff.1 h
  show (w.heap.modify b _)[b]? = _
  rw [Array.getElem?_eq_getElem (by rw [Array.size_modify]; exact hlt), Array.getElem_modify_self, hk]
  rfl
theorem hof (s : Nat) (w : World) (h : s ≤ 1000) : Calls Try.prog 14 #[.int .i64 (s : Int)] w (NumPost w false s) := by
  have := of_any (s : Int) w (by omega) (by omega)
  rwa [decide_eq_false (by omega), Int.natAbs_natCast] at this
theorem hl16 (d : Nat) (h : d ≤ 16) : (D d).length ≤ 2 := D_len_lt (by omega)
theorem VAL_mono (b : Nat) (cs : List Int) (k : Nat) (hb : 1 ≤ b) : VAL b (cs.take k) ≤ VAL b cs := by
  have key : ∀ (l : List Int) (n : Nat), n ≤ l.foldl (fun n c => n * b + (dref c).toNat) n := by
    intro l
    induction l with
    | nil => intro n; exact Nat.le_refl _
    | cons c l ih =>
      intro n
      refine Nat.le_trans ?_ (ih (n * b + (dref c).toNat))
      have : n * 1 ≤ n * b := Nat.mul_le_mul_left n hb
      omega
  have h : VAL b cs = (cs.drop k).foldl (fun n c => n * b + (dref c).toNat) (VAL b (cs.take k)) := by
    rw [VAL, VAL, ← List.foldl_append, List.take_append_drop]
  rw [h]
  exact key _ _
theorem good_at {b : Nat} {cs : List Int} (h : good b cs = true) (i : Nat) (hi : i < cs.length) : 0 ≤ dgt b (cs.getD i 0) := by
  rw [List.getD_eq_getElem?_getD, List.getElem?_eq_getElem hi]
  exact of_decide_eq_true (List.all_eq_true.1 h _ (List.getElem_mem hi))
theorem dig_apart {w : World} {b : Nat} {t : TypeId} {x : Bool} {A0 : Option Addr} {n0 c0 : Nat} {A : Option Addr} {n : Nat} {xs : List Int} (hb : w.heap[b]? = some (.cells #[.bool x, .slice A0 n0 c0] t (0, 0))) (hr : ReadsInt w .i64 A n xs) : ∀ a, A = some a → 0 < n → a.block ≠ b := fun a e hn => by
  obtain ⟨ad, e', h⟩ := hr.2.2 hn
  rw [e] at e'
  cases e'
  have h0 := h 0 hn
  intro he
  have hb' : w.heap[(a.add 0).block]? = some (.cells #[.bool x, .slice A0 n0 c0] t (0, 0)) := by rw [add_block, he]; exact hb
  unfold World.cell? at h0
  rw [hb'] at h0
  revert h0
  dsimp only
  split
  · simp
  · rcases (a.add 0).off with _ | _ | o <;> simp
theorem pre_bt (s : ByteArray) (c : Int) (h : 0 < s.size) : pre s c = (bt s 0 == c) := by
  unfold pre
  by_cases k : bt s 0 = c <;> simp [h, k]
set_option maxRecDepth 100000 in
set_option maxHeartbeats 2000000 in
theorem rparse_any (s : ByteArray) (b : Nat) (w : World) (hs : s.size ≤ 1000) (hb0 : 2 ≤ b) (hb1 : b ≤ 16) :
    Calls Try.prog 29 #[.string s, .int .i64 (b : Int)] w fun e w' => e = .returned (.tuple #[.int .i64 (parseOf b s).1, .int .i64 (parseOf b s).2]) ∧ Mod [] w w' := by
  have hB1 : ¬ (b : Int) < 2 := by omega
  have hB2 : ¬ (16 : Int) < (b : Int) := by omega
  have bx0 := blk_new w (.cells #[.bool false, .slice none 0 0] 27)
  have hm0 := (Mod.refl [] w).alloc (.cells #[.bool false, .slice none 0 0] 27)
  go_enter Try.func29, Try.ntmps29
  go_upto_region 5 with fail
  generalize w.alloc _ = w1 at *
  have hb6 : w.heap.size ≤ w.heap.size := Nat.le_refl _
  obtain ⟨b6, hb6e⟩ : ∃ g, w.heap.size = g := ⟨_, rfl⟩
  rw [hb6e] at bx0 ⊢
  have HB6 := Lib.hid hb6e
  clear hb6e hb6
  have hpp := fun h => pre_bt s 45 h
  have hpq := fun h => pre_bt s 43 h
  have hsg : signedB s = (pre s 45 || pre s 43) := rfl
  have hpe : s.size = 0 → pre s 45 = false ∧ pre s 43 = false := fun h => by simp [pre, h]
  obtain ⟨p, hp⟩ : ∃ p, pre s 45 = p := ⟨_, rfl⟩
  obtain ⟨r, hr⟩ : ∃ r, signedB s = r := ⟨_, rfl⟩
  have HP := Lib.hid hp
  have HRR := Lib.hid hr
  have hemp : s.size = 0 → s.toList.isEmpty = true := fun h => by rw [nil_of s h]; rfl
  have hnem : s.size ≠ 0 → s.toList.isEmpty = false := fun h => isEmpty_of s h
  rw [hr] at hsg
  rw [hp] at hsg hpp hpe
  clear hp hr
  go_cut [31] (fun t wx => t = .bool r ∧ wx = w1)
  case first =>
    by_cases h0 : s.size = 0
    · obtain ⟨hp0, hq0⟩ := hpe h0
      have he := hemp h0
      subst hp0
      rw [hq0] at hsg
      subst hsg
      clear hpp hpq hnem hemp hpe
      go_wp2
      go_meet
      exact ⟨rfl, rfl⟩
    · have he := hnem h0
      have hz : (0 : Int) < (s.size : Int) := by omega
      have hp1 := hpp (by omega)
      have hq1 := hpq (by omega)
      rw [hq1] at hsg
      have hz0 : 0 < s.size := by omega
      have hbt : bt s 0 = (((s[0]'hz0).toNat : Nat) : Int) := by unfold bt; rw [dif_pos (by exact hz0)]; rfl
      rw [hbt] at hp1 hsg
      clear hpp hpq hnem hemp hpe h0 hq1 hbt
      by_cases c1 : (((s[0]'hz0).toNat : Nat) : Int) = 45
      · have t1 : ((((s[0]'hz0).toNat : Nat) : Int) == 45) = true := by simp [c1]
        rw [t1] at hp1
        subst hp1
        subst hsg
        go_wp2
        go_meet
        exact ⟨rfl, rfl⟩
      · have t1 : ((((s[0]'hz0).toNat : Nat) : Int) == 45) = false := by simp [c1]
        rw [t1] at hp1
        subst hp1
        by_cases c2 : (((s[0]'hz0).toNat : Nat) : Int) = 43
        · have t2 : ((((s[0]'hz0).toNat : Nat) : Int) == 43) = true := by simp [c2]
          rw [t2] at hsg
          subst hsg
          go_wp2
          go_meet
          exact ⟨rfl, rfl⟩
        · have t2 : ((((s[0]'hz0).toNat : Nat) : Int) == 43) = false := by simp [c2]
          rw [t2] at hsg
          subst hsg
          go_wp2
          go_meet
          exact ⟨rfl, rfl⟩
  case rest =>
    obtain ⟨rfl, rfl⟩ := hcut
    have hrz : r = true → 0 < s.size := fun h => by
      by_cases h0 : s.size = 0
      · obtain ⟨hp0, hq0⟩ := hpe h0
        rw [hp0, hq0, h] at hsg
        exact absurd hsg (by simp)
      · omega
    clear hpq hnem hemp hpe
    go_upto_if 31 with fail
    go_cut [7] (fun t wx => t = .int .i64 (((if r then 1 else 0 : Nat) : Nat) : Int) ∧ wx.heap[b6]? = some (.cells #[.bool p, .slice none 0 0] 27 (0, 0)) ∧ Mod [] w wx)
    case first =>
      cases r
      · have hp0 : p = false := by revert hsg; cases p <;> simp
        subst hp0
        clear hsg hpp hrz
        go_wp2
        go_meet
        exact ⟨rfl, bx0, hm0⟩
      · have h0 := hrz rfl
        have hz : (0 : Int) < (s.size : Int) := by omega
        have hp1 := hpp h0
        have hbt : bt s 0 = (((s[0]'h0).toNat : Nat) : Int) := by unfold bt; rw [dif_pos (by exact h0)]; rfl
        have z0 := (blk_cell bx0 0).trans rfl
        have z1 := (blk_cell bx0 1).trans rfl
        have z2 := blk_frozen bx0 0
        have z3 := blk_frozen bx0 1
        have HPH := Lib.hid hp1
        have HBT := Lib.hid hbt
        clear hpp hrz hsg hp1 hbt
        go_wp2
        go_meet
        rw [HPH.out, HBT.out]
        refine ⟨rfl, box0_set _ bx0, ?_⟩
        exact hm0.setCell (.inr (by have := HB6.out; simp; omega)) _
    case rest =>
      obtain ⟨rfl, hbx, hmx⟩ := hcut
      have hx0 := tail_bys s
      rw [HRR.out] at hx0
      obtain ⟨f, hf⟩ : ∃ f : Nat, (if r = true then 1 else 0) = f := ⟨_, rfl⟩
      rw [hf] at hx0 ⊢
      have hf1 : f ≤ s.size := by
        rw [← hf]
        cases r
        · simp
        · exact hrz rfl
      have HPP := Lib.hid (show parseOf b s = parseR b p ((bys s).drop f) by rw [parseOf, HP.out, hx0])
      have hxl : ((bys s).drop f).length = s.size - f := by rw [List.length_drop, bys_length]
      have hxi : ∀ i : Nat, f ≤ i → i < s.size → ((bys s).drop f).getD (i - f) 0 = bt s (i : Int) := fun i h1 h2 => by
        rw [← bys_getD s i h2, List.getD_eq_getElem?_getD, List.getElem?_drop, List.getD_eq_getElem?_getD, show f + (i - f) = i by omega]
      have hby : ∀ i : Nat, i < s.size → 0 ≤ bt s (i : Int) ∧ bt s (i : Int) ≤ 255 := fun i h => by
        rw [← bys_getD s i h]; exact bys_byte s i
      generalize (bys s).drop f = xs at *
      have HMX := Lib.hid hmx
      have HBX0 := Lib.hid hbx
      clear hrz hsg hf hx0 hpp hm0 bx0 hmx hbx
      by_cases h0 : f = s.size
      · have HPR := Lib.hid (show parseR b p xs = (0, 4) by rw [parseR, if_pos (List.eq_nil_of_length_eq_zero (by omega))])
        have e1 : ((f : Int) == (s.size : Int)) = true := by simp [h0]
        clear h0
        go_wp2
        go_ret2
        rw [HPP.out, HPR.out]
        exact ⟨rfl, HMX.out⟩
      · have e1 : ((f : Int) == (s.size : Int)) = false := by simp; omega
        have hne : xs ≠ [] := fun h => by rw [h] at hxl; simp at hxl; omega
        have HPR := Lib.hid (show parseR b p xs = if good b xs = false then (0, 4) else if (fitN (sgn p (VAL b xs))).2 = true then ((fitN (sgn p (VAL b xs))).1, 0) else (0, 7) by rw [parseR, if_neg hne])
        clear hne
        go_wp2_with fail
        go_loopw [8] (fun i wr => ∃ k : Nat, i = .int .i64 (k : Int) ∧ f ≤ k ∧ k ≤ s.size ∧ good b (xs.take (k - f)) = true ∧ wr = wc) (fun i _ => s.size - (intOf i).toNat)
        case atStart => exact ⟨f, rfl, Nat.le_refl _, hf1, by rw [Nat.sub_self]; rfl, rfl⟩
        case round =>
          obtain ⟨k, rfl, hfk, hk, hgood, rfl⟩ := hrel
          have HG := Lib.hid hgood
          clear hgood
          by_cases hlt : k < s.size
          · have hlt2 : (k : Int) < (s.size : Int) := by omega
            have hbb := hby k hlt
            have hxk := hxi k hfk hlt
            have hbtk : bt s (k : Int) = (((s[k]'hlt).toNat : Nat) : Int) := by unfold bt; rw [dif_pos (by exact hlt)]; rfl
            have hGs := Lib.hid (good_snoc b xs (k - f) (by omega))
            have hGb := Lib.hid (good_bad b xs (k - f) (by omega))
            rw [hbtk] at hxk hbb
            rw [hxk] at hGs hGb
            have hD := dref_any (((s[k]'hlt).toNat : Nat) : Int) wr hbb.1 hbb.2
            have HDG := Lib.hid (show dgt b (((s[k]'hlt).toNat : Nat) : Int) = if 0 ≤ dref (((s[k]'hlt).toNat : Nat) : Int) ∧ dref (((s[k]'hlt).toNat : Nat) : Int) < b then dref (((s[k]'hlt).toNat : Nat) : Int) else -1 from rfl)
            clear hxi hby hxk hbtk
            generalize dref (((s[k]'hlt).toNat : Nat) : Int) = d at *
            by_cases d1 : d < 0
            · have HR4 := Lib.hid (show parseR b p xs = (0, 4) by rw [HPR.out, if_pos (hGb.out (by rw [HDG.out, if_neg (by omega)]; omega))])
              go_wp2_with fail
              refine hD.mono ?_
              rintro e w2 ⟨rfl, rfl⟩
              clear hD
              go_wp2
              go_ret2
              rw [HPP.out, HR4.out]
              exact ⟨rfl, HMX.out⟩
            · by_cases d2 : (b : Int) ≤ d
              · have HR4 := Lib.hid (show parseR b p xs = (0, 4) by rw [HPR.out, if_pos (hGb.out (by rw [HDG.out, if_neg (by omega)]; omega))])
                go_wp2_with fail
                refine hD.mono ?_
                rintro e w2 ⟨rfl, rfl⟩
                clear hD
                go_wp2
                go_ret2
                rw [HPP.out, HR4.out]
                exact ⟨rfl, HMX.out⟩
              · have HG1 := Lib.hid (show good b (xs.take (k + 1 - f)) = true by
                  rw [show k + 1 - f = k - f + 1 by omega, hGs.out, HG.out, HDG.out, if_pos (by omega), decide_eq_true (by omega)]; rfl)
                go_wp2_with fail
                refine hD.mono ?_
                rintro e w2 ⟨rfl, rfl⟩
                clear hD
                go_wp2
                go_roundw
                case rel => exact ⟨k + 1, by go_num, by omega, by omega, HG1.out, trivial⟩
                case measure => simp [intOf]; omega
          · obtain rfl : k = s.size := by omega
            have hlt2 : ¬ (s.size : Int) < (s.size : Int) := by omega
            have hfull : xs.take (s.size - f) = xs := List.take_of_length_le (by omega)
            have hgf := HG.out
            rw [hfull] at hgf
            have HP2 := Lib.hid (show parseR b p xs = if (fitN (sgn p (VAL b xs))).2 = true then ((fitN (sgn p (VAL b xs))).1, 0) else (0, 7) by rw [HPR.out, if_neg (by rw [hgf]; simp)])
            have HGF := Lib.hid hgf
            clear hgf HG HPR hfull
            go_wp2_with fail
            generalize wr = wq at *
            go_loopw [10] (fun i wr => ∃ (k : Nat) (A : Option Addr) (n c : Nat), i = .int .i64 (k : Int) ∧ f ≤ k ∧ k ≤ s.size ∧ wr.heap[b6]? = some (.cells #[.bool p, .slice A n c] 27 (0, 0)) ∧ n ≤ c ∧ ReadsInt wr .i64 A n (D (VAL b (xs.take (k - f)))) ∧ n ≤ 60 ∧ Mod [] w wr) (fun i _ => s.size - (intOf i).toNat)
            case atStart => exact ⟨f, none, 0, 0, rfl, Nat.le_refl _, hf1, HBX0.out, Nat.le_refl _, by rw [Nat.sub_self]; exact D_zero ▸ reads_nil _ _, by omega, HMX.out⟩
            case round =>
              obtain ⟨k, A, n, c, rfl, hfk, hk, hbx, hnc, hr, hn60, hm⟩ := hrel
              have c0 := (blk_cell hbx 0).trans rfl
              have c1' := (blk_cell hbx 1).trans rfl
              have HB := Lib.hid hbx
              have HR := Lib.hid hr
              have HM := Lib.hid hm
              by_cases hlt : k < s.size
              · have hlt2 : (k : Int) < (s.size : Int) := by omega
                by_cases h40 : 40 < n
                · have h40' : (40 : Int) < (n : Int) := by omega
                  have HR7 := Lib.hid (show parseR b p xs = (0, 7) by
                    have h1 : 10 ^ 40 ≤ VAL b (xs.take (k - f)) := Nat.le_of_not_lt fun hl => by have := D_len_lt hl; rw [hr.1] at this; omega
                    have h2 := VAL_mono b xs (k - f) (by omega)
                    have h3 : fitN (sgn p (VAL b xs)) = (0, false) := if_neg (by cases p <;> simp [sgn] <;> omega)
                    rw [HP2.out, h3]; rfl)
                  clear hr hbx hm
                  go_wp2
                  go_ret2
                  rw [HPP.out, HR7.out]
                  exact ⟨rfl, HM.out⟩
                · have h40' : ¬ (40 : Int) < (n : Int) := by omega
                  have hbb := hby k hlt
                  have hxk := hxi k hfk hlt
                  have hbtk : bt s (k : Int) = (((s[k]'hlt).toNat : Nat) : Int) := by unfold bt; rw [dif_pos (by exact hlt)]; rfl
                  have hgk := good_at HGF.out (k - f) (by omega)
                  have hVs := VAL_snoc b xs (k - f) (by omega)
                  rw [hbtk] at hxk hbb
                  rw [hxk] at hgk hVs
                  obtain ⟨e1', d2, d3⟩ := dgt_dref hgk
                  obtain ⟨d, hdd⟩ := Int.eq_ofNat_of_zero_le d2
                  have hD := fun w => dref_any (((s[k]'hlt).toNat : Nat) : Int) w hbb.1 hbb.2
                  rw [hdd] at hD d3 hVs
                  rw [Int.toNat_natCast] at hVs
                  have hd16 : d < 16 := by omega
                  have hV40 : VAL b (xs.take (k - f)) < 10 ^ 40 := Nat.lt_of_not_le fun hl => by have := D_len_gt hl; rw [hr.1] at this; omega
                  have hbV : b * VAL b (xs.take (k - f)) ≤ 16 * VAL b (xs.take (k - f)) := Nat.mul_le_mul_right _ hb1
                  have hlV : (D (b * VAL b (xs.take (k - f)))).length ≤ 60 := D_len_lt (by omega)
                  have hlS : (D (b * VAL b (xs.take (k - f)) + d)).length ≤ 60 := D_len_lt (by omega)
                  have HVS := Lib.hid (show VAL b (xs.take (k + 1 - f)) = b * VAL b (xs.take (k - f)) + d by rw [show k + 1 - f = k - f + 1 by omega, hVs, Nat.mul_comm])
                  have E1 : ∀ w', Mod [] wr w' → w'.cell? ⟨b6, 1, none⟩ = some (.slice A n c) := fun w' h => h.cell c1' (by simp)
                  clear hxi hby hxk hbtk hgk hVs e1' d2 d3 hdd hV40 hbV hbx hm hr
                  generalize VAL b (xs.take (k - f)) = V at *
                  have F1 := field_1
                  go_upto_region 21 with fail
                  refine start_ (n := 16) (S := fun w' => w'.cell? ⟨b6, 1, none⟩ = some (.slice A n c) ∧ Mod [] wr w') (ds := [15]) #[false, false, false, false, false, false, false, false, false, false, false, false, false, false, false, false] (by kernel_rfl) rfl rfl ⟨c1', (Mod.refl [] wr).drew⟩ (fun hHeld => ?_)
                  refine pure_ (i := 0) (N := some 69) (v := ?_) (a' := ?_) #[true, false, false, false, false, false, false, false, false, false, false, false, false, false, false, false] rfl rfl (by kernel_rfl) (fun _ _ _ h => h) (Or.inl ⟨by rfl, ?_⟩) ?_ ?_
                  rotate_left
                  · intro w'
                    go_simp
                    with_reducible rfl
                  rotate_left
                  · simp only [Act.put, List.setIfInBounds_toArray, List.set_cons_zero, List.set_cons_succ, i64_w, i32_w]
                    rfl
                  refine pure_ (i := 2) (N := some 71) (v := ?_) (a' := ?_) #[true, false, true, false, false, false, false, false, false, false, false, false, false, false, false, false] rfl rfl (by kernel_rfl) (fun _ _ _ h => h) (Or.inl ⟨by rfl, ?_⟩) ?_ ?_
                  rotate_left
                  · intro w'
                    go_simp
                    with_reducible rfl
                  rotate_left
                  · simp only [Act.put, List.setIfInBounds_toArray, List.set_cons_zero, List.set_cons_succ, i64_w, i32_w]
                    rfl
                  refine pure_ (i := 7) (N := some 76) (v := ?_) (a' := ?_) #[true, false, true, false, false, false, false, true, false, false, false, false, false, false, false, false] rfl rfl (by kernel_rfl) (fun _ _ _ h => h) (Or.inl ⟨by rfl, ?_⟩) ?_ ?_
                  rotate_left
                  · intro w'
                    go_simp
                    with_reducible rfl
                  rotate_left
                  · simp only [Act.put, List.setIfInBounds_toArray, List.set_cons_zero, List.set_cons_succ, i64_w, i32_w]
                    rfl
                  refine pure_ (i := 8) (N := some 77) (v := ?_) (a' := ?_) #[true, false, true, false, false, false, false, true, true, false, false, false, false, false, false, false] rfl rfl (by kernel_rfl) (fun _ _ _ h => h) (Or.inl ⟨by rfl, ?_⟩) ?_ ?_
                  rotate_left
                  · intro w'
                    go_simp
                    with_reducible rfl
                  rotate_left
                  · simp only [Act.put, List.setIfInBounds_toArray, List.set_cons_zero, List.set_cons_succ, i64_w, i32_w]
                    rfl
                  refine take_ (i := 3) (N := some 72) (v := ?_) (a' := ?_) #[true, false, true, true, false, false, false, true, true, false, false, false, false, false, false, false] rfl rfl (by kernel_rfl) (fun _ _ _ h => h) (Or.inl ⟨by rfl, ?_⟩) hHeld ?_ ?_
                  rotate_left
                  · rintro w' ⟨s0, s1⟩
                    go_simp
                    with_reducible rfl
                  rotate_left
                  · simp only [Act.put, List.setIfInBounds_toArray, List.set_cons_zero, List.set_cons_succ, i64_w, i32_w]
                    rfl
                  refine pure_ (i := 4) (N := some 73) (v := ?_) (a' := ?_) #[true, false, true, true, true, false, false, true, true, false, false, false, false, false, false, false] rfl rfl (by kernel_rfl) (fun _ _ _ h => h) (Or.inl ⟨by rfl, ?_⟩) ?_ ?_
                  rotate_left
                  · intro w'
                    go_simp
                    with_reducible rfl
                  rotate_left
                  · simp only [Act.put, List.setIfInBounds_toArray, List.set_cons_zero, List.set_cons_succ, i64_w, i32_w]
                    rfl
                  refine take_ (i := 9) (N := some 78) (v := ?_) (a' := ?_) #[true, false, true, true, true, false, false, true, true, true, false, false, false, false, false, false] rfl rfl (by kernel_rfl) (fun _ _ _ h => h) (Or.inl ⟨by rfl, ?_⟩) hHeld ?_ ?_
                  rotate_left
                  · rintro w' ⟨s0, s1⟩
                    go_simp
                    with_reducible rfl
                  rotate_left
                  · simp only [Act.put, List.setIfInBounds_toArray, List.set_cons_zero, List.set_cons_succ, i64_w, i32_w]
                    rfl
                  refine one_ (i := 1) (N := some 70) #[true, true, true, true, true, false, false, true, true, true, false, false, false, false, false, false] rfl rfl (by kernel_rfl) (by decide) (fun K hK => ?_)
                  refine goes_ Try.func14 (by kernel_rfl) rfl #[.int .i64 (b : Int)] (by rfl) rfl rfl (by simp only [List.map_toArray, List.map_cons, List.map_nil]; rfl) ?_
                  with_reducible refine (hof b _ (by omega)).mono ?_
                  rintro e w3 ⟨A3, n3, c3, rfl, hn3, hm3, hr3⟩
                  refine ⟨_, rfl, ?_⟩
                  have hq3 : n3 ≤ 100 := by rw [← hr3.1]; exact Nat.le_trans (hl16 b hb1) (by omega)
                  have p3 : Mod [] wr w3 := hHeld.2.trans0 hm3
                  refine hK.out _ _ ⟨E1 _ p3, p3⟩ (fun hHeld => ?_)
                  clear hK K
                  refine norm_ (a' := ?_) ?_ ?_
                  rotate_left
                  · show Act.put _ (some 70) _ = _
                    simp only [Act.put, List.setIfInBounds_toArray, List.set_cons_zero, List.set_cons_succ, i64_w, i32_w]
                    rfl
                  refine one_ (i := 5) (N := some 74) #[true, true, true, true, true, true, false, true, true, true, false, false, false, false, false, false] rfl rfl (by kernel_rfl) (by decide) (fun K hK => ?_)
                  refine goes_ Try.func17 (by kernel_rfl) rfl #[.agg #[.bool false, .slice A3 n3 c3], .agg #[.bool false, .slice A n c]] (by rfl) rfl rfl (by simp only [List.map_toArray, List.map_cons, List.map_nil]; rfl) ?_
                  with_reducible refine (product_any false false A3 A n3 c3 n c _ _ _ hr3 (p3.reads HR.out (by simp)) hq3 (by omega)).mono ?_
                  rintro e w4 ⟨A4, n4, c4, rfl, hn4, hm4, hr4⟩
                  refine ⟨_, rfl, ?_⟩
                  have hq4 : n4 ≤ 60 := by rw [← hr4.1]; exact hlV
                  have p4 : Mod [] wr w4 := p3.trans0 hm4
                  refine hK.out _ _ ⟨E1 _ p4, p4⟩ (fun hHeld => ?_)
                  clear hK K
                  refine norm_ (a' := ?_) ?_ ?_
                  rotate_left
                  · show Act.put _ (some 74) _ = _
                    simp only [Act.put, List.setIfInBounds_toArray, List.set_cons_zero, List.set_cons_succ, i64_w, i32_w]
                    rfl
                  refine pure_ (i := 6) (N := some 75) (v := ?_) (a' := ?_) #[true, true, true, true, true, true, true, true, true, true, false, false, false, false, false, false] rfl rfl (by kernel_rfl) (fun _ _ _ h => h) (Or.inl ⟨by rfl, ?_⟩) ?_ ?_
                  rotate_left
                  · intro w'
                    go_simp
                    with_reducible rfl
                  rotate_left
                  · simp only [Act.put, List.setIfInBounds_toArray, List.set_cons_zero, List.set_cons_succ, i64_w, i32_w]
                    rfl
                  refine one_ (i := 10) (N := some 79) #[true, true, true, true, true, true, true, true, true, true, true, false, false, false, false, false] rfl rfl (by kernel_rfl) (by decide) (fun K hK => ?_)
                  refine goes_ Try.func44 (by kernel_rfl) rfl #[.int .u8 (((s[k]'hlt).toNat : Nat) : Int)] (by rfl) rfl rfl (by simp only [List.map_toArray, List.map_cons, List.map_nil]; rfl) ?_
                  with_reducible refine (hD _).mono ?_
                  rintro e w5 ⟨rfl, rfl⟩
                  refine ⟨_, rfl, ?_⟩
                  refine hK.out _ _ ⟨E1 _ p4, p4⟩ (fun hHeld => ?_)
                  clear hK K
                  refine norm_ (a' := ?_) ?_ ?_
                  rotate_left
                  · show Act.put _ (some 79) _ = _
                    simp only [Act.put, List.setIfInBounds_toArray, List.set_cons_zero, List.set_cons_succ, i64_w, i32_w]
                    rfl
                  refine one_ (i := 11) (N := some 80) #[true, true, true, true, true, true, true, true, true, true, true, true, false, false, false, false] rfl rfl (by kernel_rfl) (by decide) (fun K hK => ?_)
                  refine goes_ Try.func14 (by kernel_rfl) rfl #[.int .i64 (d : Int)] (by rfl) rfl rfl (by simp only [List.map_toArray, List.map_cons, List.map_nil]; rfl) ?_
                  with_reducible refine (hof d _ (by omega)).mono ?_
                  rintro e w6 ⟨A6, n6, c6, rfl, hn6, hm6, hr6⟩
                  refine ⟨_, rfl, ?_⟩
                  have hq6 : n6 ≤ 60 := by rw [← hr6.1]; exact Nat.le_trans (hl16 d (by omega)) (by omega)
                  have p6 : Mod [] wr w6 := p4.trans0 hm6
                  have hr46 := hm6.reads hr4 (by simp)
                  refine hK.out _ _ ⟨E1 _ p6, p6⟩ (fun hHeld => ?_)
                  clear hK K
                  refine norm_ (a' := ?_) ?_ ?_
                  rotate_left
                  · show Act.put _ (some 80) _ = _
                    simp only [Act.put, List.setIfInBounds_toArray, List.set_cons_zero, List.set_cons_succ, i64_w, i32_w]
                    rfl
                  refine pure_ (i := 12) (N := some 81) (v := ?_) (a' := ?_) #[true, true, true, true, true, true, true, true, true, true, true, true, true, false, false, false] rfl rfl (by kernel_rfl) (fun _ _ _ h => h) (Or.inl ⟨by rfl, ?_⟩) ?_ ?_
                  rotate_left
                  · intro w'
                    go_simp
                    with_reducible rfl
                  rotate_left
                  · simp only [Act.put, List.setIfInBounds_toArray, List.set_cons_zero, List.set_cons_succ, i64_w, i32_w]
                    rfl
                  refine one_ (i := 13) (N := some 82) #[true, true, true, true, true, true, true, true, true, true, true, true, true, true, false, false] rfl rfl (by kernel_rfl) (by decide) (fun K hK => ?_)
                  refine goes_ Try.func34 (by kernel_rfl) rfl #[.slice A4 n4 c4, .slice A6 n6 c6] (by rfl) rfl rfl (by simp only [List.map_toArray, List.map_cons, List.map_nil]; rfl) ?_
                  with_reducible refine (plus_any A4 A6 n4 c4 n6 c6 _ _ _ hr46 hr6 (by omega) (by omega) (digs_D _) (digs_D _)).mono ?_
                  rintro e w7 ⟨A7, n7, c7, rfl, hn7, hm7, hr7, hA7⟩
                  refine ⟨_, rfl, ?_⟩
                  have p7 : Mod [] wr w7 := p6.trans0 hm7
                  have fb := p7.blk HB.out (by simp)
                  have z0 := (blk_cell fb 0).trans rfl
                  have z1 := (blk_cell fb 1).trans rfl
                  have z2 := blk_frozen fb 0
                  have z3 := blk_frozen fb 1
                  refine hK.out _ _ ⟨E1 _ p7, p7⟩ (fun hHeld => ?_)
                  clear hK K
                  refine norm_ (a' := ?_) ?_ ?_
                  rotate_left
                  · show Act.put _ (some 82) _ = _
                    simp only [Act.put, List.setIfInBounds_toArray, List.set_cons_zero, List.set_cons_succ, i64_w, i32_w]
                    rfl
                  refine pure_ (i := 14) (N := some 83) (v := ?_) (a' := ?_) #[true, true, true, true, true, true, true, true, true, true, true, true, true, true, true, false] rfl rfl (by kernel_rfl) (fun _ _ _ h => h) (Or.inl ⟨by rfl, ?_⟩) ?_ ?_
                  rotate_left
                  · intro w'
                    go_simp
                    with_reducible rfl
                  rotate_left
                  · simp only [Act.put, List.setIfInBounds_toArray, List.set_cons_zero, List.set_cons_succ, i64_w, i32_w]
                    rfl
                  refine last_ (i := 15) (N := none) #[true, true, true, true, true, true, true, true, true, true, true, true, true, true, true, true] rfl rfl (by kernel_rfl) (by decide) (fun K hK => ?_)
                  refine skip_ (w1 := ?_) (by rfl) rfl ?_ ?_
                  rotate_left
                  · go_simp
                    rfl
                  refine hK.out _ _ ?_
                  clear hK K
                  refine done_ (by kernel_rfl) ?_
                  have q6 : Mod [b6] w7 (w7.setCell ⟨b6, 1, none⟩ (.slice A7 n7 c7)) := Mod.setCell (Mod.refl [b6] w7) (.inl (by simp)) _
                  have q5 : Mod [b6] wr (w7.setCell ⟨b6, 1, none⟩ (.slice A7 n7 c7)) := Mod.setCell (p7.weak (by simp)) (.inl (by simp)) _
                  have hdv : (dv (D (b * V)) + dv (D d)).toNat = b * V + d := by rw [dv_D, dv_D]; omega
                  rw [hdv] at hr7
                  have hr8 := q6.reads hr7 (fun a e hn => by simpa using dig_apart fb hr7 a e hn)
                  have hl8 : n7 ≤ 60 := by rw [← hr7.1]; exact hlS
                  rw [← HVS.out] at hr8
                  have hbx8 := box1_set (.slice A7 n7 c7) fb
                  have HM8 := Lib.hid ((HM.out.trans q5 (fun t ht => .inr (by simp at ht; subst ht; rw [HB6.out]; exact Nat.le_refl _))))
                  generalize w7.setCell ⟨b6, 1, none⟩ (.slice A7 n7 c7) = w8 at *
                  have HE8 := Lib.hid (And.intro hbx8 hr8)
                  clear z0 z1 z2 z3 hHeld hbx8 hr8 q5 q6 hdv
                  go_wp2
                  go_roundw
                  case rel => exact ⟨k + 1, A7, n7, c7, by go_num, by omega, by omega, HE8.out.1, hn7, HE8.out.2, hl8, HM8.out⟩
                  case measure => simp [intOf]; omega
              · obtain rfl : k = s.size := by omega
                have hlt2 : ¬ (s.size : Int) < (s.size : Int) := by omega
                have hfull : xs.take (s.size - f) = xs := List.take_of_length_le (by omega)
                rw [hfull] at hr HR
                have hI := int_any p A n c (VAL b xs) wr hr (by omega) hnc
                generalize fitN (sgn p (VAL b xs)) = z at *
                obtain ⟨z1, z2⟩ := z
                clear hr hbx hm hfull
                cases z2
                · go_wp2_with fail
                  refine hI.mono ?_
                  rintro e w5 ⟨rfl, hm5⟩
                  clear hI
                  go_wp2
                  go_ret2
                  rw [HPP.out, HP2.out]
                  exact ⟨rfl, HM.out.trans0 hm5⟩
                · go_wp2_with fail
                  refine hI.mono ?_
                  rintro e w5 ⟨rfl, hm5⟩
                  clear hI
                  go_wp2
                  go_ret2
                  rw [HPP.out, HP2.out]
                  exact ⟨rfl, HM.out.trans0 hm5⟩
end Go.Proofs.Ytijhlofmangpgaa
