/- The law of powers and roots, walked. -/
import Derived.Test.YtijhlofmangpgaaFixPow
import Derived.Test.YtijhlofmangpgaaFixParts
import Derived.Test.YtijhlofmangpgaaWLast
set_option linter.unusedVariables false
set_option linter.unusedSimpArgs false
namespace Go.Proofs.Ytijhlofmangpgaa
open Go.RowKit Go.Proofs.YtijhlofmangpgaaW.PrintWords Go.Proofs.YtijhlofmangpgaaW.PrintLast Go.Proofs.Ytijhlofmangpgaa.Dig
/-- A number in a box: its sign and its digits. -/
def NumAt (w : World) (g : Nat) (b : Bool) (x : Nat) : Prop := ∃ A n c, w.heap[g]? = some (.cells #[.bool b, .slice A n c] 27 (0, 0)) ∧ n ≤ c ∧ ReadsInt w .i64 A n (D x)
theorem storeAt_num (w : World) (g : Nat) (old : Array Value) (hg : w.heap[g]? = some (.cells old 27 (0, 0))) (ho : old.size = 2) (b : Bool) (A : Option Addr) (n c : Nat) :
    (Instr.storeAt 27 (.pointer (some ⟨g, 0, none⟩)) (.agg #[.bool b, .slice A n c])).run Try.prog w = .ok () (w.setRow g #[.bool b, .slice A n c]) := by
  simp only [Instr.storeAt, Instr.sureAddr, Sem.run_bind, Sem.run_pure, Result.andThen_ok, run_storeVar_row (P := Try.prog) w g 27 27 old #[.bool b, .slice A n c] hg (by kernel_rfl) ho (by simp [Value.oneCell'])]
theorem box2_set {w : World} {b : Nat} {t : TypeId} {u0 u1 : Value} (v0 v1 : Value) (h : w.heap[b]? = some (.cells #[u0, u1] t (0, 0))) :
    ((w.setCell ⟨b, 0, none⟩ v0).setCell ⟨b, 1, none⟩ v1).heap[b]? = some (.cells #[v0, v1] t (0, 0)) := by
  obtain ⟨hlt, hk⟩ := Array.getElem?_eq_some_iff.1 h
  have h1 : (w.setCell ⟨b, 0, none⟩ v0).heap[b]? = some (.cells #[v0, u1] t (0, 0)) := by
    show (w.heap.modify b _)[b]? = _
    rw [Array.getElem?_eq_getElem (by rw [Array.size_modify]; exact hlt), Array.getElem_modify_self, hk]
    rfl
  obtain ⟨hlt1, hk1⟩ := Array.getElem?_eq_some_iff.1 h1
  show ((w.setCell ⟨b, 0, none⟩ v0).heap.modify b _)[b]? = _
  rw [Array.getElem?_eq_getElem (by rw [Array.size_modify]; exact hlt1), Array.getElem_modify_self, hk1]
  rfl
theorem apart_box {w : World} {b : Nat} {t : TypeId} {fr : Nat × Nat} {x : Bool} {A : Option Addr} {n c : Nat} (hb : w.heap[b]? = some (.cells #[.bool x, .slice A n c] t fr)) {a : Addr} {k : IntKind} {v : Int} (hc : w.cell? a = some (.int k v)) : a.block ≠ b := by
  intro e
  subst e
  unfold World.cell? at hc
  rw [hb] at hc
  revert hc
  dsimp only
  split
  · simp
  · rcases a.off with _ | _ | o <;> simp
theorem digs_apart {w : World} {b : Nat} {t : TypeId} {fr : Nat × Nat} {x : Bool} {A0 : Option Addr} {n0 c0 : Nat} (hb : w.heap[b]? = some (.cells #[.bool x, .slice A0 n0 c0] t fr)) {A : Option Addr} {n : Nat} {xs : List Int} (hr : ReadsInt w .i64 A n xs) : ∀ a, A = some a → 0 < n → a.block ≠ b := fun a e hn => by
  obtain ⟨ad, e', h⟩ := hr.2.2 hn
  rw [e] at e'
  cases e'
  have := apart_box hb (h 0 hn)
  rwa [add_block] at this
theorem D_prod90 {x y n : Nat} (hx : (D x).length = n) (h : n < 60) (hy : y ≤ 9223372036854775808) : (D (x * y)).length ≤ 90 := by
  have h1 : x < 10 ^ 59 := Nat.lt_of_not_le fun hl => by have := D_len_gt hl; omega
  have h2 : x * y ≤ 10 ^ 59 * 9223372036854775808 := Nat.mul_le_mul (by omega) hy
  exact D_len_lt (by omega)
theorem pow_mag (a : Int) (k : Nat) : (a ^ k).natAbs * a.natAbs = (a ^ (k + 1)).natAbs := by rw [Int.pow_succ, Int.natAbs_mul]
theorem sgn_sv (b : Bool) (x : Nat) : sgn b x = sv b x := rfl
theorem big_abs {a : Int} {k : Nat} (h : 2 ≤ (a ^ k).natAbs) : 2 ≤ a.natAbs := by
  rcases Nat.lt_or_ge a.natAbs 2 with h1 | h1
  · rw [Int.natAbs_pow] at h
    have h2 : a.natAbs ^ k ≤ 1 ^ k := Nat.pow_le_pow_left (by omega) k
    rw [Nat.one_pow] at h2
    omega
  · exact h1
/-- What the loop of products leaves fits, or doesn't, as the power does. -/
theorem loop_fit {a : Int} {k m n : Nat} {b : Bool} (hk : k ≤ m) (hk70 : k ≤ 70) (hn : (D (a ^ k).natAbs).length = n) (hsv : sv b (a ^ k).natAbs = a ^ k) (hC : 1 < a ∨ a < -1 ∨ (m : Int) < 70) (hgo : ¬ (k < m ∧ k < 70 ∧ n < 60)) : fitN (sgn b (a ^ k).natAbs) = fitN (a ^ m) := by
  rw [sgn_sv, hsv]
  by_cases e1 : k < m
  · by_cases e2 : k < 70
    · have e3 : 60 ≤ n := by omega
      have h1 : 10 ^ 59 ≤ (a ^ k).natAbs := Nat.le_of_not_lt fun hl => by have := D_len_lt hl; omega
      have h2 : ¬ Fits (a ^ k) := by unfold Fits; omega
      rw [fitN_no h2, fitN_no (pow_big (big_abs (k := k) (by omega)) h2 hk)]
    · have h2 : 2 ≤ a.natAbs := by omega
      rw [fitN_no (pow_64 h2 (by omega)), fitN_no (pow_64 h2 (by omega))]
  · obtain rfl : k = m := by omega
    rfl
theorem of_nat (s : Nat) (w : World) (h : s ≤ 9223372036854775807) : Calls Try.prog 14 #[.int .i64 (s : Int)] w (NumPost w false s) := by
  have := of_any (s : Int) w (by omega) (by omega)
  rwa [decide_eq_false (by omega), Int.natAbs_natCast] at this
theorem of_succ (s : Nat) (w : World) (h : s + 1 ≤ 9223372036854775807) : Calls Try.prog 14 #[.int .i64 ((s : Int) + 1)] w (NumPost w false (s + 1)) := of_nat (s + 1) w h
theorem D_len10 {x : Nat} (h : x ≤ 3037000500) : (D x).length ≤ 10 := D_len_lt (by omega)
set_option maxRecDepth 100000 in
set_option maxHeartbeats 2000000 in
theorem powers_any (a n : Int) (w : World) (ha : Fits a) (hn : Fits n) :
    Calls Try.prog 7 #[.int .i64 a, .int .i64 n] w fun e w' => e = .returned (.bool true) ∧ Mod [] w w' := by
  have HP := pow_any a n w ha hn
  obtain ⟨⟨p, ok⟩, hp⟩ : ∃ p, powR a n = p := ⟨_, rfl⟩
  rw [hp] at HP
  have HPP := Lib.hid hp
  clear hp
  go_enter Try.func7, Try.ntmps7
  go_wp2_with fail
  refine HP.mono ?_
  rintro e w1 ⟨rfl, rfl⟩
  clear HP
  by_cases hn0 : n < 0
  · have hpp := HPP.out
    rw [powR, if_pos hn0] at hpp
    obtain ⟨rfl, rfl⟩ := Prod.mk.inj hpp
    clear hpp
    go_wp2_with fail
    refine (lives_any _).mono ?_
    rintro e w2 ⟨rfl, hm2⟩
    go_wp2
    go_ret
    exact ⟨rfl, hm2⟩
  · obtain ⟨m, rfl⟩ := Int.eq_ofNat_of_zero_le (by omega : 0 ≤ n)
    have hpp := HPP.out
    rw [powR, if_neg hn0, Int.toNat_natCast] at hpp
    have HP2 := Lib.hid hpp
    clear hpp hn0
    go_upto_region 4 with fail
    go_cut [41] (fun t wx => t = .bool (decide (1 < a ∨ a < -1 ∨ (m : Int) < 70)) ∧ wx = w)
    case first =>
      by_cases k1 : 1 < a
      · go_wp2
        go_meet
        exact ⟨by simp [k1], rfl⟩
      · by_cases k2 : a < -1
        · go_wp2
          go_meet
          exact ⟨by simp [k2], rfl⟩
        · by_cases k3 : (m : Int) < 70
          · go_wp2
            go_meet
            exact ⟨by simp [k3], rfl⟩
          · go_wp2
            go_meet
            exact ⟨by simp [k1, k2, k3], rfl⟩
    case rest =>
      obtain ⟨rfl, rfl⟩ := hcut
      go_upto_if 41 with fail
      go_cut [5] (fun _ wx => Mod [] wc wx)
      case first =>
        by_cases hC : 1 < a ∨ a < -1 ∨ (m : Int) < 70
        · rw [decide_eq_true hC]
          go_wp2_with fail
          refine (of_nat 1 wc (by omega)).mono ?_
          rintro e w1 ⟨A1, n1, c1, rfl, hn1, hm1, hr1⟩
          have bx := blk_new w1 (.cells #[.bool false, .slice A1 n1 c1] 27)
          have hm2 := hm1.alloc (.cells #[.bool false, .slice A1 n1 c1] 27)
          have hr2 := ((Mod.refl [] w1).alloc (.cells #[.bool false, .slice A1 n1 c1] 27)).reads hr1 (by simp)
          have hz1 : wc.heap.size ≤ w1.heap.size := hm1.size
          clear hr1 hm1
          go_wp2_with fail
          generalize w1.alloc _ = w2 at *
          generalize w1.heap.size = b7 at *
          have HB7 := Lib.hid (show wc.heap.size ≤ b7 from hz1)
          have HR2 := Lib.hid hr2
          have HBX := Lib.hid bx
          have HM2 := Lib.hid hm2
          have hl1 : n1 ≤ 10 := by have := D_len10 (x := 1) (by omega); rw [hr2.1] at this; exact this
          clear hr2 bx hm2
          go_loopw [8] (fun i wr => ∃ (k : Nat) (b : Bool) (A : Option Addr) (n c : Nat), i = .int .i64 (k : Int) ∧ k ≤ m ∧ k ≤ 70 ∧ wr.heap[b7]? = some (.cells #[.bool b, .slice A n c] 27 (0, 0)) ∧ n ≤ c ∧ ReadsInt wr .i64 A n (D (a ^ k).natAbs) ∧ sv b (a ^ k).natAbs = a ^ k ∧ n ≤ 90 ∧ Mod [] wc wr) (fun i _ => 70 - (intOf i).toNat)
          case atStart => exact ⟨0, false, A1, n1, c1, rfl, by omega, by omega, HBX.out, hn1, by rw [Int.pow_zero]; exact HR2.out, by rw [Int.pow_zero]; rfl, by omega, HM2.out⟩
          case round =>
            obtain ⟨k, b, A, n, c, rfl, hk, hk70, hbx, hnc, hr, hsv, hn90, hm⟩ := hrel
            have c0 := (blk_cell hbx 0).trans rfl
            have c1' := (blk_cell hbx 1).trans rfl
            have HB := Lib.hid hbx
            have HR := Lib.hid hr
            have HSV := Lib.hid hsv
            have HM := Lib.hid hm
            have hlen := Lib.hid hr.1
            by_cases hgo : k < m ∧ k < 70 ∧ n < 60
            · obtain ⟨g1, g2, g3⟩ := hgo
              have g1' : (k : Int) < (m : Int) := by omega
              have g2' : (k : Int) < 70 := by omega
              have g3' : (n : Int) < 60 := by omega
              have E0 : ∀ w', Mod [] wr w' → w'.cell? ⟨b7, 0, none⟩ = some (.bool b) := fun w' h => h.cell c0 (by simp)
              have E1 : ∀ w', Mod [] wr w' → w'.cell? ⟨b7, 1, none⟩ = some (.slice A n c) := fun w' h => h.cell c1' (by simp)
              have haa : -9223372036854775808 ≤ a ∧ a ≤ 9223372036854775807 := ha
              have hla := D_len20 (x := a.natAbs) (by unfold Fits at ha; omega)
              clear hsv hbx hm
              go_upto_region 9 with fail
              refine start_ (n := 5) (S := fun w' => w'.cell? ⟨b7, 0, none⟩ = some (.bool b) ∧ w'.cell? ⟨b7, 1, none⟩ = some (.slice A n c) ∧ Mod [] wr w') (ds := [4]) #[false, false, false, false, false] (by kernel_rfl) rfl rfl ⟨c0, c1', (Mod.refl [] wr).drew⟩ (fun hHeld => ?_)
              refine pure_ (i := 1) (N := some 59) (v := ?_) (a' := ?_) #[false, true, false, false, false] rfl rfl (by kernel_rfl) (fun _ _ _ h => h) (Or.inl ⟨by rfl, ?_⟩) ?_ ?_
              rotate_left
              · intro w'
                go_simp
                with_reducible rfl
              rotate_left
              · simp only [Act.put, List.setIfInBounds_toArray, List.set_cons_zero, List.set_cons_succ, i64_w, i32_w]
                rfl
              refine take_ (i := 0) (N := some 58) (v := ?_) (a' := ?_) #[true, true, false, false, false] rfl rfl (by kernel_rfl) (fun _ _ _ h => h) (Or.inl ⟨by rfl, ?_⟩) hHeld ?_ ?_
              rotate_left
              · rintro w' ⟨s0, s1, s2⟩
                go_simp
                with_reducible rfl
              rotate_left
              · simp only [Act.put, List.setIfInBounds_toArray, List.set_cons_zero, List.set_cons_succ, i64_w, i32_w]
                rfl
              refine one_ (i := 2) (N := some 60) #[true, true, true, false, false] rfl rfl (by kernel_rfl) (by decide) (fun K hK => ?_)
              refine goes_ Try.func14 (by kernel_rfl) rfl #[.int .i64 a] (by rfl) rfl rfl (by simp only [List.map_toArray, List.map_cons, List.map_nil]; rfl) ?_
              with_reducible refine (of_any a _ haa.1 haa.2).mono ?_
              rintro e w3 ⟨A3, n3, c3, rfl, hn3, hm3, hr3⟩
              refine ⟨_, rfl, ?_⟩
              have hq3 : n3 ≤ 100 := by rw [← hr3.1]; omega
              have p3 : Mod [] wr w3 := hHeld.2.2.trans0 hm3
              refine hK.out _ _ ⟨E0 _ p3, E1 _ p3, p3⟩ (fun hHeld => ?_)
              clear hK K
              refine norm_ (a' := ?_) ?_ ?_
              rotate_left
              · show Act.put _ (some 60) _ = _
                simp only [Act.put, List.setIfInBounds_toArray, List.set_cons_zero, List.set_cons_succ, i64_w, i32_w]
                rfl
              refine one_ (i := 3) (N := some 61) #[true, true, true, true, false] rfl rfl (by kernel_rfl) (by decide) (fun K hK => ?_)
              refine goes_ Try.func17 (by kernel_rfl) rfl #[.agg #[.bool b, .slice A n c], .agg #[.bool (decide (a < 0)), .slice A3 n3 c3]] (by rfl) rfl rfl (by simp only [List.map_toArray, List.map_cons, List.map_nil]; rfl) ?_
              with_reducible refine (product_any b _ A A3 n c n3 c3 _ _ _ (p3.reads HR.out (by simp)) hr3 (by omega) hq3).mono ?_
              rintro e w4 ⟨A4, n4, c4, rfl, hn4, hm4, hr4⟩
              refine ⟨_, rfl, ?_⟩
              have p4 : Mod [] wr w4 := p3.trans0 hm4
              have fb := p4.blk HB.out (by simp)
              have z0 := (blk_cell fb 0).trans rfl
              have z1 := (blk_cell fb 1).trans rfl
              have z2 := blk_frozen fb 0
              have z3 := blk_frozen fb 1
              refine hK.out _ _ ⟨E0 _ p4, E1 _ p4, p4⟩ (fun hHeld => ?_)
              clear hK K
              refine norm_ (a' := ?_) ?_ ?_
              rotate_left
              · show Act.put _ (some 61) _ = _
                simp only [Act.put, List.setIfInBounds_toArray, List.set_cons_zero, List.set_cons_succ, i64_w, i32_w]
                rfl
              refine last_ (i := 4) (N := none) #[true, true, true, true, true] rfl rfl (by kernel_rfl) (by decide) (fun K hK => ?_)
              refine skip_ (w1 := ?_) (by rfl) rfl ?_ ?_
              rotate_left
              · go_simp
                rfl
              refine hK.out _ _ ?_
              clear hK K
              refine done_ (by kernel_rfl) ?_
              have q5 : Mod [b7] wr ((w4.setCell ⟨b7, 0, none⟩ (.bool (b != decide (a < 0)))).setCell ⟨b7, 1, none⟩ (.slice A4 n4 c4)) := Mod.setCell (Mod.setCell (p4.weak (by simp)) (.inl (by simp)) _) (.inl (by simp)) _
              have q6 : Mod [b7] w4 ((w4.setCell ⟨b7, 0, none⟩ (.bool (b != decide (a < 0)))).setCell ⟨b7, 1, none⟩ (.slice A4 n4 c4)) := Mod.setCell (Mod.setCell (Mod.refl [b7] w4) (.inl (by simp)) _) (.inl (by simp)) _
              have hr5 := q6.reads hr4 (fun a e hn => by simpa using digs_apart fb hr4 a e hn)
              have hl5 : n4 ≤ 90 := by rw [← hr4.1]; exact D_prod90 hlen.out g3 (by unfold Fits at ha; omega)
              rw [pow_mag] at hr5
              have hsv5 : sv (b != decide (a < 0)) (a ^ (k + 1)).natAbs = a ^ (k + 1) := by
                rw [← pow_mag, prod_sv, HSV.out, of_sv, Int.pow_succ]
              have hbx5 := box2_set (.bool (b != decide (a < 0))) (.slice A4 n4 c4) fb
              have HM5 := Lib.hid ((HM.out.trans q5 (fun t ht => .inr (by simp at ht; subst ht; exact HB7.out))))
              generalize (w4.setCell ⟨b7, 0, none⟩ (.bool (b != decide (a < 0)))).setCell ⟨b7, 1, none⟩ (.slice A4 n4 c4) = w5 at *
              have HE5 := Lib.hid (And.intro hbx5 (And.intro hr5 hsv5))
              clear z0 z1 z2 z3 hHeld hbx5 hr5 hsv5 q5 q6
              go_wp2
              go_roundw
              case rel => exact ⟨k + 1, _, A4, n4, c4, by go_num, by omega, by omega, HE5.out.1, hn4, HE5.out.2.1, HE5.out.2.2, hl5, HM5.out⟩
              case measure => simp [intOf]; omega
            · have hpp := HP2.out
              rw [← loop_fit hk hk70 hr.1 hsv hC hgo] at hpp
              have HF := Lib.hid hpp
              clear hpp hsv hbx hm
              by_cases e1 : k < m
              · have g1 : (k : Int) < (m : Int) := by omega
                by_cases e2 : k < 70
                · have g2 : (k : Int) < 70 := by omega
                  have g3 : ¬ (n : Int) < 60 := by omega
                  clear hr hgo
                  go_wp2_with fail
                  refine (is_any p ok b A n c _ wr HR.out (by omega) hnc HF.out).mono ?_
                  rintro e w5 ⟨rfl, hm5⟩
                  go_wp2
                  go_meet
                  exact HM.out.trans0 hm5
                · have g2 : ¬ (k : Int) < 70 := by omega
                  clear hr hgo
                  go_wp2_with fail
                  refine (is_any p ok b A n c _ wr HR.out (by omega) hnc HF.out).mono ?_
                  rintro e w5 ⟨rfl, hm5⟩
                  go_wp2
                  go_meet
                  exact HM.out.trans0 hm5
              · have g1 : ¬ (k : Int) < (m : Int) := by omega
                clear hr hgo
                go_wp2_with fail
                refine (is_any p ok b A n c _ wr HR.out (by omega) hnc HF.out).mono ?_
                rintro e w5 ⟨rfl, hm5⟩
                go_wp2
                go_meet
                exact HM.out.trans0 hm5
        · rw [decide_eq_false hC]
          have h1 : ¬ 1 < a := fun h => hC (.inl h)
          have h2 : ¬ a < -1 := fun h => hC (.inr (.inl h))
          have h3 : ¬ (m : Int) < 70 := fun h => hC (.inr (.inr h))
          have hpp := HP2.out
          obtain ⟨p1, p2, p3⟩ := pow_small m
          clear hC
          have hcase : a = -1 ∨ a = 0 ∨ a = 1 := by omega
          rcases hcase with rfl | rfl | rfl
          · rw [p3] at hpp
            by_cases he : m % 2 = 0
            · rw [if_pos he, fitN_yes (by unfold Fits; omega)] at hpp
              obtain ⟨rfl, rfl⟩ := Prod.mk.inj hpp
              have he2 : ((m : Int) % 2 == 0) = true := by simp; omega
              clear hpp p1 p2 p3
              go_wp2
              go_meet
              exact Mod.refl [] wc
            · rw [if_neg he, fitN_yes (by unfold Fits; omega)] at hpp
              obtain ⟨rfl, rfl⟩ := Prod.mk.inj hpp
              have he2 : ((m : Int) % 2 == 0) = false := by simp; omega
              clear hpp p1 p2 p3
              go_wp2
              go_meet
              exact Mod.refl [] wc
          · rw [p2, if_neg (by omega), fitN_yes (by unfold Fits; omega)] at hpp
            obtain ⟨rfl, rfl⟩ := Prod.mk.inj hpp
            clear hpp p1 p2 p3
            go_wp2
            go_meet
            exact Mod.refl [] wc
          · rw [p1, fitN_yes (by unfold Fits; omega)] at hpp
            obtain ⟨rfl, rfl⟩ := Prod.mk.inj hpp
            clear hpp p1 p2 p3
            go_wp2
            go_meet
            exact Mod.refl [] wc
      case rest =>
        have HM0 := Lib.hid hcut
        clear hcut
        by_cases ha0 : a < 0
        · go_wp2_with fail
          refine (root_neg a wc ha0).mono ?_
          rintro e w1 ⟨rfl, rfl⟩
          go_wp2_with fail
          refine (lives_any wc).mono ?_
          rintro e w2 ⟨rfl, hm2⟩
          go_wp2
          go_ret
          exact ⟨rfl, HM0.out.trans0 hm2⟩
        · obtain ⟨N, hN⟩ := Int.eq_ofNat_of_zero_le (by omega : 0 ≤ a)
          subst hN
          have hN2 : N ≤ 9223372036854775807 := by unfold Fits at ha; omega
          clear HP2 HPP
          go_wp2_with fail
          refine (root_any N wc (by omega)).mono ?_
          rintro e w1 ⟨rfl, s, rfl, hs1, hs2, hs3⟩
          have hss : (0 : Int) ≤ (s : Int) * (s : Int) := Int.mul_nonneg (by omega) (by omega)
          obtain ⟨L, hL⟩ : ∃ L : Nat, (N : Int) - (s : Int) * (s : Int) = (L : Int) := ⟨N - s * s, by rw [← Int.natCast_mul]; omega⟩
          rw [hL]
          have hLs : s * s + L = N := by rw [← Int.natCast_mul] at hL; omega
          have HLS := Lib.hid hLs
          have HS3 := Lib.hid hs3
          have hL2 : L ≤ 9223372036854775807 := by omega
          clear hL hss hs2 hs3 hLs
          go_wp2_with fail
          refine (of_nat s wc (by omega)).mono ?_
          rintro e w1 ⟨A1, n1, c1, rfl, hn1, hm1, hr1⟩
          go_wp2_with fail
          refine (of_nat s w1 (by omega)).mono ?_
          rintro e w2 ⟨A2, n2, c2, rfl, hn2, hm2, hr2⟩
          have hl := D_len10 (x := s) (by omega)
          have hl1 : n1 ≤ 10 := by rw [← hr1.1]; exact hl
          have hl2 : n2 ≤ 10 := by rw [← hr2.1]; exact hl
          have hr12 := hm2.reads hr1 (by simp)
          go_wp2_with fail
          refine (product_any false false A1 A2 n1 c1 n2 c2 s s w2 hr12 hr2 (by omega) (by omega)).mono ?_
          rintro e w3 ⟨A3, n3, c3, rfl, hn3, hm3, hr3⟩
          have HM3 := Lib.hid (((HM0.out.trans0 hm1).trans0 hm2).trans0 hm3)
          have hl3 : n3 ≤ 25 := by
            rw [← hr3.1]
            exact D_len_lt (Nat.lt_of_le_of_lt (sq_le hs1) (by decide))
          have bx12 := blk_new w3 (.cells #[.bool false, .slice A3 n3 c3] 27)
          have hm4 := (Mod.refl [] w3).alloc (.cells #[.bool false, .slice A3 n3 c3] 27)
          have hr34 := hm4.reads hr3 (by simp)
          clear hr1 hr2 hr12 hm1 hm2 hm3 hr3 HM0 hl hl1 hl2
          go_wp2_with fail
          generalize w3.alloc _ = w4 at *
          obtain ⟨b12, hb12⟩ : ∃ b, w3.heap.size = b := ⟨_, rfl⟩
          rw [hb12] at bx12 ⊢
          have HM4 := Lib.hid (HM3.out.trans0 hm4)
          clear hb12 hm4
          refine (of_succ s w4 (by omega)).mono ?_
          rintro e w5 ⟨A5, n5, c5, rfl, hn5, hm5, hr5⟩
          go_wp2_with fail
          refine (of_succ s w5 (by omega)).mono ?_
          rintro e w6 ⟨A6, n6, c6, rfl, hn6, hm6, hr6⟩
          have hl := D_len10 (x := s + 1) (by omega)
          have hl5 : n5 ≤ 10 := by rw [← hr5.1]; exact hl
          have hl6 : n6 ≤ 10 := by rw [← hr6.1]; exact hl
          have hr56 := hm6.reads hr5 (by simp)
          go_wp2_with fail
          refine (product_any false false A5 A6 n5 c5 n6 c6 (s + 1) (s + 1) w6 hr56 hr6 (by omega) (by omega)).mono ?_
          rintro e w7 ⟨A7, n7, c7, rfl, hn7, hm7, hr7⟩
          have hm47 := (hm5.trans0 hm6).trans0 hm7
          have hl7 : n7 ≤ 25 := by
            rw [← hr7.1]
            exact D_len_lt (Nat.lt_of_le_of_lt (sq_le (by omega : s + 1 ≤ 3037000500)) (by decide))
          have bx13 := blk_new w7 (.cells #[.bool false, .slice A7 n7 c7] 27)
          have hm8 := (Mod.refl [] w7).alloc (.cells #[.bool false, .slice A7 n7 c7] 27)
          have hr78 := hm8.reads hr7 (by simp)
          have bx12' := (hm47.trans0 hm8).blk bx12 (by simp)
          have hr38 := (hm47.trans0 hm8).reads hr34 (by simp)
          have HM8 := Lib.hid ((HM4.out.trans0 hm47).trans0 hm8)
          clear hr5 hr6 hr56 hm5 hm6 hm7 hm47 hr7 HM3 HM4 hl hl5 hl6 bx12 hr34 hm8
          go_upto_region 19 with fail
          generalize w7.alloc _ = w8 at *
          obtain ⟨b13, hb13⟩ : ∃ b, w7.heap.size = b := ⟨_, rfl⟩
          rw [hb13] at bx13 ⊢
          clear hb13
          have d0 := (blk_cell bx13 0).trans rfl
          have d1 := (blk_cell bx13 1).trans rfl
          have D0 : ∀ w', Mod [] w8 w' → w'.cell? ⟨b13, 0, none⟩ = some (.bool false) := fun w' h => h.cell d0 (by simp)
          have D1 : ∀ w', Mod [] w8 w' → w'.cell? ⟨b13, 1, none⟩ = some (.slice A7 n7 c7) := fun w' h => h.cell d1 (by simp)
          have hlN := D_len20 (x := N) (by omega)
          have d2 : w8.drew.cell? ⟨b13, 0, none⟩ = some (.bool false) := d0
          have d3 : w8.drew.cell? ⟨b13, 1, none⟩ = some (.slice A7 n7 c7) := d1
          have hsum : sumN false ((s + 1) * (s + 1)) (!false) N = (false, (s + 1) * (s + 1) - N) := by
            have := HS3.out
            unfold sumN
            rw [if_neg (by simp), if_pos (by omega)]
          have hS := fun w' A n c (hr : ReadsInt w' .i64 A n (D N)) (hm : Mod [] w8 w') (hn : n ≤ 5000) => sum_any false (!false) A7 A n7 c7 n c ((s + 1) * (s + 1)) N w' (hm.reads hr78 (by simp)) hr (by omega) hn
          rw [hsum] at hS
          have HSP := Lib.hid (show 0 < (D ((s + 1) * (s + 1) - N)).length by have := HS3.out; rw [D_pos (by omega)]; simp)
          clear hsum
          generalize (s + 1) * (s + 1) - N = dd at *
          go_cut [14] (fun t wx => ∃ b A n c, t = .pointer (some ⟨b, 0, none⟩) ∧ wx.heap[b]? = some (.cells #[.bool false, .slice A n c] 27 (0, 0)) ∧ 0 < n ∧ Mod [] w8 wx)
          case first =>
            go_region_held3 (fun w' => Mod [] w8 w') (first | exact (Mod.refl [] w8).drew | exact Mod.refl [] w8 | assumption | exact Mod.alloc (by assumption) _ | exact Mod.alloc (Mod.refl [] w8).drew _ | exact Mod.alloc (Mod.refl [] w8) _ | exact Mod.setRow (by assumption) (.inr (by simp; omega)) _ | exact Mod.setCell (Mod.setCell (by assumption) (.inr (by assumption)) _) (.inr (by assumption)) _ | exact Mod.setCell (Mod.setCell (by assumption) (.inr (Nat.le_refl _)) _) (.inr (Nat.le_refl _)) _)
              (first
                | (go_at_call 14; refine (of_nat N _ hN2).mono ?_; rintro e w9 ⟨A9, n9, c9, rfl, hn9, hm9, hr9⟩; have hq9 : n9 ≤ 5000 := (by rw [← hr9.1]; omega); have q9 : Mod [] w8 w9 := Mod.trans0 (by first | assumption | exact (Mod.refl [] w8).drew | exact Mod.drew (by assumption) | exact Mod.alloc (by assumption) _ | exact Mod.alloc (Mod.refl [] w8).drew _ | exact Mod.alloc (Mod.drew (by assumption)) _ | exact (Mod.alloc (by assumption) _).drew | exact ((Mod.refl [] w8).alloc _).drew | exact Mod.refl [] w8) hm9; have s9 := q9.size; have y0 := D0 _ q9; have y1 := D1 _ q9; (first | (have fb : w9.heap[w8.heap.size]? = some (.cells #[.bool false, .slice none 0 0] 27 (0, 0)) := hm9.blk (blk_new w8.drew (.cells #[.bool false, .slice none 0 0] 27)) (by simp)) | skip))
                | (go_at_call 24; refine (turned_any false A9 n9 c9 N _ (Mod.reads (S := []) (by first | exact Mod.refl [] _ | exact (Mod.refl [] _).alloc _ | exact (Mod.refl [] _).drew | exact ((Mod.refl [] _).alloc _).drew) hr9 (by simp)) hn9).mono ?_; rintro e w10 ⟨A10, n10, c10, rfl, hn10, hm10, hr10⟩; have hq10 : n10 ≤ 5000 := (by rw [← hr10.1]; omega); have q10 : Mod [] w8 w10 := Mod.trans0 (by first | assumption | exact (Mod.refl [] w8).drew | exact Mod.drew (by assumption) | exact Mod.alloc (by assumption) _ | exact Mod.alloc (Mod.refl [] w8).drew _ | exact Mod.alloc (Mod.drew (by assumption)) _ | exact (Mod.alloc (by assumption) _).drew | exact ((Mod.refl [] w8).alloc _).drew | exact Mod.refl [] w8) hm10; have s10 := q10.size; have y0 := D0 _ q10; have y1 := D1 _ q10; (first | (have fb := hm10.blk fb (by simp)) | (have fb := hm10.blk (blk_new _ (.cells #[.bool false, .slice none 0 0] 27)) (by simp)) | skip))
                | (go_at_call 16; refine (hS _ A10 n10 c10 (Mod.reads (S := []) (by first | exact Mod.refl [] _ | exact (Mod.refl [] _).alloc _ | exact (Mod.refl [] _).drew | exact ((Mod.refl [] _).alloc _).drew) hr10 (by simp)) (by first | assumption | exact (Mod.refl [] w8).drew | exact Mod.drew (by assumption) | exact Mod.alloc (by assumption) _ | exact Mod.alloc (Mod.refl [] w8).drew _ | exact Mod.alloc (Mod.drew (by assumption)) _ | exact (Mod.alloc (by assumption) _).drew | exact ((Mod.refl [] w8).alloc _).drew | exact Mod.refl [] w8) hq10).mono ?_; rintro e w11 ⟨A11, n11, c11, rfl, hn11, hm11, hr11⟩; have hq11 : n11 = (D dd).length := hr11.1.symm; have HQ11 := Lib.hid hq11; clear hq11; have q11 : Mod [] w8 w11 := Mod.trans0 (by first | assumption | exact (Mod.refl [] w8).drew | exact Mod.drew (by assumption) | exact Mod.alloc (by assumption) _ | exact Mod.alloc (Mod.refl [] w8).drew _ | exact Mod.alloc (Mod.drew (by assumption)) _ | exact (Mod.alloc (by assumption) _).drew | exact ((Mod.refl [] w8).alloc _).drew | exact Mod.refl [] w8) hm11; have y0 := D0 _ q11; have y1 := D1 _ q11; (first | (have fb := hm11.blk fb (by simp); have z0 := (blk_cell fb 0).trans rfl; have z1 := (blk_cell fb 1).trans rfl; have z2 := blk_frozen fb 0; have z3 := blk_frozen fb 1) | (have fb := hm11.blk (blk_new _ (.cells #[.bool false, .slice none 0 0] 27)) (by simp); have z0 := (blk_cell fb 0).trans rfl; have z1 := (blk_cell fb 1).trans rfl; have z2 := blk_frozen fb 0; have z3 := blk_frozen fb 1) | skip)))
            all_goals
              go_wp2
              go_meet
              exact ⟨_, A11, n11, c11, rfl, by first | exact blk_new _ _ | exact box2_set _ _ (by assumption), by rw [HQ11.out]; exact HSP.out, by assumption⟩
          case rest =>
            obtain ⟨b14, A14, n14, c14, rfl, hb14, hn14, hm14⟩ := hcut
            have hb12 := hm14.blk bx12' (by simp)
            have hr39 := hm14.reads hr38 (by simp)
            have d0 := (blk_cell hb12 0).trans rfl
            have d1 := (blk_cell hb12 1).trans rfl
            have d2 := (blk_cell hb14 0).trans rfl
            have d3 := (blk_cell hb14 1).trans rfl
            have E0 : ∀ w', Mod [] wc w' → w'.cell? ⟨b12, 0, none⟩ = some (.bool false) := fun w' h => h.cell d0 (by simp)
            have E1 : ∀ w', Mod [] wc w' → w'.cell? ⟨b12, 1, none⟩ = some (.slice A3 n3 c3) := fun w' h => h.cell d1 (by simp)
            have E2 : ∀ w', Mod [] wc w' → w'.cell? ⟨b14, 0, none⟩ = some (.bool false) := fun w' h => h.cell d2 (by simp)
            have E3 : ∀ w', Mod [] wc w' → w'.cell? ⟨b14, 1, none⟩ = some (.slice A14 n14 c14) := fun w' h => h.cell d3 (by simp)
            have hn14' : (0 : Int) < (n14 : Int) := by omega
            have hL0 : (0 : Int) ≤ (L : Int) := by omega
            have hs0 : (0 : Int) ≤ (s : Int) := by omega
            have hsum2 : sumN false (s * s) false L = (false, N) := by
              unfold sumN
              rw [if_pos rfl, HLS.out]
            have hS2 := fun w' A n c (hr : ReadsInt w' .i64 A n (D L)) (hm : Mod [] wc w') (hn : n ≤ 5000) => sum_any false false A3 A n3 c3 n c (s * s) L w' (hm.reads hr39 (by simp)) hr (by omega) hn
            rw [hsum2] at hS2
            have hsm : sameN false N false N = true := by rw [same_sv]; simp
            have hSm := fun w' A n c A' n' c' (hr : ReadsInt w' .i64 A n (D N)) (hr' : ReadsInt w' .i64 A' n' (D N)) h1 h2 h3 h4 => same_any false false A A' n c n' c' N N w' hr hr' h1 h2 h3 h4
            rw [hsm] at hSm
            have hlL := D_len20 (x := L) (by omega)
            have HMC := Lib.hid (HM8.out.trans0 hm14)
            clear d0 d1 d2 d3 hb12 hb14 hm14 hsum2 hsm hS HSP D0 D1 bx12' bx13 hr38 hr78
            go_upto_region 20 with fail
            go_region_held3 (fun w' => Mod [] wc w') (first | exact (Mod.refl [] wc).drew | exact Mod.refl [] wc | assumption | exact Mod.trans0 (by assumption) (by assumption))
              (first
                | (go_at_call_of 14 (Value.int .i64 (L : Int)); refine (of_nat L _ hL2).mono ?_; rintro e w15 ⟨A15, n15, c15, rfl, hn15, hm15, hr15⟩; have hq15 : n15 ≤ 5000 := (by rw [← hr15.1]; omega); have q15 : Mod [] wc w15 := Mod.trans0 (by first | assumption | exact (Mod.refl [] wc).drew) hm15)
                | (go_at_call 16; refine (hS2 _ A15 n15 c15 hr15 (by assumption) hq15).mono ?_; rintro e w16 ⟨A16, n16, c16, rfl, hn16, hm16, hr16⟩; have hq16 : n16 ≤ 5000 := (by rw [← hr16.1]; omega); have q16 : Mod [] wc w16 := Mod.trans0 (by assumption) hm16)
                | (go_at_call_of 14 (Value.int .i64 (N : Int)); refine (of_nat N _ hN2).mono ?_; rintro e w17 ⟨A17, n17, c17, rfl, hn17, hm17, hr17⟩; have hq17 : n17 ≤ 5000 := (by rw [← hr17.1]; omega); have hr167 := hm17.reads hr16 (by simp); have q17 : Mod [] wc w17 := Mod.trans0 (by assumption) hm17)
                | (go_at_call 15; refine (hSm _ A16 n16 c16 A17 n17 c17 hr167 hr17 hq16 hq17 hn16 hn17).mono ?_; rintro e w18 ⟨rfl, hm18⟩; have q18 : Mod [] wc w18 := Mod.trans0 (by assumption) hm18)
                | (go_at_call 13; refine (lives_any _).mono ?_; rintro e w19 ⟨rfl, hm19⟩; have q19 : Mod [] wc w19 := Mod.trans0 (by assumption) hm19))
            have q9 : Mod [] wc w19 := by assumption
            go_wp2
            go_ret
            exact ⟨rfl, HMC.out.trans0 q9⟩
theorem powers_walk (a n : Int) (w : World) (ha : (Lit.int .i64 a).wf = true) (hn : (Lit.int .i64 n).wf = true) :
    Calls Try.prog 7 #[.int .i64 a, .int .i64 n] w fun e w' => e = .returned (.bool true) ∧ Mod [] w w' := powers_any a n w (bounds_i64 ha) (bounds_i64 hn)
end Go.Proofs.Ytijhlofmangpgaa
