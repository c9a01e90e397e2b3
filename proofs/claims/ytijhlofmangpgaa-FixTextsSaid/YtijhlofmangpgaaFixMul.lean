/- The reference's numbers: turned, compared, multiplied. -/
import Derived.Test.YtijhlofmangpgaaFixAdd
set_option linter.unusedVariables false
set_option linter.unusedSimpArgs false
namespace Go.Proofs.Ytijhlofmangpgaa
open Go.RowKit Go.Proofs.YtijhlofmangpgaaW.PrintWords Go.Proofs.Ytijhlofmangpgaa.Dig
theorem trim_D (A : Option Addr) (n c x : Nat) (w : World) (hr : ReadsInt w .i64 A n (D x)) (hn : n ≤ 1000000) (hnc : n ≤ c) :
    Calls Try.prog 32 #[.slice A n c] w fun e w' => e = .returned (.slice A n c) ∧ w = w' :=
  (trim_any A n c (D x) w hr hn hnc (digs_D x)).mono fun e w' h => by
    obtain ⟨h1, h2, _⟩ := h
    rw [dv_D, Int.toNat_natCast, hr.1] at h1
    exact ⟨h1, h2⟩
theorem turned_any (b : Bool) (A : Option Addr) (n c x : Nat) (w : World) (hr : ReadsInt w .i64 A n (D x)) (hnc : n ≤ c) :
    Calls Try.prog 24 #[.agg #[.bool b, .slice A n c]] w (NumPost w (!b) x) := by
  have k1 := blk_old (blk_new w (Obj.cells #[.bool b, .slice A n c] 27)) (Obj.cells #[.bool false, .slice none 0 0] 27)
  have k2 := blk_new (w.alloc (Obj.cells #[.bool b, .slice A n c] 27)) (Obj.cells #[.bool false, .slice none 0 0] 27)
  have hm0 := ((Mod.refl [] w).alloc (Obj.cells #[.bool b, .slice A n c] 27)).alloc (Obj.cells #[.bool false, .slice none 0 0] 27)
  simp only [World.size_alloc] at k2
  have hr0 := hm0.reads hr (by simp)
  have hlt := fun a e h => reads_lt hr a e h
  go_enter Try.func24, Try.ntmps24
  go_wp2
  have k3 := blk_new (w.alloc (Obj.cells #[.bool b, .slice A n c] 27)) (Obj.cells #[.bool (!b), .slice A n c] 27)
  simp only [World.size_alloc] at k3
  refine bodyPost_ret (results_cell_row rfl _ _ (w.heap.size + 1) 27 #[.bool (!b), .slice A n c] (0, 0) _ rfl k3 Try.underlying27 rfl (by kernel_rfl)) rfl ?_
  have hm9 := ((Mod.refl [] w).alloc (Obj.cells #[.bool b, .slice A n c] 27)).alloc (Obj.cells #[.bool (!b), .slice A n c] 27)
  exact ⟨A, n, c, rfl, hnc, hm9, hm9.reads hr (by simp)⟩
def sameN (b1 : Bool) (x : Nat) (b2 : Bool) (y : Nat) : Bool := decide (x = y) && (decide (x = 0) || b1 == b2)
theorem two (w : World) (b1 b2 : Bool) (A1 A2 : Option Addr) (n1 c1 n2 c2 : Nat) :
    Mod [] w ((w.alloc (Obj.cells #[.bool b1, .slice A1 n1 c1] 27)).alloc (Obj.cells #[.bool b2, .slice A2 n2 c2] 27)) ∧
    ((w.alloc (Obj.cells #[.bool b1, .slice A1 n1 c1] 27)).alloc (Obj.cells #[.bool b2, .slice A2 n2 c2] 27)).heap[w.heap.size]? = some (.cells #[.bool b1, .slice A1 n1 c1] 27 (0, 0)) ∧
    ((w.alloc (Obj.cells #[.bool b1, .slice A1 n1 c1] 27)).alloc (Obj.cells #[.bool b2, .slice A2 n2 c2] 27)).heap[w.heap.size + 1]? = some (.cells #[.bool b2, .slice A2 n2 c2] 27 (0, 0)) := by
  refine ⟨((Mod.refl [] w).alloc _).alloc _, blk_old (blk_new w _) _, ?_⟩
  have := blk_new (w.alloc (Obj.cells #[.bool b1, .slice A1 n1 c1] 27)) (Obj.cells #[.bool b2, .slice A2 n2 c2] 27)
  simpa only [World.size_alloc] using this
set_option maxRecDepth 100000 in
set_option maxHeartbeats 1000000 in
theorem same_any (b1 b2 : Bool) (A1 A2 : Option Addr) (n1 c1 n2 c2 x y : Nat) (w : World) (hr : ReadsInt w .i64 A1 n1 (D x)) (hs : ReadsInt w .i64 A2 n2 (D y)) (hn : n1 ≤ 5000) (hm : n2 ≤ 5000) (hnc : n1 ≤ c1) (hmc : n2 ≤ c2) :
    Calls Try.prog 15 #[.agg #[.bool b1, .slice A1 n1 c1], .agg #[.bool b2, .slice A2 n2 c2]] w fun e w' => e = .returned (.bool (sameN b1 x b2 y)) ∧ Mod [] w w' := by
  obtain ⟨hm0, k1, k2⟩ := two w b1 b2 A1 A2 n1 c1 n2 c2
  have hr0 := hm0.reads hr (by simp)
  have hs0 := hm0.reads hs (by simp)
  have e1 := (blk_cell k1 0).trans (show _ = some (Value.bool b1) from rfl)
  have e2 := (blk_cell k1 1).trans (show _ = some (Value.slice A1 n1 c1) from rfl)
  have e3 := (blk_cell k2 0).trans (show _ = some (Value.bool b2) from rfl)
  have e4 := (blk_cell k2 1).trans (show _ = some (Value.slice A2 n2 c2) from rfl)
  obtain ⟨R, hR⟩ : ∃ R, sameN b1 x b2 y = R := ⟨_, rfl⟩
  rw [hR]
  have HR := Lib.hid hR
  have HL := Lib.hid hr.1
  clear hR
  go_enter Try.func15, Try.ntmps15
  go_wp2_with fail
  generalize (w.alloc _).alloc _ = W0 at *
  generalize w.heap.size = g at *
  have L2 : ∀ w', Mod [] W0 w' → w'.cell? ⟨g, 1, none⟩ = some (.slice A1 n1 c1) := fun w' h => h.cell e2 (by simp)
  have L4 : ∀ w', Mod [] W0 w' → w'.cell? ⟨g + 1, 1, none⟩ = some (.slice A2 n2 c2) := fun w' h => h.cell e4 (by simp)
  go_region_held3 (fun w' => Mod [] W0 w') (first | exact (Mod.refl [] W0).drew | exact (by assumption))
    (first
      | (go_at_call_of 32 (Value.slice A1 n1 c1); refine (trim_D A1 n1 c1 x _ (Mod.reads (S := []) (by assumption) hr0 (by simp)) (by omega) hnc).mono ?_; rintro e w1 ⟨rfl, rfl⟩)
      | (go_at_call_of 32 (Value.slice A2 n2 c2); refine (trim_D A2 n2 c2 y _ (Mod.reads (S := []) (by assumption) hs0 (by simp)) (by omega) hmc).mono ?_; rintro e w1 ⟨rfl, rfl⟩))
  have hmd := (Mod.refl [] W0).drew
  have hr1 := hmd.reads hr0 (by simp)
  have hs1 := hmd.reads hs0 (by simp)
  have f1 := hmd.cell e1 (by simp)
  have f3 := hmd.cell e3 (by simp)
  have HM := Lib.hid (hm0.trans0 hmd)
  clear L2 L4 e1 e2 e3 e4 k1 k2 hm0 hmd hr0 hs0
  generalize W0.drew = W1 at *
  have hcmp := cmp_any A1 A2 n1 c1 n2 c2 x y W1 hr1 hs1 (by omega) (by omega)
  by_cases hxy : x = y
  · have hK : (cmpN x y == 0) = true := by unfold cmpN; rw [if_neg (by omega), if_neg (by omega)]; rfl
    by_cases h0 : x = 0
    · have hn0 : n1 = 0 := by rw [← HL.out, h0, D_zero]; rfl
      have HF := Lib.hid (show R = true by rw [← HR.out]; unfold sameN; simp [show y = 0 by omega, h0])
      generalize cmpN x y = K at *
      subst hn0
      go_wp2_with fail
      refine hcmp.mono ?_
      rintro e W2 ⟨rfl, hm2⟩
      have g1 := hm2.cell f1 (by simp)
      have g3 := hm2.cell f3 (by simp)
      go_wp2
      go_ret
      exact ⟨by rw [HF.out]; rfl, HM.out.trans0 hm2⟩
    · have hn0 : (n1 == 0) = false := by
        have : D x ≠ [] := by rw [D_pos h0]; simp
        have h2 : (D x).length ≠ 0 := fun h => this (List.eq_nil_of_length_eq_zero h)
        have := HL.out
        simp; omega
      have HF := Lib.hid (show R = (b1 == b2) by rw [← HR.out]; unfold sameN; simp [show ¬ y = 0 by omega, hxy])
      generalize cmpN x y = K at *
      have hn0' : 0 < n1 := by simp at hn0; omega
      have hn0c : ((n1 : Int) == 0) = false := by simp; omega
      go_wp2_with fail
      refine hcmp.mono ?_
      rintro e W2 ⟨rfl, hm2⟩
      have g1 := hm2.cell f1 (by simp)
      have g3 := hm2.cell f3 (by simp)
      go_wp2
      go_ret
      exact ⟨by rw [HF.out]; rfl, HM.out.trans0 hm2⟩
  · have hK : (cmpN x y == 0) = false := by unfold cmpN; split; rfl; split; rfl; omega
    have HF := Lib.hid (show R = false by rw [← HR.out]; unfold sameN; simp [hxy])
    generalize cmpN x y = K at *
    go_wp2_with fail
    refine hcmp.mono ?_
    rintro e W2 ⟨rfl, hm2⟩
    go_wp2
    go_ret
    exact ⟨by rw [HF.out]; rfl, HM.out.trans0 hm2⟩
theorem dv_drop_lt {ds : List Int} (h : digs ds) (k : Nat) : dv (ds.drop k) < 10 ^ ds.length := by
  have h1 := dv_lt (digs_drop h k)
  have h2 : (10 : Int) ^ (ds.drop k).length ≤ 10 ^ ds.length := by
    have : (10 : Nat) ^ (ds.drop k).length ≤ 10 ^ ds.length := Nat.pow_le_pow_right (by decide) (by rw [List.length_drop]; omega)
    exact_mod_cast this
  omega
theorem prod_vals {x y n1 n2 : Nat} (hl1 : (D x).length = n1) (hl2 : (D y).length = n2) (hn : n1 ≤ 100) (hm : n2 ≤ 100) :
    ∃ pv dg : Nat → Nat, pv 0 = x ∧ pv n1 = 0 ∧ (∀ k, pv k = dg k + 10 * pv (k + 1)) ∧ (∀ k, dg k ≤ 9) ∧ (∀ k s, s ≤ pv k * y → (D s).length ≤ 200) ∧ ∀ k : Nat, rd (D x) (k : Int) = (dg k : Int) := by
  refine ⟨fun k => (dv ((D x).drop k)).toNat, fun k => ((D x).getD k 0).toNat, by simp only []; rw [List.drop_zero, dv_D]; omega, by simp only []; rw [List.drop_of_length_le (by omega)]; rfl, fun k => ?_, fun k => ?_, fun k s hs' => ?_, fun k => ?_⟩
  · have h1 := dv_drop (D x) k
    have h2 := dv_nonneg (digs_drop (digs_D x) (k + 1))
    have h4 := digs_getD (digs_D x) k
    simp only []
    omega
  · have h4 := digs_getD (digs_D x) k
    simp only []
    omega
  · have h1 : (dv ((D x).drop k)).toNat < 10 ^ 100 := by
      have h5 := dv_drop_lt (digs_D x) k
      rw [hl1] at h5
      have h6 : (10 : Int) ^ n1 ≤ 10 ^ 100 := by
        have : (10 : Nat) ^ n1 ≤ 10 ^ 100 := Nat.pow_le_pow_right (by decide) hn
        exact_mod_cast this
      have h8 : ((10 ^ 100 : Nat) : Int) = 10 ^ 100 := by norm_cast
      omega
    have h2 : y < 10 ^ 100 := by
      have h5 := dv_lt (digs_D y)
      rw [hl2, dv_D] at h5
      have h6 : (10 : Int) ^ n2 ≤ 10 ^ 100 := by
        have : (10 : Nat) ^ n2 ≤ 10 ^ 100 := Nat.pow_le_pow_right (by decide) hm
        exact_mod_cast this
      have h8 : ((10 ^ 100 : Nat) : Int) = 10 ^ 100 := by norm_cast
      omega
    refine D_len_lt (Nat.lt_of_le_of_lt hs' ?_)
    rw [show (200 : Nat) = 100 + 100 from rfl, Nat.pow_add]
    exact Nat.mul_lt_mul'' h1 h2
  · have h4 := digs_getD (digs_D x) k
    show (D x).getD k 0 = (((D x).getD k 0).toNat : Int)
    omega
def RowAt (W0 wr : World) (s : Nat) (v : Value) : Prop := ∃ A n c, v = .slice A n c ∧ n ≤ c ∧ Mod [] W0 wr ∧ ReadsInt wr .i64 A n (D s) ∧ ∀ a, A = some a → W0.heap.size ≤ a.block
set_option maxRecDepth 100000 in
set_option maxHeartbeats 1000000 in
theorem product_any (b1 b2 : Bool) (A1 A2 : Option Addr) (n1 c1 n2 c2 x y : Nat) (w : World) (hr : ReadsInt w .i64 A1 n1 (D x)) (hs : ReadsInt w .i64 A2 n2 (D y)) (hn : n1 ≤ 100) (hm : n2 ≤ 100) :
    Calls Try.prog 17 #[.agg #[.bool b1, .slice A1 n1 c1], .agg #[.bool b2, .slice A2 n2 c2]] w (NumPost w (b1 != b2) (x * y)) := by
  have h3 := three w b1 b2 A1 A2 n1 c1 n2 c2
  obtain ⟨pv, dg, p0, p1, p2, p3, p4, p5⟩ := prod_vals hr.1 hs.1 hn hm
  have q0 : IntKind.i64.wrap ((n1 : Int) - 1) = (n1 : Int) - 1 := IntWalk.i64_in _ (by omega)
  have P0 := Lib.hid p0
  have P1 := Lib.hid p1
  have P2 := Lib.hid p2
  have P3 := Lib.hid p3
  have P4 := Lib.hid p4
  have P5 := Lib.hid p5
  have hlD := Lib.hid hs.1
  rw [← p0]
  clear p0 p1 p2 p3 p4 p5
  have HD := Lib.hid (digs_D y)
  have HV := Lib.hid (dv_D y)
  go_enter Try.func17, Try.ntmps17
  go_wp2_with fail
  generalize ((w.alloc _).alloc _).alloc _ = W0 at *
  obtain ⟨g, hg⟩ : ∃ g, w.heap.size = g := ⟨_, rfl⟩
  rw [hg] at h3 ⊢
  have hr0 := h3.mod.reads hr (by simp)
  have hs0 := h3.mod.reads hs (by simp)
  have hsz := blk_lt h3.k3
  have e1 : W0.cell? ⟨g, 0, none⟩ = some (.bool b1) := (blk_cell h3.k1 0).trans rfl
  have e2 : W0.cell? ⟨g, 1, none⟩ = some (.slice A1 n1 c1) := (blk_cell h3.k1 1).trans rfl
  have e3 : W0.cell? ⟨g + 1, 0, none⟩ = some (.bool b2) := (blk_cell h3.k2 0).trans rfl
  have e4 : W0.cell? ⟨g + 1, 1, none⟩ = some (.slice A2 n2 c2) := (blk_cell h3.k2 1).trans rfl
  go_wp2_with fail
  go_loopw [5, 6] (fun v i wr => ∃ k : Nat, k ≤ n1 ∧ i = .int .i64 ((k : Int) - 1) ∧ RowAt W0 wr (pv k * y) v) (fun _ i _ => (intOf i + 1).toNat)
  case atStart => exact ⟨n1, by omega, rfl, none, 0, 0, rfl, by omega, Mod.refl _ _, by rw [P1.out, Nat.zero_mul, D_zero]; exact reads_nil _ _, by simp⟩
  case round =>
    obtain ⟨k, hk, rfl, A, n, c, rfl, hnc, hmr, hrr, hA⟩ := hrel
    have f1 := hmr.cell e1 (by simp)
    have f2 := hmr.cell e2 (by simp)
    have f3 := hmr.cell e3 (by simp)
    have f4 := hmr.cell e4 (by simp)
    cases k with
    | zero =>
      have hk3 := hmr.blk h3.k3 (by simp)
      have HK := Lib.hid hk3
      have d1 := (blk_cell hk3 0).trans (show _ = some (Value.bool false) from rfl)
      have d2 := (blk_cell hk3 1).trans (show _ = some (Value.slice none 0 0) from rfl)
      have d3 := blk_frozen hk3 0
      have d4 := blk_frozen hk3 1
      go_wp2
      refine bodyPost_ret (results_cell_row rfl _ _ (g + 1 + 1) 27 #[.bool (b1 != b2), .slice A n c] (0, 0) _ rfl (blk_put (blk_put HK.out 0 _ rfl) 1 _ rfl) Try.underlying27 rfl (by kernel_rfl)) rfl ?_
      exact num_end h3.mod (by omega) hmr hrr hnc (fun a e h => by have := hA a e; omega)
    | succ k =>
      have e5 : ((k + 1 : Nat) : Int) - 1 = (k : Int) := by omega
      rw [e5]
      have hsl := P4.out (k + 1) _ (Nat.le_refl _)
      rw [hrr.1] at hsl
      obtain ⟨s, hsv⟩ : ∃ s, pv (k + 1) * y = s := ⟨_, rfl⟩
      rw [hsv] at hrr
      have HSV := Lib.hid hsv
      have hz := hmr.size
      have qk : IntKind.i64.wrap ((k : Int) - 1) = (k : Int) - 1 := IntWalk.i64_in _ (by omega)
      have hdgl := P3.out k
      clear hsv
      obtain ⟨wo, rfl⟩ : ∃ wo : World, wo = wr := ⟨_, rfl⟩
      go_wp2_with (first
        | (at_builtin; refine append_one (S := []) (a0 := wo) wo.heap.size rfl (.tmp 17) (.tmp 18) 25 3 .i64 8 rfl Try.underlying25 info3 (by decide) _ [] _ rfl rfl (own_nil _ _ _ _) (Mod.refl [] wo) (Nat.le_refl _) (Nat.le_refl _) (by decide) ?_; intro v1 w1 hown1 hm1 hg1 hat1; clear hg1 hat1; have hz1 := hm1.size; have hrr1 := hm1.reads hrr (by simp))
        | (at_builtin; refine append_row (S := []) (a0 := wo) wo.heap.size rfl (.tmp 20) (.tmp 21) 25 3 .i64 8 rfl Try.underlying25 info3 (by decide) _ ([] ++ [0]) (D s) A n c rfl rfl hown1 hrr1 hm1 (Nat.le_refl _) hz1 (by simp; omega) ?_; intro v2 w2 hown2 hm2 hg2 hat2; clear hg2 hat2 hrr1 hown1; obtain ⟨A3, c3, rfl, hc3, hr3, hA3⟩ := own_form hown2))
      have hl3 : ([] ++ [0] ++ D s).length = (D s).length + 1 := by simp
      rw [hl3] at hr3 hc3 hown2
      have hdd : digs ([] ++ [0] ++ D s) := by
        have := digs_D s
        intro d hd
        simp only [List.nil_append, List.cons_append, List.mem_cons] at hd
        rcases hd with rfl | hd
        · omega
        · exact this d hd
      have hdv : (dv ([] ++ [0] ++ D s)).toNat = 10 * s := by
        simp only [List.nil_append, List.cons_append, dv, dv_D]; omega
      have hT := trim_any A3 ((D s).length + 1) c3 ([] ++ [0] ++ D s) w2 hr3 (by have := hrr.1; omega) hc3 hdd
      have HDV := Lib.hid hdv
      refine hT.mono ?_
      rintro e w3 ⟨h2, rfl, h4, h5⟩
      rw [HDV.out] at h2 h4 h5
      subst h2
      clear hT hown2 hr3 hdv hdd hl3
      have hm02 := hmr.trans0 hm2
      have hstart : RowAt W0 w2 (10 * s) (.slice A3 (D (10 * s)).length c3) := ⟨A3, _, c3, rfl, by omega, hm02, h5, fun a e => by have := (hA3 a e).1; omega⟩
      have HST := Lib.hid hstart
      have hub : ∀ j, j ≤ dg k → (D (10 * s + j * y)).length ≤ 200 := fun j hj => P4.out k _ (by
        rw [P2.out k, ← HSV.out, Nat.add_mul, Nat.mul_assoc]
        have := Nat.mul_le_mul_right y hj
        omega)
      have HUB := Lib.hid hub
      have HKK := Lib.hid (show 10 * s + dg k * y = pv k * y by rw [P2.out k, ← HSV.out, Nat.add_mul, Nat.mul_assoc]; omega)
      have hHR := Lib.hid hr0
      have hHS := Lib.hid hs0
      have hkd := P5.out k
      generalize dg k = dk at *
      clear hstart hub hr0 hs0 f1 f2 f3 f4 hrr h4 h5 hA hA3
      go_wp2_with fail
      go_loopw [5, 8] (fun v i wr => ∃ j : Nat, j ≤ dk ∧ i = .int .i64 j ∧ RowAt W0 wr (10 * s + j * y) v) (fun _ i _ => dk - (intOf i).toNat)
      case atStart => exact ⟨0, by omega, rfl, by simpa using HST.out⟩
      case round =>
        obtain ⟨j, hj, rfl, A5, n5, c5, rfl, hnc5, hmr5, hrr5, hA5⟩ := hrel
        have f1 := hmr5.cell e1 (by simp)
        have f2 := hmr5.cell e2 (by simp)
        have f3 := hmr5.cell e3 (by simp)
        have f4 := hmr5.cell e4 (by simp)
        obtain ⟨a, rfl, hc⟩ := (hmr5.reads hHR.out (by simp)).at_ k (by omega) (by omega)
        rw [Int.toNat_natCast, hkd] at hc
        have hn5 := HUB.out j hj
        rw [hrr5.1] at hn5
        by_cases hlt : j < dk
        · have hp := plus_any A5 A2 n5 c5 n2 c2 (D (10 * s + j * y)) (D y) wr hrr5 (hmr5.reads hHS.out (by simp)) (by omega) (by omega) (digs_D _) HD.out
          rw [dv_D, HV.out, show (((10 * s + j * y : Nat) : Int) + (y : Int)).toNat = 10 * s + (j + 1) * y by rw [Nat.add_mul]; omega] at hp
          have hz5 := hmr5.size
          have HA5 := Lib.hid hA5
          clear hA5 hrr5
          go_wp2_with fail
          refine hp.mono ?_
          rintro e w6 ⟨A6, n6, c6, rfl, hnc6, hm6, hr6, hA6⟩
          have HRW := Lib.hid (show RowAt W0 w6 (10 * s + (j + 1) * y) (.slice A6 n6 c6) from ⟨A6, n6, c6, rfl, hnc6, hmr5.trans0 hm6, hr6, fun a e => by have := hA6 a e; omega⟩)
          clear hp hr6 hA6
          go_wp2
          go_roundw
          case rel =>
            first
              | exact ⟨j + 1, by omega, by go_num, HRW.out⟩
              | trace_state
          case measure => simp [intOf]; omega
        · have hjd : j = dk := by omega
          have HRW := Lib.hid (show RowAt W0 wr (10 * s + dk * y) (.slice A5 n5 c5) from ⟨A5, n5, c5, rfl, hnc5, hmr5, by rw [← hjd]; exact hrr5, hA5⟩)
          clear hrr5 hA5
          go_wp2
          go_roundw
          case rel =>
            refine ⟨k, by omega, by go_num, ?_⟩
            rw [← HKK.out]; exact HRW.out
          case measure => simp [intOf]
end Go.Proofs.Ytijhlofmangpgaa
