/- The reference's numbers: added, turned, compared, multiplied. -/
import Derived.Test.YtijhlofmangpgaaFixOf
import Derived.Deep.RegionHeld3
set_option linter.unusedVariables false
set_option linter.unusedSimpArgs false
namespace Go.Proofs.Ytijhlofmangpgaa
open Go.RowKit Go.Proofs.YtijhlofmangpgaaW.PrintWords Go.Proofs.Ytijhlofmangpgaa.Dig
def sumN (b1 : Bool) (x : Nat) (b2 : Bool) (y : Nat) : Bool × Nat := if b1 = b2 then (b1, x + y) else if y ≤ x then (b1, x - y) else (b2, y - x)
def NumV (b : Bool) (A : Option Addr) (n c : Nat) : Value := .agg #[.bool b, .slice A n c]
/-- Behind the making of a sum's room: two numbers and the room for the answer. -/
structure Three (w W0 : World) (g : Nat) (b1 b2 : Bool) (A1 A2 : Option Addr) (n1 c1 n2 c2 : Nat) : Prop where
  mod : Mod [] w W0
  at_ : w.heap.size = g
  k1 : W0.heap[g]? = some (.cells #[.bool b1, .slice A1 n1 c1] 27 (0, 0))
  k2 : W0.heap[g + 1]? = some (.cells #[.bool b2, .slice A2 n2 c2] 27 (0, 0))
  k3 : W0.heap[g + 1 + 1]? = some (.cells #[.bool false, .slice none 0 0] 27 (0, 0))
theorem three (w : World) (b1 b2 : Bool) (A1 A2 : Option Addr) (n1 c1 n2 c2 : Nat) :
    Three w (((w.alloc (Obj.cells #[.bool b1, .slice A1 n1 c1] 27)).alloc (Obj.cells #[.bool b2, .slice A2 n2 c2] 27)).alloc (Obj.cells #[.bool false, .slice none 0 0] 27)) w.heap.size b1 b2 A1 A2 n1 c1 n2 c2 := by
  refine ⟨(((Mod.refl [] w).alloc _).alloc _).alloc _, rfl, blk_old (blk_old (blk_new w _) _) _, ?_, ?_⟩
  · have := blk_old (blk_new (w.alloc (Obj.cells #[.bool b1, .slice A1 n1 c1] 27)) (Obj.cells #[.bool b2, .slice A2 n2 c2] 27)) (Obj.cells #[.bool false, .slice none 0 0] 27)
    simpa only [World.size_alloc] using this
  · have := blk_new ((w.alloc (Obj.cells #[.bool b1, .slice A1 n1 c1] 27)).alloc (Obj.cells #[.bool b2, .slice A2 n2 c2] 27)) (Obj.cells #[.bool false, .slice none 0 0] 27)
    simpa only [World.size_alloc] using this
theorem num_end {w W0 w1 : World} {g : Nat} {b : Bool} {A : Option Addr} {n c x : Nat} (hm0 : Mod [] w W0) (hg : w.heap.size ≤ g) (hm1 : Mod [] W0 w1) (hr1 : ReadsInt w1 .i64 A n (D x)) (hnc : n ≤ c) (hA : ∀ a, A = some a → 0 < n → a.block ≠ g) :
    NumPost w b x (.returned (.agg #[.bool b, .slice A n c])) ((w1.setCell ⟨g, 0, none⟩ (.bool b)).setCell ⟨g, 1, none⟩ (.slice A n c)) := by
  have hm2 : Mod [g] w1 ((w1.setCell ⟨g, 0, none⟩ (.bool b)).setCell ⟨g, 1, none⟩ (.slice A n c)) := ((Mod.refl [g] w1).setCell (p := ⟨g, 0, none⟩) (by simp) _).setCell (p := ⟨g, 1, none⟩) (by simp) _
  exact ⟨A, n, c, rfl, hnc, (hm0.trans0 hm1).trans hm2 (by simp [hg]), hm2.reads hr1 (fun a e h => by simpa using hA a e h)⟩
set_option maxRecDepth 100000 in
set_option maxHeartbeats 1000000 in
theorem sum_any (b1 b2 : Bool) (A1 A2 : Option Addr) (n1 c1 n2 c2 x y : Nat) (w : World) (hr : ReadsInt w .i64 A1 n1 (D x)) (hs : ReadsInt w .i64 A2 n2 (D y)) (hn : n1 ≤ 5000) (hm : n2 ≤ 5000) :
    Calls Try.prog 16 #[.agg #[.bool b1, .slice A1 n1 c1], .agg #[.bool b2, .slice A2 n2 c2]] w (NumPost w (sumN b1 x b2 y).1 (sumN b1 x b2 y).2) := by
  have h3 := three w b1 b2 A1 A2 n1 c1 n2 c2
  by_cases hb : b1 = b2
  · subst hb
    rw [show sumN b1 x b1 y = (b1, x + y) by unfold sumN; rw [if_pos rfl]]
    go_enter Try.func16, Try.ntmps16
    go_wp2_with fail
    generalize ((w.alloc _).alloc _).alloc _ = W0 at *
    obtain ⟨g, hg⟩ : ∃ g, w.heap.size = g := ⟨_, rfl⟩
    rw [hg] at h3 ⊢
    have hr0 := h3.mod.reads hr (by simp)
    have hs0 := h3.mod.reads hs (by simp)
    have hsz := blk_lt h3.k3
    have e1 : W0.cell? ⟨g, 0, none⟩ = some (.bool b1) := (blk_cell h3.k1 0).trans rfl
    have e2 : W0.cell? ⟨g, 1, none⟩ = some (.slice A1 n1 c1) := (blk_cell h3.k1 1).trans rfl
    have e4 : W0.cell? ⟨g + 1, 1, none⟩ = some (.slice A2 n2 c2) := (blk_cell h3.k2 1).trans rfl
    have HP := Lib.hid (fun w' h1 h2 => plus_any A1 A2 n1 c1 n2 c2 (D x) (D y) w' h1 h2 (by omega) (by omega) (digs_D x) (digs_D y))
    rw [dv_D, dv_D, show ((x : Int) + (y : Int)).toNat = x + y by omega] at HP
    have L1 : ∀ w', Mod [g + 1 + 1] W0 w' → w'.cell? ⟨g, 0, none⟩ = some (.bool b1) := fun w' h => h.cell e1 (by simp; omega)
    have L2 : ∀ w', Mod [g + 1 + 1] W0 w' → w'.cell? ⟨g, 1, none⟩ = some (.slice A1 n1 c1) := fun w' h => h.cell e2 (by simp; omega)
    have L4 : ∀ w', Mod [g + 1 + 1] W0 w' → w'.cell? ⟨g + 1, 1, none⟩ = some (.slice A2 n2 c2) := fun w' h => h.cell e4 (by simp)
    go_region_held3 (fun w' => Mod [g + 1 + 1] W0 w') (first | exact (Mod.refl [g + 1 + 1] W0).drew | exact Mod.trans0 (by assumption) (by assumption) | exact (by assumption) | exact ((by assumption : Mod [g + 1 + 1] W0 _).setCell (by simp) _).setCell (by simp) _)
        ((go_at_call 34; refine (HP.out _ (Mod.reads (S := []) ?_ hr0 (by simp)) (Mod.reads (S := []) ?_ hs0 (by simp))).mono ?_; exact (Mod.refl [] W0).drew; exact (Mod.refl [] W0).drew; rintro e w1 ⟨A, n, c, rfl, hnc, hm1, hr9, hA1⟩; have hk3 := (((Mod.refl [] W0).drew).trans0 hm1).blk h3.k3 (by simp); have f1 := (blk_cell hk3 0).trans rfl; have f2 := (blk_cell hk3 1).trans rfl; have f3 := blk_frozen hk3 0; have f4 := blk_frozen hk3 1))
    go_wp2
    refine bodyPost_ret (results_cell_row rfl _ _ (g + 1 + 1) 27 #[.bool b1, .slice A n c] (0, 0) _ rfl (blk_put (blk_put hk3 0 _ rfl) 1 _ rfl) Try.underlying27 rfl (by kernel_rfl)) rfl ?_
    exact num_end h3.mod (by omega) (((Mod.refl [] W0).drew).trans0 hm1) hr9 hnc (fun a e h => by have := hA1 a e; have := hsz; simp only [World.size_drew] at *; omega)
  · rw [show sumN b1 x b2 y = if y ≤ x then (b1, x - y) else (b2, y - x) by unfold sumN; rw [if_neg hb]]
    have tb : (b1 == b2) = false := by simpa using hb
    obtain ⟨R, hR⟩ : ∃ R, (if y ≤ x then (b1, x - y) else (b2, y - x)) = R := ⟨_, rfl⟩
    rw [hR]
    have HR := Lib.hid hR
    clear hR
    go_enter Try.func16, Try.ntmps16
    go_wp2_with fail
    generalize ((w.alloc _).alloc _).alloc _ = W0 at *
    obtain ⟨g, hg⟩ : ∃ g, w.heap.size = g := ⟨_, rfl⟩
    rw [hg] at h3 ⊢
    have hr0 := h3.mod.reads hr (by simp)
    have hs0 := h3.mod.reads hs (by simp)
    have hsz := blk_lt h3.k3
    have e1 : W0.cell? ⟨g, 0, none⟩ = some (.bool b1) := (blk_cell h3.k1 0).trans rfl
    have e2 : W0.cell? ⟨g, 1, none⟩ = some (.slice A1 n1 c1) := (blk_cell h3.k1 1).trans rfl
    have e3 : W0.cell? ⟨g + 1, 0, none⟩ = some (.bool b2) := (blk_cell h3.k2 0).trans rfl
    have e4 : W0.cell? ⟨g + 1, 1, none⟩ = some (.slice A2 n2 c2) := (blk_cell h3.k2 1).trans rfl
    go_wp2_with fail
    refine (cmp_any A1 A2 n1 c1 n2 c2 x y W0 hr0 hs0 (by omega) (by omega)).mono ?_
    rintro e W1 ⟨rfl, hmc⟩
    have h4 : Three w W1 g b1 b2 A1 A2 n1 c1 n2 c2 := ⟨h3.mod.trans0 hmc, h3.at_, hmc.blk h3.k1 (by simp), hmc.blk h3.k2 (by simp), hmc.blk h3.k3 (by simp)⟩
    have hr1 := hmc.reads hr0 (by simp)
    have hs1 := hmc.reads hs0 (by simp)
    clear h3 e1 e2 e3 e4 hr0 hs0 hsz hmc W0
    have h3 := h4
    clear h4
    have hsz := blk_lt h3.k3
    have e1 : W1.cell? ⟨g, 0, none⟩ = some (.bool b1) := (blk_cell h3.k1 0).trans rfl
    have e2 : W1.cell? ⟨g, 1, none⟩ = some (.slice A1 n1 c1) := (blk_cell h3.k1 1).trans rfl
    have e3 : W1.cell? ⟨g + 1, 0, none⟩ = some (.bool b2) := (blk_cell h3.k2 0).trans rfl
    have e4 : W1.cell? ⟨g + 1, 1, none⟩ = some (.slice A2 n2 c2) := (blk_cell h3.k2 1).trans rfl
    have L1 : ∀ w', Mod [g + 1 + 1] W1 w' → w'.cell? ⟨g, 0, none⟩ = some (.bool b1) := fun w' h => h.cell e1 (by simp; omega)
    have L2 : ∀ w', Mod [g + 1 + 1] W1 w' → w'.cell? ⟨g, 1, none⟩ = some (.slice A1 n1 c1) := fun w' h => h.cell e2 (by simp; omega)
    have L3 : ∀ w', Mod [g + 1 + 1] W1 w' → w'.cell? ⟨g + 1, 0, none⟩ = some (.bool b2) := fun w' h => h.cell e3 (by simp)
    have L4 : ∀ w', Mod [g + 1 + 1] W1 w' → w'.cell? ⟨g + 1, 1, none⟩ = some (.slice A2 n2 c2) := fun w' h => h.cell e4 (by simp)
    by_cases hyx : y ≤ x
    · have hK : 0 ≤ cmpN x y := by unfold cmpN; split <;> (try split) <;> omega
      have HF := Lib.hid (show R = (b1, x - y) by rw [← HR.out, if_pos hyx])
      have HP := Lib.hid (fun w' h1 h2 => minus_any A1 A2 n1 c1 n2 c2 x y w' h1 h2 (by omega) hyx)
      generalize cmpN x y = K at *
      go_upto_region 4 with fail
      go_region_held3 (fun w' => Mod [g + 1 + 1] W1 w') (first | exact (Mod.refl [g + 1 + 1] W1).drew | exact Mod.trans0 (by assumption) (by assumption) | exact (by assumption) | exact ((by assumption : Mod [g + 1 + 1] W1 _).setCell (by simp) _).setCell (by simp) _)
        ((go_at_call 35; refine (HP.out _ (Mod.reads (S := []) ?_ hr1 (by simp)) (Mod.reads (S := []) ?_ hs1 (by simp))).mono ?_; exact (Mod.refl [] W1).drew; exact (Mod.refl [] W1).drew; rintro e w1 ⟨A, n, c, rfl, hnc, hm1, hr9, hA1⟩; have hk3 := (((Mod.refl [] W1).drew).trans0 hm1).blk h3.k3 (by simp); have f1 := (blk_cell hk3 0).trans rfl; have f2 := (blk_cell hk3 1).trans rfl; have f3 := blk_frozen hk3 0; have f4 := blk_frozen hk3 1))
      go_wp2
      rw [HF.out]
      refine bodyPost_ret (results_cell_row rfl _ _ (g + 1 + 1) 27 #[.bool b1, .slice A n c] (0, 0) _ rfl (blk_put (blk_put hk3 0 _ rfl) 1 _ rfl) Try.underlying27 rfl (by kernel_rfl)) rfl ?_
      exact num_end h3.mod (by omega) (((Mod.refl [] W1).drew).trans0 hm1) hr9 hnc (fun a e h => by have := hA1 a e; have := hsz; simp only [World.size_drew] at *; omega)
    · have hK : ¬ 0 ≤ cmpN x y := by unfold cmpN; rw [if_pos (by omega)]; omega
      have HF := Lib.hid (show R = (b2, y - x) by rw [← HR.out, if_neg hyx])
      have HP := Lib.hid (fun w' h1 h2 => minus_any A2 A1 n2 c2 n1 c1 y x w' h1 h2 (by omega) (by omega))
      generalize cmpN x y = K at *
      go_upto_region 5 with fail
      go_region_held3 (fun w' => Mod [g + 1 + 1] W1 w') (first | exact (Mod.refl [g + 1 + 1] W1).drew | exact Mod.trans0 (by assumption) (by assumption) | exact (by assumption) | exact ((by assumption : Mod [g + 1 + 1] W1 _).setCell (by simp) _).setCell (by simp) _)
        ((go_at_call 35; refine (HP.out _ (Mod.reads (S := []) ?_ hs1 (by simp)) (Mod.reads (S := []) ?_ hr1 (by simp))).mono ?_; exact (Mod.refl [] W1).drew; exact (Mod.refl [] W1).drew; rintro e w1 ⟨A, n, c, rfl, hnc, hm1, hr9, hA1⟩; have hk3 := (((Mod.refl [] W1).drew).trans0 hm1).blk h3.k3 (by simp); have f1 := (blk_cell hk3 0).trans rfl; have f2 := (blk_cell hk3 1).trans rfl; have f3 := blk_frozen hk3 0; have f4 := blk_frozen hk3 1))
      go_wp2
      rw [HF.out]
      refine bodyPost_ret (results_cell_row rfl _ _ (g + 1 + 1) 27 #[.bool b2, .slice A n c] (0, 0) _ rfl (blk_put (blk_put hk3 0 _ rfl) 1 _ rfl) Try.underlying27 rfl (by kernel_rfl)) rfl ?_
      exact num_end h3.mod (by omega) (((Mod.refl [] W1).drew).trans0 hm1) hr9 hnc (fun a e h => by have := hA1 a e; have := hsz; simp only [World.size_drew] at *; omega)
end Go.Proofs.Ytijhlofmangpgaa
