/- What the document's Fuse and Start give; steps on both disks. -/
import Derived.Test.YtcohfbmfmlmblaaDkPair
set_option linter.unusedVariables false
set_option linter.unusedSimpArgs false
namespace Go.Proofs.Ytcohfbmfmlmblaa
open Go.RowKit Go.Proofs.YtcohfbmfmlmblaaW.PrintWords Go.Proofs.Ytcohfbmfmlmblaa.PDiskPlays Go.Proofs.YtcohfbmfmlmblaaW.PrintMore
theorem ref_fuse {w w1 : World} {g : Nat} {D X : DK} {x : Value} {B : Nat → Prop} (h : PS w w1 g D x X B) (q : Int) : Calls Try.prog 34 #[x, .int .i64 q] w1 fun e w' => ∃ x', e = .returned x' ∧ PS w w' g D x' (fuseD X q) B ∧ KeepB B w1 w' := by
  obtain ⟨fp, fq, a1, a2, a3, a4, a5, ⟨L, R, rfl, a7, a8⟩, a9⟩ := h
  obtain ⟨A, c, rfl, hc, _⟩ := Kd.R_reads a7
  obtain ⟨A', c', rfl, hc', _⟩ := Kd.R_reads a8
  obtain ⟨l, row, f, d, n⟩ := X
  dsimp only at *
  have k0 := blk_old (blk_new w1 (.cells #[.slice A l.length c, .slice A' (rows row).length c', .int .i64 f, .bool d, .int .i64 n] 49)) (.cells #[.slice none 0 0, .slice none 0 0, .int .i64 0, .bool false, .int .i64 0] 49)
  have k8 := blk_new (w1.alloc (.cells #[.slice A l.length c, .slice A' (rows row).length c', .int .i64 f, .bool d, .int .i64 n] 49)) (.cells #[.slice none 0 0, .slice none 0 0, .int .i64 0, .bool false, .int .i64 0] 49)
  have hm2 := ((Mod.refl [] w1).alloc (.cells #[.slice A l.length c, .slice A' (rows row).length c', .int .i64 f, .bool d, .int .i64 n] 49)).alloc (.cells #[.slice none 0 0, .slice none 0 0, .int .i64 0, .bool false, .int .i64 0] 49)
  rw [World.size_alloc] at k8
  obtain ⟨b, hb⟩ : ∃ b, w1.heap.size = b := ⟨_, rfl⟩
  rw [hb] at k0 k8
  have c0 := (blk_cell k0 0).trans rfl
  have c1 := (blk_cell k0 1).trans rfl
  have c2 := (blk_cell k0 2).trans rfl
  have c3 := (blk_cell k0 3).trans rfl
  have c4 := (blk_cell k0 4).trans rfl
  have f1 := blk_frozen k0 1
  have f2 := blk_frozen k0 2
  have f3 := blk_frozen k0 3
  have t0 := (blk_cell k8 0).trans rfl
  have t1 := (blk_cell k8 1).trans rfl
  have t2 := (blk_cell k8 2).trans rfl
  have t3 := (blk_cell k8 3).trans rfl
  have t4 := (blk_cell k8 4).trans rfl
  have g0 := blk_frozen k8 0
  have g1 := blk_frozen k8 1
  have g2 := blk_frozen k8 2
  have g3 := blk_frozen k8 3
  have g4 := blk_frozen k8 4
  have K8 := Lib.hid k8
  have HM2 := Lib.hid hm2
  have HB := Lib.hid hb
  generalize hw2 : (w1.alloc (.cells #[.slice A l.length c, .slice A' (rows row).length c', .int .i64 f, .bool d, .int .i64 n] 49)).alloc (.cells #[.slice none 0 0, .slice none 0 0, .int .i64 0, .bool false, .int .i64 0] 49) = w2 at *
  clear k0 k8 hm2
  show Calls Try.prog 34 _ w1 fun e w' => ∃ x', e = .returned x' ∧ PS w w' g D x' ⟨l, row, if q < 0 then -1 else q, d, n⟩ B ∧ KeepB B w1 w'
  by_cases q0 : q < 0
  · rw [if_pos q0]
    go_enter Try.func34, Try.ntmps34
    go_wp2
    have k0 : (w2.setCell ⟨b, 2, none⟩ (.int .i64 (-1))).heap[b + 1]? = some (.cells #[.slice none 0 0, .slice none 0 0, .int .i64 0, .bool false, .int .i64 0] 49 (0, 0)) := (Below.heap_setCell _ _ _ (b + 1) (by simp)).trans K8.out
    have k1 := blk_put k0 0 (.slice A l.length c) rfl
    have k2 := blk_put k1 1 (.slice A' (rows row).length c') rfl
    have k3 := blk_put k2 2 (.int .i64 (-1)) rfl
    have k4 := blk_put k3 3 (.bool d) rfl
    have k5 := blk_put k4 4 (.int .i64 n) rfl
    have hmm := Mod.setCell (p := ⟨b + 1, 4, none⟩) (Mod.setCell (p := ⟨b + 1, 3, none⟩) (Mod.setCell (p := ⟨b + 1, 2, none⟩) (Mod.setCell (p := ⟨b + 1, 1, none⟩) (Mod.setCell (p := ⟨b + 1, 0, none⟩) (Mod.setCell (p := ⟨b, 2, none⟩) (HM2.out) (.inr (by rw [HB.out]; exact Nat.le_refl _)) (.int .i64 (-1))) (.inr (by rw [HB.out]; exact Nat.le_succ _)) (.slice A l.length c)) (.inr (by rw [HB.out]; exact Nat.le_succ _)) (.slice A' (rows row).length c')) (.inr (by rw [HB.out]; exact Nat.le_succ _)) (.int .i64 (-1))) (.inr (by rw [HB.out]; exact Nat.le_succ _)) (.bool d)) (.inr (by rw [HB.out]; exact Nat.le_succ _)) (.int .i64 n)
    refine bodyPost_ret (results_cell_row rfl _ _ (b + 1) 49 #[.slice A l.length c, .slice A' (rows row).length c', .int .i64 (-1), .bool d, .int .i64 n] (0, 0) _ rfl k5 Try.underlying49 rfl (by kernel_rfl)) rfl ⟨_, rfl, ?_⟩
    exact PS.mod ⟨fp, fq, a1, a2, a3, a4, a5, ⟨_, _, rfl, a7, a8⟩, a9⟩ hmm
  · rw [if_neg q0]
    go_enter Try.func34, Try.ntmps34
    go_wp2
    have k0 : (w2.setCell ⟨b, 2, none⟩ (.int .i64 q)).heap[b + 1]? = some (.cells #[.slice none 0 0, .slice none 0 0, .int .i64 0, .bool false, .int .i64 0] 49 (0, 0)) := (Below.heap_setCell _ _ _ (b + 1) (by simp)).trans K8.out
    have k1 := blk_put k0 0 (.slice A l.length c) rfl
    have k2 := blk_put k1 1 (.slice A' (rows row).length c') rfl
    have k3 := blk_put k2 2 (.int .i64 q) rfl
    have k4 := blk_put k3 3 (.bool d) rfl
    have k5 := blk_put k4 4 (.int .i64 n) rfl
    have hmm := Mod.setCell (p := ⟨b + 1, 4, none⟩) (Mod.setCell (p := ⟨b + 1, 3, none⟩) (Mod.setCell (p := ⟨b + 1, 2, none⟩) (Mod.setCell (p := ⟨b + 1, 1, none⟩) (Mod.setCell (p := ⟨b + 1, 0, none⟩) (Mod.setCell (p := ⟨b, 2, none⟩) (HM2.out) (.inr (by rw [HB.out]; exact Nat.le_refl _)) (.int .i64 q)) (.inr (by rw [HB.out]; exact Nat.le_succ _)) (.slice A l.length c)) (.inr (by rw [HB.out]; exact Nat.le_succ _)) (.slice A' (rows row).length c')) (.inr (by rw [HB.out]; exact Nat.le_succ _)) (.int .i64 q)) (.inr (by rw [HB.out]; exact Nat.le_succ _)) (.bool d)) (.inr (by rw [HB.out]; exact Nat.le_succ _)) (.int .i64 n)
    refine bodyPost_ret (results_cell_row rfl _ _ (b + 1) 49 #[.slice A l.length c, .slice A' (rows row).length c', .int .i64 q, .bool d, .int .i64 n] (0, 0) _ rfl k5 Try.underlying49 rfl (by kernel_rfl)) rfl ⟨_, rfl, ?_⟩
    exact PS.mod ⟨fp, fq, a1, a2, a3, a4, a5, ⟨_, _, rfl, a7, a8⟩, a9⟩ hmm
theorem ref_start {w w1 : World} {g : Nat} {D X : DK} {x : Value} {B : Nat → Prop} (h : PS w w1 g D x X B) : Calls Try.prog 36 #[x] w1 fun e w' => ∃ x', e = .returned x' ∧ PS w w' g D x' (startD X) B ∧ KeepB B w1 w' := by
  obtain ⟨fp, fq, a1, a2, a3, a4, a5, ⟨L, R, rfl, a7, a8⟩, a9⟩ := h
  obtain ⟨A, c, rfl, hc, _⟩ := Kd.R_reads a7
  obtain ⟨A', c', rfl, hc', _⟩ := Kd.R_reads a8
  obtain ⟨l, row, f, d, n⟩ := X
  dsimp only at *
  cases d
  · show Calls Try.prog 36 _ w1 fun e w' => ∃ x', e = .returned x' ∧ PS w w' g D x' ⟨l, row, f, false, n⟩ B ∧ KeepB B w1 w'
    have k0 := blk_old (blk_new w1 (.cells #[.slice A l.length c, .slice A' (rows row).length c', .int .i64 f, .bool false, .int .i64 n] 49)) (.cells #[.slice none 0 0, .slice none 0 0, .int .i64 0, .bool false, .int .i64 0] 49)
    have k8 := blk_new (w1.alloc (.cells #[.slice A l.length c, .slice A' (rows row).length c', .int .i64 f, .bool false, .int .i64 n] 49)) (.cells #[.slice none 0 0, .slice none 0 0, .int .i64 0, .bool false, .int .i64 0] 49)
    have hm2 := ((Mod.refl [] w1).alloc (.cells #[.slice A l.length c, .slice A' (rows row).length c', .int .i64 f, .bool false, .int .i64 n] 49)).alloc (.cells #[.slice none 0 0, .slice none 0 0, .int .i64 0, .bool false, .int .i64 0] 49)
    rw [World.size_alloc] at k8
    obtain ⟨b, hb⟩ : ∃ b, w1.heap.size = b := ⟨_, rfl⟩
    rw [hb] at k0 k8
    have c0 := (blk_cell k0 0).trans rfl
    have c1 := (blk_cell k0 1).trans rfl
    have c2 := (blk_cell k0 2).trans rfl
    have c3 := (blk_cell k0 3).trans rfl
    have c4 := (blk_cell k0 4).trans rfl
    have f1 := blk_frozen k0 1
    have f2 := blk_frozen k0 2
    have f3 := blk_frozen k0 3
    have t0 := (blk_cell k8 0).trans rfl
    have t1 := (blk_cell k8 1).trans rfl
    have t2 := (blk_cell k8 2).trans rfl
    have t3 := (blk_cell k8 3).trans rfl
    have t4 := (blk_cell k8 4).trans rfl
    have g0 := blk_frozen k8 0
    have g1 := blk_frozen k8 1
    have g2 := blk_frozen k8 2
    have g3 := blk_frozen k8 3
    have g4 := blk_frozen k8 4
    have K8 := Lib.hid k8
    have HM2 := Lib.hid hm2
    have HB := Lib.hid hb
    generalize hw2 : (w1.alloc (.cells #[.slice A l.length c, .slice A' (rows row).length c', .int .i64 f, .bool false, .int .i64 n] 49)).alloc (.cells #[.slice none 0 0, .slice none 0 0, .int .i64 0, .bool false, .int .i64 0] 49) = w2 at *
    clear k0 k8 hm2
    go_enter Try.func36, Try.ntmps36
    go_wp2
    have k0 := K8.out
    have k1 := blk_put k0 0 (.slice A l.length c) rfl
    have k2 := blk_put k1 1 (.slice A' (rows row).length c') rfl
    have k3 := blk_put k2 2 (.int .i64 f) rfl
    have k4 := blk_put k3 3 (.bool false) rfl
    have k5 := blk_put k4 4 (.int .i64 n) rfl
    have hmm := Mod.setCell (p := ⟨b + 1, 4, none⟩) (Mod.setCell (p := ⟨b + 1, 3, none⟩) (Mod.setCell (p := ⟨b + 1, 2, none⟩) (Mod.setCell (p := ⟨b + 1, 1, none⟩) (Mod.setCell (p := ⟨b + 1, 0, none⟩) (HM2.out) (.inr (by rw [HB.out]; exact Nat.le_succ _)) (.slice A l.length c)) (.inr (by rw [HB.out]; exact Nat.le_succ _)) (.slice A' (rows row).length c')) (.inr (by rw [HB.out]; exact Nat.le_succ _)) (.int .i64 f)) (.inr (by rw [HB.out]; exact Nat.le_succ _)) (.bool false)) (.inr (by rw [HB.out]; exact Nat.le_succ _)) (.int .i64 n)
    refine bodyPost_ret (results_cell_row rfl _ _ (b + 1) 49 #[.slice A l.length c, .slice A' (rows row).length c', .int .i64 f, .bool false, .int .i64 n] (0, 0) _ rfl k5 Try.underlying49 rfl (by kernel_rfl)) rfl ⟨_, rfl, ?_⟩
    exact PS.mod ⟨fp, fq, a1, a2, a3, a4, a5, ⟨_, _, rfl, a7, a8⟩, a9⟩ hmm
  · show Calls Try.prog 36 _ w1 fun e w' => ∃ x', e = .returned x' ∧ PS w w' g D x' ⟨l, [], -1, false, n⟩ B ∧ KeepB B w1 w'
    have k0 := blk_old (blk_new w1 (.cells #[.slice A l.length c, .slice A' (rows row).length c', .int .i64 f, .bool true, .int .i64 n] 49)) (.cells #[.slice none 0 0, .slice none 0 0, .int .i64 0, .bool false, .int .i64 0] 49)
    have k8 := blk_new (w1.alloc (.cells #[.slice A l.length c, .slice A' (rows row).length c', .int .i64 f, .bool true, .int .i64 n] 49)) (.cells #[.slice none 0 0, .slice none 0 0, .int .i64 0, .bool false, .int .i64 0] 49)
    have hm2 := ((Mod.refl [] w1).alloc (.cells #[.slice A l.length c, .slice A' (rows row).length c', .int .i64 f, .bool true, .int .i64 n] 49)).alloc (.cells #[.slice none 0 0, .slice none 0 0, .int .i64 0, .bool false, .int .i64 0] 49)
    rw [World.size_alloc] at k8
    obtain ⟨b, hb⟩ : ∃ b, w1.heap.size = b := ⟨_, rfl⟩
    rw [hb] at k0 k8
    have c0 := (blk_cell k0 0).trans rfl
    have c1 := (blk_cell k0 1).trans rfl
    have c2 := (blk_cell k0 2).trans rfl
    have c3 := (blk_cell k0 3).trans rfl
    have c4 := (blk_cell k0 4).trans rfl
    have f1 := blk_frozen k0 1
    have f2 := blk_frozen k0 2
    have f3 := blk_frozen k0 3
    have t0 := (blk_cell k8 0).trans rfl
    have t1 := (blk_cell k8 1).trans rfl
    have t2 := (blk_cell k8 2).trans rfl
    have t3 := (blk_cell k8 3).trans rfl
    have t4 := (blk_cell k8 4).trans rfl
    have g0 := blk_frozen k8 0
    have g1 := blk_frozen k8 1
    have g2 := blk_frozen k8 2
    have g3 := blk_frozen k8 3
    have g4 := blk_frozen k8 4
    have K8 := Lib.hid k8
    have HM2 := Lib.hid hm2
    have HB := Lib.hid hb
    generalize hw2 : (w1.alloc (.cells #[.slice A l.length c, .slice A' (rows row).length c', .int .i64 f, .bool true, .int .i64 n] 49)).alloc (.cells #[.slice none 0 0, .slice none 0 0, .int .i64 0, .bool false, .int .i64 0] 49) = w2 at *
    clear k0 k8 hm2
    go_enter Try.func36, Try.ntmps36
    go_wp2
    have k0 : (((w2.setCell ⟨b, 1, none⟩ (.slice none 0 0)).setCell ⟨b, 2, none⟩ (.int .i64 (-1))).setCell ⟨b, 3, none⟩ (.bool false)).heap[b + 1]? = some (.cells #[.slice none 0 0, .slice none 0 0, .int .i64 0, .bool false, .int .i64 0] 49 (0, 0)) := (((Below.heap_setCell _ _ _ (b + 1) (by simp)).trans (Below.heap_setCell _ _ _ (b + 1) (by simp))).trans (Below.heap_setCell _ _ _ (b + 1) (by simp))).trans K8.out
    have k1 := blk_put k0 0 (.slice A l.length c) rfl
    have k2 := blk_put k1 1 (.slice none 0 0) rfl
    have k3 := blk_put k2 2 (.int .i64 (-1)) rfl
    have k4 := blk_put k3 3 (.bool false) rfl
    have k5 := blk_put k4 4 (.int .i64 n) rfl
    have hmm := Mod.setCell (p := ⟨b + 1, 4, none⟩) (Mod.setCell (p := ⟨b + 1, 3, none⟩) (Mod.setCell (p := ⟨b + 1, 2, none⟩) (Mod.setCell (p := ⟨b + 1, 1, none⟩) (Mod.setCell (p := ⟨b + 1, 0, none⟩) (Mod.setCell (p := ⟨b, 3, none⟩) (Mod.setCell (p := ⟨b, 2, none⟩) (Mod.setCell (p := ⟨b, 1, none⟩) (HM2.out) (.inr (by rw [HB.out]; exact Nat.le_refl _)) (.slice none 0 0)) (.inr (by rw [HB.out]; exact Nat.le_refl _)) (.int .i64 (-1))) (.inr (by rw [HB.out]; exact Nat.le_refl _)) (.bool false)) (.inr (by rw [HB.out]; exact Nat.le_succ _)) (.slice A l.length c)) (.inr (by rw [HB.out]; exact Nat.le_succ _)) (.slice none 0 0)) (.inr (by rw [HB.out]; exact Nat.le_succ _)) (.int .i64 (-1))) (.inr (by rw [HB.out]; exact Nat.le_succ _)) (.bool false)) (.inr (by rw [HB.out]; exact Nat.le_succ _)) (.int .i64 n)
    refine bodyPost_ret (results_cell_row rfl _ _ (b + 1) 49 #[.slice A l.length c, .slice none 0 0, .int .i64 (-1), .bool false, .int .i64 n] (0, 0) _ rfl k5 Try.underlying49 rfl (by kernel_rfl)) rfl ⟨_, rfl, ?_⟩
    exact PS.mod ⟨fp, fq, a1, a2, a3, a4, a5, ⟨_, _, rfl, a7, Kd.R_nil _ _ _ _ _⟩, a9⟩ hmm
end Go.Proofs.Ytcohfbmfmlmblaa
