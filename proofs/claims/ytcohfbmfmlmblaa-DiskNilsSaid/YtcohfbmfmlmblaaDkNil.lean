/- A nil disk does nothing. -/
import Derived.Test.YtcohfbmfmlmblaaDkStepX
set_option linter.unusedVariables false
set_option linter.unusedSimpArgs false
namespace Go.Proofs.Ytcohfbmfmlmblaa
open Go.RowKit Go.Proofs.YtcohfbmfmlmblaaW.PrintWords Go.Proofs.Ytcohfbmfmlmblaa.PDiskPlays Go.Proofs.YtcohfbmfmlmblaaW.PrintMore Go.Proofs.YtcohfbmfmlmblaaW.PrintLast
theorem nil_down (w : World) : Calls Try.prog 13 #[.pointer none] w fun e w' => e = .returned (.bool true) ∧ w = w' := by
  go_enter Try.func13, Try.ntmps13
  go_wp2
  go_ret
  exact ⟨rfl, rfl⟩
theorem nil_sectors (w : World) : Calls Try.prog 21 #[.pointer none] w fun e w' => e = .returned (.int .i64 0) ∧ w = w' := by
  go_enter Try.func21, Try.ntmps21
  go_wp2
  go_ret
  exact ⟨rfl, rfl⟩
theorem nil_done (w : World) : Calls Try.prog 20 #[.pointer none] w fun e w' => e = .returned (.int .i64 0) ∧ w = w' := by
  go_enter Try.func20, Try.ntmps20
  go_wp2
  go_ret
  exact ⟨rfl, rfl⟩
theorem nil_waiting (w : World) : Calls Try.prog 25 #[.pointer none] w fun e w' => e = .returned (.slice none 0 0) ∧ w = w' := by
  go_enter Try.func25, Try.ntmps25
  go_wp2
  go_ret
  exact ⟨rfl, rfl⟩
theorem nil_out (i : Int) (w : World) : Calls Try.prog 27 #[.pointer none, .int .i64 i] w fun e w' => e = .returned (.string ⟨#[]⟩) ∧ w = w' := by
  go_enter Try.func27, Try.ntmps27
  go_wp2
  go_ret
  exact ⟨rfl, rfl⟩
theorem nil_write (i : Int) (s : ByteArray) (w : World) : Calls Try.prog 14 #[.pointer none, .int .i64 i, .string s] w fun e w' => e = .returned (.int .i64 1) ∧ w = w' := by
  go_enter Try.func14, Try.ntmps14
  go_wp2_with fail
  refine (can_nil i w).mono ?_
  rintro e w1 ⟨rfl, rfl⟩
  go_wp2
  go_ret
  exact ⟨rfl, rfl⟩
theorem nil_barrier (w : World) : Calls Try.prog 12 #[.pointer none] w fun e w' => e = .returned (.int .i64 1) ∧ w = w' := by
  go_enter Try.func12, Try.ntmps12
  go_wp2_with fail
  refine (can_nil 0 w).mono ?_
  rintro e w1 ⟨rfl, rfl⟩
  go_wp2
  go_ret
  exact ⟨rfl, rfl⟩
theorem nil_fuse (n : Int) (w : World) : Calls Try.prog 19 #[.pointer none, .int .i64 n] w fun e w' => (∃ v, e = .returned v) ∧ w = w' := by
  go_enter Try.func19, Try.ntmps19
  go_wp2
  go_end0
  exact ⟨⟨_, rfl⟩, rfl⟩
theorem nil_fail (v : Value) (t n : Int) (w : World) : Calls Try.prog 16 #[.pointer none, v, .int .i64 t, .int .i64 n] w fun e w' => (∃ v, e = .returned v) ∧ w = w' := by
  go_enter Try.func16, Try.ntmps16
  go_wp2
  refine bodyPost_ret (results_none (by rfl) _ _ _) rfl ?_
  exact ⟨⟨_, rfl⟩, rfl⟩
theorem nil_start (w : World) : Calls Try.prog 17 #[.pointer none] w fun e w' => (∃ v, e = .returned v) ∧ w = w' := by
  go_enter Try.func17, Try.ntmps17
  go_wp2
  go_end0
  exact ⟨⟨_, rfl⟩, rfl⟩
theorem nil_read (i : Int) (w : World) : Calls Try.prog 11 #[.pointer none, .int .i64 i] w fun e w' => e = .returned (.tuple #[.string ⟨#[]⟩, .int .i64 1]) ∧ Mod [] w w' := by
  obtain ⟨W0, hW0, hm3, hs3, b3, b4, b5⟩ := boxes3 w i
  obtain ⟨b, hb⟩ : ∃ b, w.heap.size = b := ⟨_, rfl⟩
  have hcc := can_nil i W0
  have c3 := (blk_cell b3 0).trans rfl
  have c4 := (blk_cell b4 0).trans rfl
  have c5 := (blk_cell b5 0).trans rfl
  have f4 := blk_frozen b4 0
  have f5 := blk_frozen b5 0
  rw [hb] at hs3 b3 b4 b5 c3 c4 c5 f4 f5
  have B4 := Lib.hid b4
  have B5 := Lib.hid b5
  have HB := Lib.hid hb
  have HM3 := Lib.hid hm3
  have c5a := (blk_cell (show (W0.setCell ⟨b + 1, 0, none⟩ (.string ⟨#[]⟩)).heap[b + 1 + 1]? = some (.cells #[.int .i64 0] 31 (0, 0)) from (Below.heap_setCell W0 _ _ (b + 1 + 1) (by simp)).trans B5.out) 0).trans rfl
  have f5a := blk_frozen (show (W0.setCell ⟨b + 1, 0, none⟩ (.string ⟨#[]⟩)).heap[b + 1 + 1]? = some (.cells #[.int .i64 0] 31 (0, 0)) from (Below.heap_setCell W0 _ _ (b + 1 + 1) (by simp)).trans B5.out) 0
  clear b3 b4 b5 hs3 hm3
  go_enter Try.func11, Try.ntmps11
  go_wp2_with fail
  rw [← hW0]
  refine hcc.mono ?_
  rintro e w1 ⟨rfl, rfl⟩
  clear hcc hW0 hb
  go_wp2
  obtain ⟨l4, l5⟩ := boxes_set B4.out B5.out (.string ⟨#[]⟩) (.int .i64 1)
  refine bodyPost_ret (results_cells rfl _ _ rfl rfl (load_str _ _ _ l4) (load_err _ _ _ l5)) rfl ⟨rfl, ?_⟩
  exact (HM3.out.setCell (p := ⟨b + 1, 0, none⟩) (.inr (by rw [HB.out]; simp)) _).setCell (p := ⟨b + 1 + 1, 0, none⟩) (.inr (by rw [HB.out]; simp; omega)) _
end Go.Proofs.Ytcohfbmfmlmblaa
