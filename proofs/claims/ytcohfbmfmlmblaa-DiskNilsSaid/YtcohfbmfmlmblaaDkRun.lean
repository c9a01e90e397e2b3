/- Which lists are light; what some steps make of a disk; two new disks beside each other. -/
import Derived.Test.YtcohfbmfmlmblaaDkPlay
set_option linter.unusedVariables false
set_option linter.unusedSimpArgs false
namespace Go.Proofs.Ytcohfbmfmlmblaa
open Go.RowKit Go.Proofs.YtcohfbmfmlmblaaW.PrintWords Go.Proofs.Ytcohfbmfmlmblaa.PDiskPlays Go.Proofs.YtcohfbmfmlmblaaW.PrintMore Go.Proofs.YtcohfbmfmlmblaaW.PrintLast
def lightB (ops : List S25) : Bool := decide (ops.length ≤ 60) && ops.all (fun o => decide (o.f6.length ≤ 100))
theorem light_f (ops : List S25) : ∃ k, hibernaclelaw04_light.f k ops = some (lightB ops) := by
  by_cases h : 60 < ops.length
  · refine ⟨0, ?_⟩
    unfold hibernaclelaw04_light.f lightB
    rw [if_pos (by omega), decide_eq_false (by omega)]; rfl
  · have key : ∀ (q j : Nat), j + q = ops.length → ∀ k, q < k → hibernaclelaw04_light.l0 k ops (j : Int) = some ((ops.drop j).all (fun o => decide (o.f6.length ≤ 100))) := by
      intro q
      induction q with
      | zero =>
        intro j hj k hk
        obtain ⟨k, rfl⟩ : ∃ q, k = q + 1 := ⟨k - 1, by omega⟩
        rw [hibernaclelaw04_light.l0, if_neg (by omega), List.drop_eq_nil_of_le (by omega)]; rfl
      | succ q ih =>
        intro j hj k hk
        obtain ⟨k, rfl⟩ : ∃ q, k = q + 1 := ⟨k - 1, by omega⟩
        have hlt : j < ops.length := by omega
        have hrd : rd_T25 ops (j : Int) = ops[j] := by simp [rd_T25, List.getD_eq_getElem?_getD, hlt]
        rw [hibernaclelaw04_light.l0, if_pos (by omega), if_pos (by omega), hrd, List.drop_eq_getElem_cons hlt, List.all_cons]
        by_cases hc : 100 < ops[j].f6.length
        · rw [if_pos (by omega), decide_eq_false (by omega)]; rfl
        · rw [if_neg (by omega), decide_eq_true (by omega), wr64 (by omega) (by omega), show ((j : Int) + 1) = ((j + 1 : Nat) : Int) by omega, ih (j + 1) (by omega) k (by omega)]; rfl
    refine ⟨ops.length + 1, ?_⟩
    unfold hibernaclelaw04_light.f lightB
    rw [if_neg (by omega), decide_eq_true (by omega)]
    have := key ops.length 0 (by omega) (ops.length + 1) (by omega)
    rw [List.drop_zero] at this
    exact this
theorem light_any (w : World) (A : Option Addr) (c : Nat) (ops : List S25) (hr : Kd.C k25 w A ops.length ops) (hc : ops.length ≤ c) : Calls Try.prog 8 #[.slice A ops.length c] w fun e w' => e = .returned (.bool (lightB ops)) ∧ Mod [] w w' := by
  obtain ⟨k, hk⟩ := light_f ops
  refine (hibernaclelaw04_light.calls k A c ops _ w hr hc hk).mono ?_
  rintro e w1 ⟨rfl, hd⟩
  exact ⟨rfl, Mod.of_below hd.below⟩
theorem light_len {ops : List S25} (h : lightB ops = true) : ops.length ≤ 60 := by
  unfold lightB at h
  rw [Bool.and_eq_true] at h
  exact of_decide_eq_true h.1
/-- What some steps make of a disk. -/
def runO (ops : List S25) (D : DK) : DK := ops.foldl (fun D o => stepO o D) D
theorem run_take (ops : List S25) (D : DK) (i : Nat) (h : i < ops.length) : runO (ops.take (i + 1)) D = stepO ops[i] (runO (ops.take i) D) := by
  unfold runO
  rw [List.take_add_one, List.getElem?_eq_getElem h, List.foldl_append]; rfl
theorem good_run (ops : List S25) (N : Nat) (h0 : 1 ≤ N) (h1 : N ≤ 2048) (hw : ∀ o ∈ ops, o.f2 ≤ 9223372036854775807) : ∀ i, i ≤ ops.length → Good (runO (ops.take i) (newD N)) i
  | 0, _ => Good.new N h0 h1
  | i + 1, h => by rw [run_take ops _ i (by omega)]; exact (good_run ops N h0 h1 hw i (by omega)).step _ (hw _ (List.getElem_mem _))
theorem st_sectors {w w1 : World} {g : Nat} {D : DK} (h : St w w1 g D) : Calls Try.prog 21 #[.pointer (some ⟨g, 0, none⟩)] w1 fun e w' => e = .returned (.int .i64 (D.l.length : Int)) ∧ w1 = w' := by
  obtain ⟨fp, a1, a2, a3⟩ := h
  exact sectors_any w1 fp g D a3
theorem St.md {w w1 : World} {g : Nat} {D : DK} (h : St w w1 g D) : Mod [] w w1 := by
  obtain ⟨fp, a1, _⟩ := h; exact a1
/-- The document's new disk beside one. -/
theorem pair_new {w w1 : World} {g : Nat} {D : DK} (N : Nat) (h0 : 1 ≤ N) (h1 : N ≤ 2048) (h : St w w1 g D) :
    Calls Try.prog 22 #[.int .i64 (N : Int)] w1 fun e w' => ∃ A5 q5 A6 q6, e = .returned (.agg #[.slice A5 (newD N).l.length q5, .slice A6 (newD N).row.length q6, .int .i64 (newD N).fuse, .bool (newD N).down, .int .i64 (newD N).done]) ∧ PS w w' g D (.agg #[.slice A5 (newD N).l.length q5, .slice A6 (newD N).row.length q6, .int .i64 (newD N).fuse, .bool (newD N).down, .int .i64 (newD N).done]) (newD N) (fun _ => False) := by
  obtain ⟨fp, a1, a2, a3⟩ := h
  obtain ⟨k, hk⟩ := ref_new N w1 h1
  refine (hibernacleref04_New.calls k (N : Int) _ _ _ _ _ w1 hk).mono ?_
  rintro e w2 ⟨v0, v1, rfl, b1, b2, b3⟩
  have hm := Mod.of_below b3
  have hP : PS w w2 g D (.agg #[v0, v1, .int .i64 (newD N).fuse, .bool (newD N).down, .int .i64 (newD N).done]) (newD N) (fun _ => False) := by
    refine ⟨fp, fun k => w1.heap.size ≤ k ∧ k < w2.heap.size, a1.trans0 hm, a2, fun k hk => ⟨Nat.le_trans a1.size hk.1, hk.2⟩, fun k hk hq => by have := a3.lt k hk; omega, a3.mod hm, ⟨v0, v1, rfl, ?_, ?_⟩, fun k hk => hk.elim⟩
    · exact Kd.R_lower (Kd.R_mono (Kd.R_bound b1) (fun k hk => ⟨hk.2.1, hk.2.2.1⟩)) a1.size
    · exact Kd.R_lower (Kd.R_mono (Kd.R_bound b2) (fun k hk => ⟨hk.2.1, hk.2.2.1⟩)) a1.size
  obtain ⟨A, c, rfl⟩ := Kd.R_slice b1
  obtain ⟨A', c', rfl⟩ := Kd.R_slice b2
  rw [show (rows (newD N).row).length = (newD N).row.length by simp [rows]] at hP ⊢
  exact ⟨A, c, A', c', rfl, hP⟩
/-- The state ahead of a step: both disks are as the steps have made them, the document's lies in the box b. -/
structure RunI (w wr : World) (g b : Nat) (D : DK) (A5 : Option Addr) (q5 : Nat) (A6 : Option Addr) (q6 : Nat) : Prop where
  bw : w.heap.size ≤ b
  blk : wr.heap[b]? = some (.cells #[.slice A5 D.l.length q5, .slice A6 D.row.length q6, .int .i64 D.fuse, .bool D.down, .int .i64 D.done] 49 (0, 0))
  ps : PS w wr g D (.agg #[.slice A5 D.l.length q5, .slice A6 D.row.length q6, .int .i64 D.fuse, .bool D.down, .int .i64 D.done]) D (fun k => k = b)
theorem RunI.put {w w1 : World} {g b : Nat} {D : DK} {A5 A6 : Option Addr} {q5 q6 : Nat} {B : Nat → Prop} {u0 u1 u2 u3 u4 : Value} (hw : w.heap.size ≤ b) (hb : w1.heap[b]? = some (.cells #[u0, u1, u2, u3, u4] 49 (0, 0))) (hB : B b) (h : PS w w1 g D (.agg #[.slice A5 D.l.length q5, .slice A6 D.row.length q6, .int .i64 D.fuse, .bool D.down, .int .i64 D.done]) D B) :
    RunI w (put5 w1 b (.slice A5 D.l.length q5) (.slice A6 D.row.length q6) (.int .i64 D.fuse) (.bool D.down) (.int .i64 D.done)) g b D A5 q5 A6 q6 :=
  ⟨hw, put5_blk _ _ _ _ _ hb, (h.put5 hB hw _ _ _ _ _).weak (fun k hk => by subst hk; exact hB)⟩
theorem RunI.box {w w1 : World} {g : Nat} {D : DK} {A5 A6 : Option Addr} {q5 q6 : Nat} {B : Nat → Prop} (h : PS w w1 g D (.agg #[.slice A5 D.l.length q5, .slice A6 D.row.length q6, .int .i64 D.fuse, .bool D.down, .int .i64 D.done]) D B) :
    RunI w (w1.alloc (.cells #[.slice A5 D.l.length q5, .slice A6 D.row.length q6, .int .i64 D.fuse, .bool D.down, .int .i64 D.done] 49)) g w1.heap.size D A5 q5 A6 q6 :=
  ⟨h.md.size, blk_new w1 _, (h.box _).weak (fun k hk => .inr hk)⟩
theorem RunI.mod {w wr wx : World} {g b : Nat} {D : DK} {A5 A6 : Option Addr} {q5 q6 : Nat} (h : RunI w wr g b D A5 q5 A6 q6) (hm : Mod [] wr wx) : RunI w wx g b D A5 q5 A6 q6 :=
  ⟨h.bw, hm.blk h.blk (by simp), (h.ps.mod hm).1⟩
end Go.Proofs.Ytcohfbmfmlmblaa
