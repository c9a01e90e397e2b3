/- The iterator of the writes, the last one first: its contract. -/
import Derived.Test.YtcohfbmfmlmblaaDkMem
import Derived.RangeFuncNested
import Derived.RangeFuncBound
import Derived.RangeFuncCalls
import Derived.RangeFuncLeaves
import Derived.Shelf.Abstract
import Derived.Shelf.RegionOpen
import Derived.WalkKit
import Derived.OwnWalkIn
import Derived.TacticsInMore
import Derived.LoopNIn
import Derived.LoopIn
set_option linter.unusedVariables false
set_option linter.unusedSimpArgs false
namespace Go.Proofs.Ytcohfbmfmlmblaa
open Go.RowKit Go.Proofs.YtcohfbmfmlmblaaW.PrintWords Go.Proofs.Ytcohfbmfmlmblaa.PDiskPlays Go.Proofs.YtcohfbmfmlmblaaW.PrintLast
attribute [local go_sem] Oper.semAt_some
/-- A write and its place. -/
abbrev El : Type := Nat × S65
def encs (x : El) : Array Value := #[.int .i64 (x.1 : Int), .agg #[.int .i64 x.2.f0, .string x.2.f1]]
/-- The last m writes, the last one first. -/
def sol (row : List S65) : Nat → List El
  | 0 => []
  | m + 1 => sol row m ++ [(row.length - 1 - m, rd_T65 row ((row.length - 1 - m : Nat) : Int))]
theorem sol_len (row : List S65) (m : Nat) : (sol row m).length = m := by
  induction m with
  | zero => rfl
  | succ m ih => rw [sol, List.length_append, ih]; rfl
theorem sol_snd (row : List S65) (m : Nat) (hm : m ≤ row.length) : (sol row m).map (·.2) = row.reverse.take m := by
  induction m with
  | zero => rfl
  | succ m ih =>
    rw [sol, List.map_append, ih (by omega), List.take_add_one, List.getElem?_reverse (by omega)]
    congr 1
    simp only [List.map_cons, List.map_nil, rd_T65, Int.toNat_natCast]
    rw [List.getD_eq_getElem?_getD, List.getElem?_eq_getElem (by omega)]
    rfl
/-- What a round keeps: the blocks of K. -/
def Keep (K : Nat → Prop) (W W' : World) : Prop := W.heap.size ≤ W'.heap.size ∧ ∀ k, K k → W'.heap[k]? = W.heap[k]?
theorem Keep.refl (K : Nat → Prop) (W : World) : Keep K W W := ⟨Nat.le_refl _, fun _ _ => rfl⟩
theorem Keep.trans {K : Nat → Prop} {A B C : World} (h : Keep K A B) (k : Keep K B C) : Keep K A C := ⟨Nat.le_trans h.1 k.1, fun i hi => (k.2 i hi).trans (h.2 i hi)⟩
theorem Keep.put {K : Nat → Prop} {w : World} (hK : ∀ k, K k → k < w.heap.size) (W : World) (l : Nat) (o o' : Obj) (hl : w.heap.size ≤ l) : Keep K W (W.putObj l o') :=
  ⟨by rw [World.putObj_size]; exact Nat.le_refl _, fun k hk => World.putObj_heap_other (by have := hK k hk; omega)⟩
theorem back_any (A : Option Addr) (n c : Nat) (w : World) : Calls Try.prog 29 #[.slice A n c] w fun e w' => e = .returned (.func (.func 40) #[] #[.pointer (some ⟨w.heap.size, 0, none⟩)]) ∧ w' = w.alloc (.cells #[.slice A n c] 63) := by
  go_enter Try.func29, Try.ntmps29
  go_wp2
  go_ret
  exact ⟨rfl, rfl⟩
set_option maxRecDepth 100000 in
set_option maxHeartbeats 2000000 in
/-- The iterator, over a row. -/
theorem back1_in (n y Bp : Nat) (R : Value) (fp K : Nat → Prop) (row : List S65) (hl : row.length ≤ 1000) (hn : 1 ≤ n) (J Jx : List El → World → Prop) (hfK : ∀ k, fp k → K k) (hBK : K Bp)
    (hY : ∀ pre x W, J pre W → pre.length < row.length → YieldAt Fence.wide (n - 1) Try.prog y (encs x) W fun e W' =>
      (e = .returned (.bool true) ∧ J (pre ++ [x]) W' ∧ Keep K W W') ∨ (e = .returned (.bool false) ∧ Jx (pre ++ [x]) W'))
    (W : World) (hB : W.heap[Bp]? = some (.cells #[R] 63 (0, 0))) (hp : Kd.R k65 65 W 0 fp R row) (h0 : J [] W) :
    CallsIn Fence.wide n Try.prog 40 #[.func (.yield y) #[] #[], .pointer (some ⟨Bp, 0, none⟩)] W fun e W' => (∃ v, e = .returned v) ∧
      ((∃ xs, xs = sol row row.length ∧ J xs W') ∨ (∃ pre, (∃ m, m ≤ row.length ∧ pre = sol row m) ∧ Jx pre W')) := by
  obtain ⟨A, c, rfl, hc, _⟩ := Kd.R_reads hp
  have cB0 := (blk_cell hB 0).trans rfl
  refine callsIn_of_wp Try.func40 rfl trivial ?_ rfl
  simp only [Try.ntmps40, List.size_toArray, List.length_cons, List.length_nil, Nat.reduceAdd, Nat.reduceSub, Array.replicate_succ, Array.replicate_zero, List.push_toArray, List.append_toArray, List.nil_append, List.cons_append]
  have q0 : IntKind.i64.wrap ((row.length : Int) - 1) = (row.length : Int) - 1 := IntWalk.i64_in _ (by omega)
  gi_wp2
  gi_loopw [3] (fun i wr => ∃ m : Nat, m ≤ row.length ∧ i = .int .i64 ((row.length : Int) - 1 - (m : Int)) ∧ J (sol row m) wr ∧ Keep K W wr)
    (fun i _ => (intOf i + 1).toNat)
  case atStart => exact ⟨0, Nat.zero_le _, by simp, h0, Keep.refl _ _⟩
  case round =>
    obtain ⟨m, hm, rfl, hJs, hKp⟩ := hrel
    have hpr : Kd.R k65 65 wr 0 fp (.slice A row.length c) row := Kd.R_move hp (fun k hk => hKp.2 k (hfK k hk))
    have hBr := (hKp.2 Bp hBK).trans hB
    have cB := (blk_cell hBr 0).trans rfl
    obtain ⟨A', c', h1, hc', hr⟩ := Kd.R_reads hpr
    injection h1 with e1 e2 e3
    subst e1
    subst e3
    clear e2
    by_cases hlt : m < row.length
    · obtain ⟨i, hi⟩ : ∃ i : Nat, row.length = i + 1 + m := ⟨row.length - 1 - m, by omega⟩
      have hidx : (row.length : Int) - 1 - (m : Int) = (i : Int) := by omega
      rw [hidx]
      have hki : (0 : Int) ≤ (i : Int) := by omega
      have hki2 : (i : Int) < (row.length : Int) := by omega
      obtain ⟨ad, rfl, p0, p1⟩ := at_T65 hr (i : Int) hki hki2
      rw [Int.toNat_natCast] at p0 p1
      have hsol := Lib.hid (show sol row (m + 1) = sol row m ++ [(i, rd_T65 row (i : Int))] by rw [sol, show row.length - 1 - m = i by omega])
      obtain ⟨fn, tmps, assign, body, hy, hR⟩ := hY _ (i, rd_T65 row (i : Int)) wr hJs (by rw [sol_len]; omega)
      dsimp only [encs] at hy
      have w1 : IntKind.i64.wrap ((i : Int) - 1) = (i : Int) - 1 := IntWalk.i64_in _ (by omega)
      have HI := Lib.hid hi
      clear hi hidx
      generalize rd_T65 row (i : Int) = x at *
      gi_wp2
      refine hR.mono ?_
      rintro e W3 (⟨rfl, hJ3, hk3⟩ | ⟨rfl, hJx3⟩)
      · have HJ3 := Lib.hid hJ3
        have HK3 := Lib.hid (hKp.trans hk3)
        clear hJ3 hk3
        gi_wp2
        go_roundw
        case rel => exact ⟨m + 1, by omega, by have := HI.out; congr 1; omega, by rw [hsol.out]; exact HJ3.out, HK3.out⟩
        case measure => simp [intOf]
      · have HJ3 := Lib.hid hJx3
        clear hJx3
        gi_wp2
        refine bodyPost_ret (results_none rfl _ _ _) rfl ?_
        exact ⟨⟨_, rfl⟩, .inr ⟨_, ⟨m + 1, by omega, hsol.out.symm⟩, HJ3.out⟩⟩
    · obtain rfl : m = row.length := by omega
      have hki2 : ¬ (0 : Int) ≤ (row.length : Int) - 1 - (row.length : Int) := by omega
      have HJ3 := Lib.hid hJs
      clear hJs hKp
      gi_wp2
      go_end0
      first
        | exact ⟨⟨_, rfl⟩, .inl ⟨_, rfl, HJ3.out⟩⟩
        | exact ⟨⟨_, rfl⟩, .inl HJ3.out⟩
/-- The iterator's contract. -/
theorem back_stops (n Bp : Nat) (R : Value) (fp K : Nat → Prop) (row : List S65) (hl : row.length ≤ 1000) (hn : 1 ≤ n) (hfK : ∀ k, fp k → K k) (hBK : K Bp) (w : World) (hK : ∀ k, K k → k < w.heap.size)
    (hB : w.heap[Bp]? = some (.cells #[R] 63 (0, 0))) (hp : Kd.R k65 65 w 0 fp R row) :
    SeqStopsK Fence.wide n Try.prog 40 #[.pointer (some ⟨Bp, 0, none⟩)] encs (Keep K) (fun xs => xs = sol row row.length) (fun pre => ∃ m, m ≤ row.length ∧ pre = sol row m) row.length w := fun y J Jx W hW hJ hJx hY h0 => by
  have hkw : Keep K w W := ⟨hW.size, fun k hk => hW.block k (hK k hk)⟩
  exact back1_in n y Bp R fp K row hl hn J Jx hfK hBK hY W ((hkw.2 Bp hBK).trans hB) (Kd.R_move hp (fun k hk => hkw.2 k (hfK k hk))) h0
end Go.Proofs.Ytcohfbmfmlmblaa
