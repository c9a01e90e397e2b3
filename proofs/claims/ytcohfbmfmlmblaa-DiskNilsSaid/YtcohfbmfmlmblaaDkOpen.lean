/- Lists of steps, and a step, as they are read. -/
import Derived.Test.YtcohfbmfmlmblaaDkRun
import Derived.Test.YtcohfbmfmlmblaaOpen
import Derived.Deep.Grids
set_option linter.unusedVariables false
set_option linter.unusedSimpArgs false
namespace Go.Proofs.Ytcohfbmfmlmblaa
open Go.RowKit Go.Proofs.YtcohfbmfmlmblaaW.PrintWords Go.Proofs.Ytcohfbmfmlmblaa.PDiskPlays
theorem c25 : Try.prog.cellsOf 25 = 7 := by kernel_rfl
theorem c23 : Try.prog.cellsOf 23 = 1 := by kernel_rfl
theorem c3 : Try.prog.cellsOf 3 = 1 := by kernel_rfl
theorem c4 : Try.prog.cellsOf 4 = 1 := by kernel_rfl
theorem c5 : Try.prog.cellsOf 5 = 1 := by kernel_rfl
/-- A row of bools as it is read. -/
theorem bools_open {H : Type} {enc : TypeId × Value → H} {w : World} {base n : Nat} {cs : List Value} {x : DataW H × List MemPlace} (h : DataW.trod enc Try.prog w base (fun _ => true) true n 23 cs = some x) :
    ∃ A c ks, cs = [.slice A ks.length c] ∧ ks.length ≤ c ∧ Kd.C Kd.bool w A ks.length ks := by
  rcases Go.Deep.open_bools Try.underlying23 Try.underlying4 c4 h with ⟨hcs, _⟩ | ⟨a, len, cap, B, hcs, _, hl, hm, _, hc⟩
  · exact ⟨none, 0, [], hcs, Nat.le_refl _, Kd.C_nil _ _⟩
  · have hmax : cap ≤ 9223372036854775807 := hm
    refine ⟨some a, cap, (List.range len).map B, by simpa using hcs, by simpa using hl, rfl, by simp; omega, fun _ => ⟨a, rfl, fun j p hj => ?_⟩⟩
    have hjl : j < len := by
      have := (List.getElem?_eq_some_iff.1 hj).1
      simpa using this
    have hp : p = B j := by
      rw [List.getElem?_map, List.getElem?_range hjl] at hj
      simpa using hj.symm
    subst hp
    refine ⟨[.bool (B j)], rfl, rfl, fun i u hu => ?_⟩
    cases i with
    | zero =>
      have hu' : u = .bool (B j) := by simpa using hu.symm
      subst hu'
      have := hc j (by omega)
      have e : a.add (j * 1 + 0) = a.add j := by simp
      exact (congrArg w.cell? e).trans this
    | succ i => simp at hu
def Op25 (a : S25) : Prop := (-9223372036854775808 ≤ a.f2 ∧ a.f2 ≤ 9223372036854775807) ∧ (-9223372036854775808 ≤ a.f3 ∧ a.f3 ≤ 9223372036854775807) ∧ (-9223372036854775808 ≤ a.f1 ∧ a.f1 ≤ 9223372036854775807)
theorem op_open {H : Type} {enc : TypeId × Value → H} {w : World} {base n : Nat} {cs : List Value} {x : DataW H × List MemPlace} (h : DataW.trod enc Try.prog w base (fun _ => true) true n 25 cs = some x) (hl : cs.length = k25.sz) :
    ∃ a, k25.K w a cs ∧ Op25 a := by
  obtain ⟨_, m, hf⟩ := fields_trod (l := [(3, 0), (3, 1), (3, 2), (3, 3), (3, 4), (5, 5), (23, 6)]) (by kernel_rfl) h
  obtain ⟨y0, k0⟩ := hf 0 3 0 rfl
  obtain ⟨y1, k1⟩ := hf 1 3 1 rfl
  obtain ⟨y2, k2⟩ := hf 2 3 2 rfl
  obtain ⟨y3, k3⟩ := hf 3 3 3 rfl
  obtain ⟨y4, k4⟩ := hf 4 3 4 rfl
  obtain ⟨y5, k5⟩ := hf 5 5 5 rfl
  obtain ⟨y6, k6⟩ := hf 6 23 6 rfl
  rw [c3] at k0 k1 k2 k3 k4
  rw [c5] at k5
  rw [c23] at k6
  have hl2 : cs.length = 7 := hl
  match cs, hl2 with
  | [u0, u1, u2, u3, u4, u5, u6], _ =>
    simp only [List.drop_zero, List.drop_succ_cons, List.take_succ_cons, List.take_zero] at k0 k1 k2 k3 k4 k5 k6
    obtain ⟨n0, r0, _, w0⟩ := DataW.trod_int Try.underlying3 k0
    obtain ⟨n1, r1, _, w1⟩ := DataW.trod_int Try.underlying3 k1
    obtain ⟨n2, r2, _, w2⟩ := DataW.trod_int Try.underlying3 k2
    obtain ⟨n3, r3, _, w3⟩ := DataW.trod_int Try.underlying3 k3
    obtain ⟨n4, r4, _, w4⟩ := DataW.trod_int Try.underlying3 k4
    obtain ⟨n5, r5, _, w5⟩ := DataW.trod_int Try.underlying5 k5
    obtain ⟨A, c, ks, r6, hc, hC⟩ := bools_open k6
    obtain rfl : u0 = .int .i64 n0 := by simpa using r0
    obtain rfl : u1 = .int .i64 n1 := by simpa using r1
    obtain rfl : u2 = .int .i64 n2 := by simpa using r2
    obtain rfl : u3 = .int .i64 n3 := by simpa using r3
    obtain rfl : u4 = .int .i64 n4 := by simpa using r4
    obtain rfl : u5 = .int .u8 n5 := by simpa using r5
    obtain rfl : u6 = .slice A ks.length c := by simpa using r6
    exact ⟨⟨n0, n1, n2, n3, n4, n5, ks⟩, k25_mk w ⟨n0, n1, n2, n3, n4, n5, ks⟩ hc hC, bounds_i64 w2, bounds_i64 w3, bounds_i64 w1⟩
theorem ops_open {H : Type} {enc : TypeId × Value → H} {w : World} {v : Value} {D : DataW H} {p : List MemPlace} (ho : Value.okWide Try.prog w .any 0 22 v) (h : DataW.Trod enc Try.prog w 0 (fun _ => true) true 22 v D p) :
    ∃ A c ops, v = .slice A ops.length c ∧ ops.length ≤ c ∧ Kd.C k25 w A ops.length ops ∧ ∀ x ∈ ops, Op25 x :=
  rows_open k25 Op25 Try.underlying22 c25 (fun n cs x h hl => op_open h hl) (Go.WideShapes.okWide_slice (e := 25) Try.underlying22 ho) h
/-- A step that is handed in. -/
theorem one_open {H : Type} {enc : TypeId × Value → H} {w : World} {v : Value} {D : DataW H} {p : List MemPlace} (ho : Value.okWide Try.prog w .any 0 25 v) (h : DataW.Trod enc Try.prog w 0 (fun _ => true) true 25 v D p) :
    ∃ (o : S25) (A : Option Addr) (c : Nat), v = .agg #[.int .i64 o.f0, .int .i64 o.f1, .int .i64 o.f2, .int .i64 o.f3, .int .i64 o.f4, .int .u8 o.f5, .slice A o.f6.length c] ∧ o.f6.length ≤ c ∧ Kd.C Kd.bool w A o.f6.length o.f6 ∧ Op25 o := by
  obtain ⟨cs, rfl, hz⟩ := Go.WideShapes.okWide_struct Try.underlying25 ho
  obtain ⟨fuel, hf⟩ := h
  rw [c25] at hz
  obtain ⟨o, hK, hO⟩ := op_open (cs := cs.toList) (by simpa [Value.cells] using hf) ((Array.length_toList (xs := cs)).trans hz)
  obtain ⟨A, c, e, hc, hC⟩ := k25_open hK
  refine ⟨o, A, c, ?_, hc, hC, hO⟩
  congr 1
  exact Array.toList_inj.1 e
end Go.Proofs.Ytcohfbmfmlmblaa
