/- The list of what is written, as it is read. -/
import Derived.Test.YtdkmkiiaklkcgaaEncAll
import Derived.Deep.Strs
set_option linter.unusedVariables false
set_option linter.unusedSimpArgs false
namespace Go.Proofs.Ytdkmkiiaklkcgaa
open Go.RowKit Go.Proofs.YtdkmkiiaklkcgaaW.PrintWords Go.ChangeShapes Go.WideShapes
/-- What is known of a struct's fields: their types and where they lie. -/
theorem fields_of {P : Program} {t : TypeId} {l : List (TypeId × Nat)}
    (h : (match P.underlying t with | some (.struct fs) => fs.toList.map (fun f => (f.type, f.offset)) == l | _ => false) = true) :
    ∃ fs : Array Field, P.underlying t = some (.struct fs) ∧ fs.toList.map (fun f => (f.type, f.offset)) = l := by
  split at h
  · rename_i fs hfs; exact ⟨fs, hfs, by simpa using h⟩
  · cases h
theorem field_at {fs : Array Field} {l : List (TypeId × Nat)} (h : fs.toList.map (fun f => (f.type, f.offset)) = l) (i : Nat) {x : TypeId × Nat} (hi : l[i]? = some x) : ∃ f, fs[i]? = some f ∧ f.type = x.1 ∧ f.offset = x.2 := by
  rw [← h, List.getElem?_map] at hi
  obtain ⟨f, hf, hx⟩ := Option.map_eq_some_iff.1 hi
  exact ⟨f, by simpa using hf, by rw [← hx], by rw [← hx]⟩
theorem op_cells : Try.prog.cellsOf 53 = 3 := by kernel_rfl
theorem c3_cells : Try.prog.cellsOf 3 = 1 := by kernel_rfl
theorem c22_cells : Try.prog.cellsOf 22 = 1 := by kernel_rfl
theorem c5_cells : Try.prog.cellsOf 5 = 1 := by kernel_rfl
theorem choose_op {m : Nat} {p : Nat → EOp → Prop} (h : ∀ i, i < m → ∃ o, p i o) : ∃ Z : Nat → EOp, ∀ i, i < m → p i (Z i) :=
  ⟨fun i => if hi : i < m then Classical.choose (h i hi) else ⟨0, 0, []⟩, fun i hi => by simp only [hi, dif_pos]; exact Classical.choose_spec (h i hi)⟩
theorem ops_of_trod {H : Type} {enc : TypeId × Value → H} {w : World} {base : Nat} {v : Value} {d : DataW H} {p : List MemPlace}
    (ho : ∃ a len cap, v = Value.slice a len cap) (h : DataW.Trod enc Try.prog w base (fun _ => true) true 46 v d p) :
    ∃ A n c ops, v = .slice A n c ∧ n ≤ c ∧ ReadsOps w A n ops := by
  obtain ⟨a0, l0, c0, rfl⟩ := ho
  obtain ⟨fuel, hf⟩ := h
  rcases Go.Deep.open_slice (e := 53) (by kernel_rfl) hf with ⟨hcs, _⟩ | ⟨a, l, c, m, f2, D, Pl, hcs, _, hl, hm, hmm, _, hx⟩
  · have hcs' : Value.slice a0 l0 c0 = Value.slice none 0 0 := by simpa [Value.cells] using hcs
    rw [hcs']
    exact ⟨none, 0, 0, [], rfl, Nat.le_refl _, rfl, by omega, fun i hi => by simp at hi⟩
  · have hcs' : Value.slice a0 l0 c0 = Value.slice (some a) l c := by simpa [Value.cells] using hcs
    rw [hcs']
    have hmax : c ≤ 9223372036854775807 := hm
    have hm' : m = c := by simpa using hmm
    obtain ⟨fs, hfs, hl2⟩ := fields_of (P := Try.prog) (t := 53) (l := [(3, 0), (3, 1), (22, 2)]) (by kernel_rfl)
    have each : ∀ i, i < m → ∃ o : EOp, AtOp w (a.add (i * 3)) o ∧ o.ok := fun i hi => by
      obtain ⟨cs, h1, h2⟩ := hx i hi
      rw [op_cells] at h1
      obtain ⟨xs, n, _, _, hlen, hsz, hfld⟩ := DataW.trod_struct hfs h2
      obtain ⟨_, hl3, hc⟩ := World.cells?_some h1
      obtain ⟨f0, e0, t0, o0⟩ := field_at hl2 0 rfl
      obtain ⟨f1, e1, t1, o1⟩ := field_at hl2 1 rfl
      obtain ⟨f3, e3, t3, o3⟩ := field_at hl2 2 rfl
      have hxs : xs.length = 3 := by rw [hsz]; have := congrArg List.length hl2; simpa using this
      match cs, hl3, xs, hxs with
      | [u, v, x], _, [y0, y1, y2], _ =>
        have k0 := hfld 0 f0 e0
        have k1 := hfld 1 f1 e1
        have k2 := hfld 2 f3 e3
        rw [t0, o0, c3_cells] at k0
        rw [t1, o1, c3_cells] at k1
        rw [t3, o3, c22_cells] at k2
        simp only [List.drop_zero, List.drop_succ_cons, List.take_succ_cons, List.take_zero, List.getElem?_cons_zero, List.getElem?_cons_succ] at k0 k1 k2
        obtain ⟨n0, r0, _, w0⟩ := DataW.trod_int Try.underlying3 k0
        obtain ⟨n1, r1, _, w1⟩ := DataW.trod_int Try.underlying3 k1
        obtain ⟨A2, m2, c2, zs, r2, hle, hrd, hwf⟩ := ints_of_trod Try.underlying22 Try.underlying5 c5_cells k2
        obtain rfl : u = .int .i64 n0 := by simpa using r0
        obtain rfl : v = .int .i64 n1 := by simpa using r1
        subst r2
        have hw1 := bounds_i64 w1
        have g0 := hc 0 (by omega)
        have g1 := hc 1 (by omega)
        have g2 := hc 2 (by omega)
        refine ⟨⟨n0, n1, zs⟩, ⟨?_, ?_, A2, c2, ?_, ?_, ?_⟩, hw1.1, hw1.2, bytes_wf hwf⟩
        · simpa [Addr.add] using g0
        · simpa [Addr.add] using g1
        · rw [hrd.1]; simpa [Addr.add] using g2
        · rw [hrd.1]; exact hle
        · rw [hrd.1]; exact hrd
    obtain ⟨Z, hZ⟩ := choose_op each
    refine ⟨some a, l, c, (List.range l).map Z, rfl, hl, by simp, by omega, fun i hi => ⟨a, rfl, ?_⟩⟩
    have hi' : i < m := by simp at hi; omega
    simp only [List.getElem_map, List.getElem_range]
    exact hZ i hi'
theorem ReadsOps.mod {S : List Nat} {w w' : World} {A : Option Addr} {n : Nat} {ops : List EOp} (h : ReadsOps w A n ops) (hm : Mod S w w') (hS : ∀ s ∈ S, w.heap.size ≤ s) : ReadsOps w' A n ops :=
  ⟨h.len, h.max, fun i hi => by obtain ⟨a, e, h1, h2⟩ := h.row i hi; exact ⟨a, e, h1.mod hm hS, h2⟩⟩
theorem ReadsOps.one {w : World} {a : Addr} {n : Nat} {ops : List EOp} (h : ReadsOps w (some a) n ops) (i : Nat) (hi : i < ops.length) : ReadsOps w (some (a.add (i * 3))) 1 [ops[i]] :=
  ⟨rfl, by omega, fun j hj => by
    obtain ⟨b, e, h1, h2⟩ := h.row i hi
    cases e
    have : j = 0 := by simp at hj; omega
    subst this
    exact ⟨_, rfl, by simpa [Addr.add] using h1, by simpa using h2⟩⟩
end Go.Proofs.Ytdkmkiiaklkcgaa
