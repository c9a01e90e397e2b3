/- What is handed in, opened: a record. -/
import Derived.Test.YtopfaafgfgjfaaaObRef
import Derived.Test.YtopfaafgfgjfaaaOpen
set_option linter.unusedVariables false
set_option linter.unusedSimpArgs false
namespace Go.Proofs.Ytopfaafgfgjfaaa
open Go.RowKit Go.Proofs.YtopfaafgfgjfaaaW.PrintWords Go.Proofs.Ytopfaafgfgjfaaa.PObjLinks
theorem c24 : Try.prog.cellsOf 24 = 3 := by kernel_rfl
theorem c22 : Try.prog.cellsOf 22 = 1 := by kernel_rfl
theorem c40 : Try.prog.cellsOf 40 = 3 := by kernel_rfl
theorem c3 : Try.prog.cellsOf 3 = 1 := by kernel_rfl
theorem c9 : Try.prog.cellsOf 9 = 1 := by kernel_rfl
/-- A slice of elements, each of which reads as d's, inside a struct. -/
theorem rows_trod {H : Type} {enc : TypeId × Value → H} {P : Program} {w : World} {base n : Nat} {t e : TypeId} {α : Type} (d : Kd α) (good : α → Prop) {cs : List Value} {x : DataW H × List MemPlace}
    (hu : P.underlying t = some (.slice e)) (hc : P.cellsOf e = d.sz) (each : ∀ n cs x, DataW.trod enc P w base (fun _ => true) true n e cs = some x → cs.length = d.sz → ∃ a, d.K w a cs ∧ good a)
    (hf : DataW.trod enc P w base (fun _ => true) true n t cs = some x) :
    ∃ A c xs, cs = [.slice A xs.length c] ∧ xs.length ≤ c ∧ d.C w A xs.length xs ∧ ∀ x ∈ xs, good x := by
  obtain ⟨D, p⟩ := x
  rcases Go.Deep.open_slice (e := e) hu hf with ⟨hcs, _⟩ | ⟨a, l, c, m, f2, D', Pl, hcs, _, hl, hm, hmm, _, hx⟩
  · exact ⟨none, 0, [], by simpa using hcs, Nat.le_refl _, ⟨rfl, by simp, fun hn => by simp at hn⟩, fun x hx => by simp at hx⟩
  · have hmax : c ≤ 9223372036854775807 := hm
    have hm' : m = c := by simpa using hmm
    have each' : ∀ i, i < l → ∃ o : α, (∃ cs, cs.length = d.sz ∧ d.K w o cs ∧ ∀ j u, cs[j]? = some u → w.cell? (a.add (i * d.sz + j)) = some u) ∧ good o := fun i hi => by
      obtain ⟨cs, h1, h2⟩ := hx i (by omega)
      obtain ⟨_, hl3, hcell⟩ := World.cells?_some h1
      rw [hc] at hl3 hcell h1
      obtain ⟨o, hK, hg⟩ := each f2 cs _ h2 hl3
      refine ⟨o, ⟨cs, hl3, hK, fun j u hj => ?_⟩, hg⟩
      have hjl : j < d.sz := by rw [← hl3]; exact (List.getElem?_eq_some_iff.1 hj).1
      have := hcell j hjl
      rw [← hj, ← this, Addr.add_add]
    obtain ⟨xs, hxl, hxs⟩ := choose_row each'
    refine ⟨some a, c, xs, by rw [hxl]; simpa using hcs, by omega, ⟨rfl, by omega, fun _ => ⟨a, rfl, fun j q hj => ?_⟩⟩, fun x hx => ?_⟩
    · obtain ⟨⟨cs, h1, h2, h3⟩, _⟩ := hxs j q hj
      exact ⟨cs, h1, h2, h3⟩
    · obtain ⟨j, hj, e⟩ := List.getElem_of_mem hx
      exact (hxs j x (by rw [List.getElem?_eq_getElem hj, e])).2
/-- The numbers of a part are within bounds. -/
def Part40 (p : S40) : Prop := (-9223372036854775808 ≤ p.f0 ∧ p.f0 ≤ 9223372036854775807) ∧ (-9223372036854775808 ≤ p.f1 ∧ p.f1 ≤ 9223372036854775807)
theorem part_open {H : Type} {enc : TypeId × Value → H} {w : World} {base n : Nat} {cs : List Value} {x : DataW H × List MemPlace} (h : DataW.trod enc Try.prog w base (fun _ => true) true n 40 cs = some x) (hl : cs.length = k40.sz) :
    ∃ a, k40.K w a cs ∧ Part40 a := by
  obtain ⟨_, m, hf⟩ := fields_trod (l := [(3, 0), (3, 1), (9, 2)]) (by kernel_rfl) h
  obtain ⟨y0, k0⟩ := hf 0 3 0 rfl
  obtain ⟨y1, k1⟩ := hf 1 3 1 rfl
  obtain ⟨y2, k2⟩ := hf 2 9 2 rfl
  rw [c3] at k0 k1
  rw [c9] at k2
  have hl2 : cs.length = 3 := hl
  match cs, hl2 with
  | [u0, u1, u2], _ =>
    simp only [List.drop_zero, List.drop_succ_cons, List.take_succ_cons, List.take_zero] at k0 k1 k2
    obtain ⟨n0, r0, _, w0⟩ := DataW.trod_int Try.underlying3 k0
    obtain ⟨n1, r1, _, w1⟩ := DataW.trod_int Try.underlying3 k1
    obtain ⟨s2, r2, _⟩ := DataW.trod_string Try.underlying9 k2
    obtain rfl : u0 = .int .i64 n0 := by simpa using r0
    obtain rfl : u1 = .int .i64 n1 := by simpa using r1
    obtain rfl : u2 = .string s2 := by simpa using r2
    exact ⟨⟨n0, n1, s2⟩, k40_mk w ⟨n0, n1, s2⟩, bounds_i64 w0, bounds_i64 w1⟩
theorem rec_open {H : Type} {enc : TypeId × Value → H} {w : World} {v : Value} {D : DataW H} {p : List MemPlace} (ho : Value.okWide Try.prog w .any 0 24 v) (h : DataW.Trod enc Try.prog w 0 (fun _ => true) true 24 v D p) :
    ∃ (a : Int) (A : Option Addr) (c : Nat) (l : List S40) (s : ByteArray), v = .agg #[.int .i64 a, .slice A l.length c, .string s] ∧ l.length ≤ c ∧ Kd.C k40 w A l.length l ∧ (∀ p ∈ l, Part40 p) ∧ -9223372036854775808 ≤ a ∧ a ≤ 9223372036854775807 := by
  obtain ⟨cs, rfl, hz⟩ := Go.WideShapes.okWide_struct Try.underlying24 ho
  obtain ⟨fuel, hf0⟩ := h
  rw [c24] at hz
  have hf1 : DataW.trod enc Try.prog w 0 (fun _ => true) true fuel 24 cs.toList = some (D, p) := by simpa [Value.cells] using hf0
  have hl3 : cs.toList.length = 3 := (Array.length_toList (xs := cs)).trans hz
  obtain ⟨_, m, hf⟩ := fields_trod (l := [(3, 0), (22, 1), (9, 2)]) (by kernel_rfl) hf1
  obtain ⟨y0, k0⟩ := hf 0 3 0 rfl
  obtain ⟨y1, k1⟩ := hf 1 22 1 rfl
  obtain ⟨y2, k2⟩ := hf 2 9 2 rfl
  rw [c3] at k0
  rw [c22] at k1
  rw [c9] at k2
  obtain ⟨cl, hcl⟩ : ∃ q, cs.toList = q := ⟨_, rfl⟩
  rw [hcl] at k0 k1 k2 hl3
  match cl, hl3 with
  | [u0, u1, u2], _ =>
    simp only [List.drop_zero, List.drop_succ_cons, List.take_succ_cons, List.take_zero] at k0 k1 k2
    obtain ⟨n0, r0, _, w0⟩ := DataW.trod_int Try.underlying3 k0
    obtain ⟨A, c, l, r1, hc, hC, hp⟩ := rows_trod k40 Part40 Try.underlying22 c40 (fun n cs x h hl => part_open h hl) k1
    obtain ⟨s2, r2, _⟩ := DataW.trod_string Try.underlying9 k2
    obtain rfl : u0 = .int .i64 n0 := by simpa using r0
    obtain rfl : u1 = .slice A l.length c := by simpa using r1
    obtain rfl : u2 = .string s2 := by simpa using r2
    refine ⟨n0, A, c, l, s2, ?_, hc, hC, hp, bounds_i64 w0⟩
    congr 1
    exact Array.toList_inj.1 hcl
end Go.Proofs.Ytopfaafgfgjfaaa
