/- Arguments as they are read: slices of numbers, and slices of these, out of the row's reading. Over any program. -/
import Derived.Test.YtdkmkiiaklkcgaaMem
import Derived.Deep.Slices
import Derived.ProofKit
set_option linter.unusedVariables false
set_option linter.unusedSimpArgs false
namespace Go.Proofs.Ytdkmkiiaklkcgaa
open Go.RowKit Go.Proofs.YtdkmkiiaklkcgaaW.PrintWords Go.ChangeShapes Go.WideShapes

/-- A slice of numbers, read in whatever place. -/
theorem ints_of_trod {H : Type} {enc : TypeId × Value → H} {P : Program} {w : World} {base : Nat} {t e : TypeId} {k : IntKind} {fuel : Nat} {v : Value} {x : DataW H × List MemPlace}
    (ht : P.underlying t = some (.slice e)) (he : P.underlying e = some (.int k)) (hc : P.cellsOf e = 1) (h : DataW.trod enc P w base (fun _ => true) true fuel t [v] = some x) :
    ∃ A n c zs, v = .slice A n c ∧ n ≤ c ∧ ReadsInt w k A n zs ∧ ∀ z ∈ zs, (Lit.int k z).wf = true := by
  rcases open_ints ht he hc h with ⟨hcs, _⟩ | ⟨a, l, c, zs, hcs, _, hl, hm, hz, _, hcell, hwz⟩
  · obtain rfl : v = .slice none 0 0 := by simpa using hcs
    exact ⟨none, 0, 0, [], rfl, Nat.le_refl _, reads_nil w k, by simp⟩
  · obtain rfl : v = .slice (some a) l c := by simpa using hcs
    have hz' : zs.length = c := by simpa using hz
    have hmm : c ≤ 9223372036854775807 := hm
    refine ⟨some a, l, c, zs.take l, rfl, hl, ⟨by rw [List.length_take]; omega, by omega, fun _ => ⟨_, rfl, fun j hj => ?_⟩⟩, fun n hn => hwz n (List.mem_of_mem_take hn)⟩
    rw [hcell j (by omega)]; simp [List.getD_eq_getElem?_getD, hj]

/-- A slice of slices of numbers that is read. -/
structure ReadsRows (w : World) (k : IntKind) (A : Option Addr) (n : Nat) (rows : List (List Int)) : Prop where
  len : rows.length = n
  max : n ≤ 9223372036854775807
  row : ∀ i, i < n → ∃ a, A = some a ∧ ∃ Ai ni ci, w.cell? (a.add i) = some (.slice Ai ni ci) ∧ ni ≤ ci ∧ ReadsInt w k Ai ni (rows.getD i []) ∧ ∀ z ∈ rows.getD i [], (Lit.int k z).wf = true
theorem rows_of_trod {H : Type} {enc : TypeId × Value → H} {P : Program} {w : World} {base : Nat} {t s e : TypeId} {k : IntKind} {v : Value} {d : DataW H} {p : List MemPlace}
    (ht : P.underlying t = some (.slice s)) (hs : P.underlying s = some (.slice e)) (he : P.underlying e = some (.int k)) (hc : P.cellsOf e = 1) (hc' : P.cellsOf s = 1)
    (ho : ∃ a len cap, v = Value.slice a len cap) (h : DataW.Trod enc P w base (fun _ => true) true t v d p) :
    ∃ A n c rows, v = .slice A n c ∧ n ≤ c ∧ ReadsRows w k A n rows := by
  obtain ⟨a0, l0, c0, rfl⟩ := ho
  obtain ⟨fuel, hf⟩ := h
  rcases Go.Deep.open_slice1 ht hc' hf with ⟨hcs, _⟩ | ⟨a, l, c, m, f2, V, D, Pl, hcs, _, hl, hm, hmm, _, hx⟩
  · have hcs' : Value.slice a0 l0 c0 = Value.slice none 0 0 := by simpa [Value.cells] using hcs
    rw [hcs']
    exact ⟨none, 0, 0, [], rfl, Nat.le_refl _, rfl, by omega, fun i hi => by omega⟩
  · have hcs' : Value.slice a0 l0 c0 = Value.slice (some a) l c := by simpa [Value.cells] using hcs
    rw [hcs']
    have hmax : c ≤ 9223372036854775807 := hm
    have hm' : m = c := by simpa using hmm
    have each : ∀ i, i < m → ∃ zs : List Int, ∃ Ai ni ci, w.cell? (a.add i) = some (.slice Ai ni ci) ∧ ni ≤ ci ∧ ReadsInt w k Ai ni zs ∧ ∀ z ∈ zs, (Lit.int k z).wf = true := fun i hi => by
      obtain ⟨h1, h2⟩ := hx i hi
      obtain ⟨A, n, c', zs, e1, e2, e3, e4⟩ := ints_of_trod hs he hc h2
      exact ⟨zs, A, n, c', by rw [h1, e1], e2, e3, e4⟩
    obtain ⟨Z, hZ⟩ := Go.Deep.choose_lt (α := List Int) (p := fun i zs => ∃ Ai ni ci, w.cell? (a.add i) = some (.slice Ai ni ci) ∧ ni ≤ ci ∧ ReadsInt w k Ai ni zs ∧ ∀ z ∈ zs, (Lit.int k z).wf = true) each
    refine ⟨some a, l, c, (List.range l).map Z, rfl, hl, by simp, by omega, fun i hi => ⟨a, rfl, ?_⟩⟩
    obtain ⟨Ai, ni, ci, h1, h2, h3, h4⟩ := hZ i (by omega)
    have e : ((List.range l).map Z).getD i [] = Z i := by simp [List.getD_eq_getElem?_getD, hi]
    exact ⟨Ai, ni, ci, h1, h2, by rw [e]; exact h3, by rw [e]; exact h4⟩
theorem ReadsRows.mod {S : List Nat} {w w' : World} {k : IntKind} {A : Option Addr} {n : Nat} {rows : List (List Int)} (hr : ReadsRows w k A n rows) (h : Mod S w w') (hS : ∀ s ∈ S, w.heap.size ≤ s) : ReadsRows w' k A n rows :=
  ⟨hr.len, hr.max, fun i hi => by
    obtain ⟨a, e, Ai, ni, ci, h1, h2, h3, h4⟩ := hr.row i hi
    exact ⟨a, e, Ai, ni, ci, h.cell h1 (fun hs => by have := hS _ hs; have := World.block_lt_of_cell? w _ h1; omega), h2, h.reads h3 (fun x ex hn hs => by have := hS _ hs; have := reads_lt h3 x ex hn; omega), h4⟩⟩
end Go.Proofs.Ytdkmkiiaklkcgaa
