/- Arguments as they are read: slices of structs. Over any program. -/
import Derived.Test.YtopfaafgfgjfaaaMem
import Derived.Deep.Slices
import Derived.ProofKit
import Derived.ChangeSame
set_option linter.unusedVariables false
set_option linter.unusedSimpArgs false
namespace Go.Proofs.Ytopfaafgfgjfaaa
open Go.RowKit Go.Proofs.YtopfaafgfgjfaaaW.PrintWords Go.ChangeShapes Go.WideShapes
/-- What is known of a struct's fields: their types and where they lie. -/
theorem fields_of {P : Program} {t : TypeId} {l : List (TypeId × Nat)}
    (h : (match P.underlying t with | some (.struct fs) => fs.toList.map (fun f => (f.type, f.offset)) == l | _ => false) = true) :
    ∃ fs : Array Field, P.underlying t = some (.struct fs) ∧ fs.toList.map (fun f => (f.type, f.offset)) = l := by
  split at h
  · rename_i fs hfs; exact ⟨fs, hfs, by simpa using h⟩
  · cases h
/-- A struct's fields, each as it is read. -/
theorem fields_trod {H : Type} {enc : TypeId × Value → H} {P : Program} {w : World} {base : Nat} {spare : Nat → Bool} {held : Bool} {t : TypeId} {l : List (TypeId × Nat)} {fuel : Nat} {cs : List Value} {x : DataW H × List MemPlace}
    (hf : (match P.underlying t with | some (.struct fs) => fs.toList.map (fun f => (f.type, f.offset)) == l | _ => false) = true) (h : DataW.trod enc P w base spare held fuel t cs = some x) :
    cs.length = P.cellsOf t ∧ ∃ n, ∀ (i : Nat) (ty : TypeId) (off : Nat), l[i]? = some (ty, off) → ∃ y, DataW.trod enc P w base spare held n ty ((cs.drop off).take (P.cellsOf ty)) = some y := by
  obtain ⟨fs, hfs, hl⟩ := fields_of hf
  obtain ⟨xs, n, _, _, hlen, hsz, hfld⟩ := DataW.trod_struct hfs h
  refine ⟨hlen, n, fun i ty off hi => ?_⟩
  rw [← hl, List.getElem?_map] at hi
  obtain ⟨f, hf', hx⟩ := Option.map_eq_some_iff.1 hi
  have hf'' : fs[i]? = some f := by simpa using hf'
  have hk := hfld i f hf''
  have hlt : i < xs.length := by
    rw [hsz]
    exact (Array.getElem?_eq_some_iff.1 hf'').1
  rw [List.getElem?_eq_getElem hlt] at hk
  injection hx with e1 e2
  rw [e1, e2] at hk
  exact ⟨_, hk⟩
theorem choose_row {α : Type} {m : Nat} {p : Nat → α → Prop} (h : ∀ i, i < m → ∃ o, p i o) : ∃ xs : List α, xs.length = m ∧ ∀ i x, xs[i]? = some x → p i x := by
  induction m with
  | zero => exact ⟨[], rfl, fun i x hx => by simp at hx⟩
  | succ m ih =>
    obtain ⟨xs, hl, hx⟩ := ih (fun i hi => h i (by omega))
    obtain ⟨o, ho⟩ := h m (by omega)
    refine ⟨xs ++ [o], by simp [hl], fun i x hi => ?_⟩
    rcases Nat.lt_trichotomy i m with e | e | e
    · rw [List.getElem?_append_left (by omega)] at hi; exact hx i x hi
    · subst e; rw [List.getElem?_append_right (by omega), hl] at hi; simp at hi; subst hi; exact ho
    · rw [List.getElem?_eq_none (by simp; omega)] at hi; cases hi
/-- A slice of elements of which each reads as d's. -/
theorem rows_open {H : Type} {enc : TypeId × Value → H} {P : Program} {w : World} {base : Nat} {t e : TypeId} {α : Type} (d : Kd α) (good : α → Prop) {v : Value} {D : DataW H} {p : List MemPlace}
    (hu : P.underlying t = some (.slice e)) (hc : P.cellsOf e = d.sz) (each : ∀ n cs x, DataW.trod enc P w base (fun _ => true) true n e cs = some x → cs.length = d.sz → ∃ a, d.K w a cs ∧ good a)
    (ho : ∃ a len cap, v = Value.slice a len cap) (h : DataW.Trod enc P w base (fun _ => true) true t v D p) :
    ∃ A c xs, v = .slice A xs.length c ∧ xs.length ≤ c ∧ d.C w A xs.length xs ∧ ∀ x ∈ xs, good x := by
  obtain ⟨a0, l0, c0, rfl⟩ := ho
  obtain ⟨fuel, hf⟩ := h
  rcases Go.Deep.open_slice (e := e) hu hf with ⟨hcs, _⟩ | ⟨a, l, c, m, f2, D', Pl, hcs, _, hl, hm, hmm, _, hx⟩
  · have hcs' : Value.slice a0 l0 c0 = Value.slice none 0 0 := by simpa [Value.cells] using hcs
    rw [hcs']
    exact ⟨none, 0, [], rfl, Nat.le_refl _, ⟨rfl, by simp, fun hn => by simp at hn⟩, fun x hx => by simp at hx⟩
  · have hcs' : Value.slice a0 l0 c0 = Value.slice (some a) l c := by simpa [Value.cells] using hcs
    rw [hcs']
    have hmax : c ≤ 9223372036854775807 := hm
    have hm' : m = c := by simpa using hmm
    have each' : ∀ i, i < l → ∃ o : α, (∃ cs, cs.length = d.sz ∧ d.K w o cs ∧ ∀ j u, cs[j]? = some u → w.cell? (a.add (i * d.sz + j)) = some u) ∧ good o := fun i hi => by
      obtain ⟨cs, h1, h2⟩ := hx i (by omega)
      obtain ⟨_, hl3, hcell⟩ := World.cells?_some h1
      rw [hc] at hl3 hcell h1
      obtain ⟨o, hK, hg⟩ := each f2 cs _ h2 hl3
      refine ⟨o, ⟨cs, hl3, hK, fun j u hj => ?_⟩, hg⟩
      have hjl : j < d.sz := by rw [← hl3]; exact (List.getElem?_eq_some_iff.1 hj).1
      have := hcell j hjl
      rw [← hj, ← this, Addr.add_add]
    obtain ⟨xs, hxl, hxs⟩ := choose_row each'
    refine ⟨some a, c, xs, by rw [hxl], by omega, ⟨rfl, by omega, fun _ => ⟨a, rfl, fun j q hj => ?_⟩⟩, fun x hx => ?_⟩
    · obtain ⟨⟨cs, h1, h2, h3⟩, _⟩ := hxs j q hj
      exact ⟨cs, h1, h2, h3⟩
    · obtain ⟨j, hj, e⟩ := List.getElem_of_mem hx
      exact (hxs j x (by rw [List.getElem?_eq_getElem hj, e])).2
end Go.Proofs.Ytopfaafgfgjfaaa
