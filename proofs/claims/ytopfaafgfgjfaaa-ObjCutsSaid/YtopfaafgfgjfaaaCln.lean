/- A row that is copied is a row of its own. Over any program. -/
import Derived.Test.YtopfaafgfgjfaaaOwn
import Derived.Lib.SliceRun
import Derived.OwnWalk
set_option linter.unusedVariables false
set_option linter.unusedSimpArgs false
namespace Go.Proofs.Ytopfaafgfgjfaaa
open Go.RowKit Go.Proofs.YtopfaafgfgjfaaaW.PrintWords
/-- The cells of a row that is read, one element behind the other. -/
theorem gather {α : Type} (d : Kd α) {w : World} {ad : Addr} {xs : List α} (h : Kd.C d w (some ad) xs.length xs) : ∀ m, m ≤ xs.length → ∃ inner, Reps (d.K w) d.sz (xs.take m) inner ∧ (∀ (j : Nat) u, inner[j]? = some u → w.cell? (ad.add j) = some u) ∧ ∀ u ∈ inner, u.oneCell' = true
  | 0, _ => ⟨[], Reps.none _ _, fun j u h => by simp at h, fun u h => by cases h⟩
  | m + 1, hm => by
    obtain ⟨inner, h1, h2, h3⟩ := gather d h m (by omega)
    obtain ⟨ad', e, hx⟩ := h.2.2 (by omega)
    injection e with e
    subst e
    have hmm : xs[m]? = some xs[m] := List.getElem?_eq_getElem (by omega)
    obtain ⟨c, hc1, hc2, hc3⟩ := hx m _ hmm
    have hil : inner.length = m * d.sz := by rw [h1.1, List.length_take]; congr 1; omega
    refine ⟨inner ++ c, ?_, fun j u hj => ?_, fun u hu => ?_⟩
    · rw [List.take_add_one, hmm]
      exact h1.snoc hc2 hc1
    · by_cases hlt : j < inner.length
      · rw [List.getElem?_append_left hlt] at hj
        exact h2 j u hj
      · rw [List.getElem?_append_right (by omega)] at hj
        have := hc3 _ _ hj
        rw [show m * d.sz + (j - inner.length) = j by omega] at this
        exact this
    · rcases List.mem_append.1 hu with hu | hu
      · exact h3 u hu
      · exact d.K_one hc2 u hu
/-- A row that was copied is a row of its own. -/
theorem copied {α : Type} {d : Kd α} {e base : Nat} {w1 : World} {v : Value} {xs : List α} {inner : List Value} {w : World} (hKM : ∀ x cs (ok : Nat → Prop), d.K w x cs → d.M w1 base ok x cs) (h1 : Reps (d.K w) d.sz xs inner) (ho : w1.ownsRow base e d.sz v xs.length inner) :
    d.R e w1 base (fun _ => True) v xs := ⟨fun _ _ => trivial, inner, ho, h1.imp_ (fun p c hp => hKM p c _ hp)⟩
def CloneP {α : Type} (d : Kd α) (e : Nat) (w : World) (xs : List α) (en : Ending) (w' : World) : Prop := ∃ v, en = .returned v ∧ Mod [] w w' ∧ d.R e w' 0 (fun k => w.heap.size ≤ k ∧ k < w'.heap.size) v xs
theorem cloneP_nil {α : Type} (d : Kd α) (e : Nat) (w : World) : CloneP d e w [] (.returned (.slice none 0 0)) w := ⟨_, rfl, Mod.refl [] w, Kd.R_nil _ _ _ _ _⟩
theorem cloneP_mk {α : Type} {d : Kd α} {e : Nat} {w w1 : World} {v : Value} {xs : List α} {inner : List Value} (hb : Below w.heap.size w w1) (hKM : ∀ x cs (ok : Nat → Prop), d.K w x cs → d.M w1 w.heap.size ok x cs) (h1 : Reps (d.K w) d.sz xs inner) (ho : w1.ownsRow w.heap.size e d.sz v xs.length inner) : CloneP d e w xs (.returned v) w1 :=
  ⟨v, rfl, Mod.of_below hb, Kd.R_lower (Kd.R_mono (Kd.R_bound (copied hKM h1 ho)) (fun k hk => ⟨hk.2.1, hk.2.2.1⟩)) (Nat.zero_le _)⟩
end Go.Proofs.Ytopfaafgfgjfaaa
