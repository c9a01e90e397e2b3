/- The law of keeps, of whatever is handed in. -/
import Derived.Test.YtcohfbmfmlmblaaDkKeepsW
set_option linter.unusedVariables false
set_option linter.unusedSimpArgs false
namespace Go.Proofs.Ytcohfbmfmlmblaa
open Go.RowKit Go.Proofs.YtcohfbmfmlmblaaW.PrintWords Go.Proofs.Ytcohfbmfmlmblaa.PDiskPlays
theorem keeps_law {H : Type} {enc : TypeId × Value → H} (v0 : Value) (D0 : DataW H) (p0 : List MemPlace) (v1 : Value) (D1 : DataW H) (p1 : List MemPlace) (v2 : Value) (D2 : DataW H) (p2 : List MemPlace) (w : World)
    (o0 : Value.okWide Try.prog w .any 0 22 v0) (h0 : DataW.Trod enc Try.prog w 0 (fun _ => true) true 22 v0 D0 p0)
    (o1 : Value.okWide Try.prog w .any 0 22 v1) (h1 : DataW.Trod enc Try.prog w 0 (fun _ => true) true 22 v1 D1 p1)
    (o2 : Value.okWide Try.prog w .any 0 25 v2) (h2 : DataW.Trod enc Try.prog w 0 (fun _ => true) true 25 v2 D2 p2) :
    Calls Try.prog 3 #[v0, v1, v2] w fun e w' => e = .returned (.bool true) ∧ Mod [] w w' := by
  obtain ⟨A, c, ops, rfl, hc, hr, hw⟩ := ops_open o0 h0
  obtain ⟨A', c', more, rfl, hc', hr', hw'⟩ := ops_open o1 h1
  obtain ⟨o, KA, kc, rfl, hkc, hk, ho⟩ := one_open o2 h2
  exact keeps_walk A c ops A' c' more o KA kc w hr hc (fun o ho => (hw o ho).1.2) hr' hc' hw' hk hkc ho
end Go.Proofs.Ytcohfbmfmlmblaa
