/-
  No cell of these rows narrows 'for every input' (looked for: loops, veiled, ifaces, maps, wideKeys, modest, calm, conditions, laid).
  DERIVED. THE GIVEN ROWS OF THIS SEAT. 4 by the template 'for every input the law returns true; each argument reads behind the call as it read before'; 0 by the template 'total and deterministic' (their statements: YtmopnchballegaaTotals.lean).
  GIVEN WITH THE SEED: the statements are not yours to turn. If you find one false, say at which input.
  Laid BY PROGRAM, IN A SANDBOX (cutbox-rows.mjs): the forced cells as the released guide's own fill.sh prints them over the translation f5d23e93818e4fd1… (all of the seat's roots in one cut). By AI agents, Wed Nov 11 2026. No macro, syntax, notation, axiom, sorry.
-/
import Derived.Test.YtmopnchballegaaChecked
import GoSem.Claim
import GoSem.ClaimJoined
import GoSem.ClaimMapViews
import Derived.JoinedTies
import Derived.KernelRfl
namespace Go.Proofs.Ytmopnchballegaa
/- THE CELL 'sum', in the pinned program and in every row, IS THE sha256 OF THE DUMP (.gsa) THAT YtmopnchballegaaProg.lean LOADS. Nothing in Lean hashes anything: it is a label: what it is worth is what the hold of that sum in a sandbox is worth. -/
noncomputable def Try.pinned : Pinned := { name := "ytmopnchballegaa", sum := "f5d23e93818e4fd190270962c683817ce7b86d992cce5ccc870a579f6d507af6", checked := Try.checked }
namespace Rows
def none {H : Type} : Left H := { results := [], args := [] }

/-- 'hibernaclelaw10.SymPlays': WHATEVER THE INPUT: true; the input reads as it did. -/
def symPlaysSpec : ChangeSpec := { name := "symPlays", fn := fun _ => fun
  | [d] => { results := [.lit (.bool true)], args := [d] }
  | _ => none }
def symPlaysRow : OpenClaim := { program := "ytmopnchballegaa", sum := "f5d23e93818e4fd190270962c683817ce7b86d992cce5ccc870a579f6d507af6", func := "hibernacle/hibernaclelaw10.SymPlays", spec := "symPlays", recurses := true, apart := false }
def SymPlaysSaid : Prop := symPlaysRow.holds Try.pinned (OpenSpec.ofChange symPlaysSpec)

/-- ITS FALSE NEIGHBOUR: 'it returns false'. Refute it at one input. -/
def symPlaysWrong : ChangeSpec := { name := "symPlays", fn := fun _ => fun
  | [d] => { results := [.lit (.bool false)], args := [d] }
  | _ => none }
def SymPlaysWrongFalsely : Prop := symPlaysRow.holds Try.pinned (OpenSpec.ofChange symPlaysWrong)

/-- 'hibernaclelaw10.SymNames': WHATEVER THE INPUT: true; the input reads as it did. -/
def symNamesSpec : ChangeSpec := { name := "symNames", fn := fun _ => fun
  | [d1, d2, d3] => { results := [.lit (.bool true)], args := [d1, d2, d3] }
  | _ => none }
def symNamesRow : OpenClaim := { program := "ytmopnchballegaa", sum := "f5d23e93818e4fd190270962c683817ce7b86d992cce5ccc870a579f6d507af6", func := "hibernacle/hibernaclelaw10.SymNames", spec := "symNames", recurses := true, apart := false }
def SymNamesSaid : Prop := symNamesRow.holds Try.pinned (OpenSpec.ofChange symNamesSpec)

/-- ITS FALSE NEIGHBOUR: 'it returns false'. Refute it at one input. -/
def symNamesWrong : ChangeSpec := { name := "symNames", fn := fun _ => fun
  | [d1, d2, d3] => { results := [.lit (.bool false)], args := [d1, d2, d3] }
  | _ => none }
def SymNamesWrongFalsely : Prop := symNamesRow.holds Try.pinned (OpenSpec.ofChange symNamesWrong)

/-- 'hibernaclelaw10.SymFresh': WHATEVER THE INPUT: true; the input reads as it did. -/
def symFreshSpec : ChangeSpec := { name := "symFresh", fn := fun _ => fun
  | [d1, d2] => { results := [.lit (.bool true)], args := [d1, d2] }
  | _ => none }
def symFreshRow : OpenClaim := { program := "ytmopnchballegaa", sum := "f5d23e93818e4fd190270962c683817ce7b86d992cce5ccc870a579f6d507af6", func := "hibernacle/hibernaclelaw10.SymFresh", spec := "symFresh", recurses := true, apart := false }
def SymFreshSaid : Prop := symFreshRow.holds Try.pinned (OpenSpec.ofChange symFreshSpec)

/-- ITS FALSE NEIGHBOUR: 'it returns false'. Refute it at one input. -/
def symFreshWrong : ChangeSpec := { name := "symFresh", fn := fun _ => fun
  | [d1, d2] => { results := [.lit (.bool false)], args := [d1, d2] }
  | _ => none }
def SymFreshWrongFalsely : Prop := symFreshRow.holds Try.pinned (OpenSpec.ofChange symFreshWrong)

/-- 'hibernaclelaw10.SymCopies': WHATEVER THE INPUT: true; the input reads as it did. -/
def symCopiesSpec : ChangeSpec := { name := "symCopies", fn := fun _ => fun
  | [d1, d2, d3] => { results := [.lit (.bool true)], args := [d1, d2, d3] }
  | _ => none }
def symCopiesRow : OpenClaim := { program := "ytmopnchballegaa", sum := "f5d23e93818e4fd190270962c683817ce7b86d992cce5ccc870a579f6d507af6", func := "hibernacle/hibernaclelaw10.SymCopies", spec := "symCopies", inPlace := ["maps.clone"], recurses := true, apart := false }
def SymCopiesSaid : Prop := symCopiesRow.holds Try.pinned (OpenSpec.ofChange symCopiesSpec)

/-- ITS FALSE NEIGHBOUR: 'it returns false'. Refute it at one input. -/
def symCopiesWrong : ChangeSpec := { name := "symCopies", fn := fun _ => fun
  | [d1, d2, d3] => { results := [.lit (.bool false)], args := [d1, d2, d3] }
  | _ => none }
def SymCopiesWrongFalsely : Prop := symCopiesRow.holds Try.pinned (OpenSpec.ofChange symCopiesWrong)

/- THE SECOND FORM. 'bulk': how many values and letters a reading holds, each counted each time it is reached (what is shared counts as often as it is met; a slice's spare places count too). A statement '..UptoSaid' is the law's where the arguments, and the package variables that the reading takes, are together of bulk at most 1048576: NARROWER than '..Said'. Prove '..Said' where nothing that the law and all that it calls make is longer than what came in: it says more and counts as full. Else prove '..UptoSaid'. A law counts once. -/
mutual
def uptoBulk {H : Type} : DataW H → Nat
  | .lit (.string bytes) => bytes.length + 1
  | .lit _ => 1
  | .nil => 1
  | .ptr d => uptoBulk d + 1
  | .slice elems spare => uptoBulkAll elems + uptoBulkAll spare + 1
  | .agg parts => uptoBulkAll parts + 1
  | .iface _ d => uptoBulk d + 1
  | .map entries => uptoBulkEntries entries + 1
  | .held _ => 1
def uptoBulkAll {H : Type} : List (DataW H) → Nat
  | [] => 0
  | d :: r => uptoBulk d + uptoBulkAll r
def uptoBulkEntries {H : Type} : List (Lit × DataW H) → Nat
  | [] => 0
  | x :: r => uptoBulkEntry x + uptoBulkEntries r
def uptoBulkEntry {H : Type} : Lit × DataW H → Nat
  | (.string bytes, d) => bytes.length + uptoBulk d + 1
  | (_, d) => uptoBulk d + 1
 end
def uptoSmall : (H : Type) → List (DataW H) → Bool := fun _ ds => decide (uptoBulkAll ds ≤ 1048576)
def OpenSpec.upto (s : _root_.Go.ChangeSpec) : _root_.Go.OpenSpec := { _root_.Go.OpenSpec.ofChange s with cond := some uptoSmall }

/-- 'hibernaclelaw10.SymPlays', WHERE WHAT IT READS IS OF BULK AT MOST 1048576: true; the input reads as it did. -/
def symPlaysUptoRow : OpenClaim := { program := "ytmopnchballegaa", sum := "f5d23e93818e4fd190270962c683817ce7b86d992cce5ccc870a579f6d507af6", func := "hibernacle/hibernaclelaw10.SymPlays", spec := "symPlays", recurses := true, apart := false, narrowed := true }
def SymPlaysUptoSaid : Prop := symPlaysUptoRow.holds Try.pinned (OpenSpec.upto symPlaysSpec)

/-- 'hibernaclelaw10.SymNames', WHERE WHAT IT READS IS OF BULK AT MOST 1048576: true; the input reads as it did. -/
def symNamesUptoRow : OpenClaim := { program := "ytmopnchballegaa", sum := "f5d23e93818e4fd190270962c683817ce7b86d992cce5ccc870a579f6d507af6", func := "hibernacle/hibernaclelaw10.SymNames", spec := "symNames", recurses := true, apart := false, narrowed := true }
def SymNamesUptoSaid : Prop := symNamesUptoRow.holds Try.pinned (OpenSpec.upto symNamesSpec)

/-- 'hibernaclelaw10.SymFresh', WHERE WHAT IT READS IS OF BULK AT MOST 1048576: true; the input reads as it did. -/
def symFreshUptoRow : OpenClaim := { program := "ytmopnchballegaa", sum := "f5d23e93818e4fd190270962c683817ce7b86d992cce5ccc870a579f6d507af6", func := "hibernacle/hibernaclelaw10.SymFresh", spec := "symFresh", recurses := true, apart := false, narrowed := true }
def SymFreshUptoSaid : Prop := symFreshUptoRow.holds Try.pinned (OpenSpec.upto symFreshSpec)

/-- 'hibernaclelaw10.SymCopies', WHERE WHAT IT READS IS OF BULK AT MOST 1048576: true; the input reads as it did. -/
def symCopiesUptoRow : OpenClaim := { program := "ytmopnchballegaa", sum := "f5d23e93818e4fd190270962c683817ce7b86d992cce5ccc870a579f6d507af6", func := "hibernacle/hibernaclelaw10.SymCopies", spec := "symCopies", inPlace := ["maps.clone"], recurses := true, apart := false, narrowed := true }
def SymCopiesUptoSaid : Prop := symCopiesUptoRow.holds Try.pinned (OpenSpec.upto symCopiesSpec)

end Rows
end Go.Proofs.Ytmopnchballegaa
