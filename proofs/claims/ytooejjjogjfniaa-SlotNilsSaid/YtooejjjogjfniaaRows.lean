/-
  No cell of these rows narrows 'for every input' (looked for: loops, veiled, ifaces, maps, wideKeys, modest, calm, conditions, laid).
  DERIVED. THE GIVEN ROWS OF THIS SEAT. 3 by the template 'for every input the law returns true; each argument reads behind the call as it read before'; 0 by the template 'total and deterministic' (their statements: YtooejjjogjfniaaTotals.lean).
  GIVEN WITH THE SEED: the statements are not yours to turn. If you find one false, say at which input.
  Laid BY PROGRAM, IN A SANDBOX (cutbox-rows.mjs): the forced cells as the released guide's own fill.sh prints them over the translation 0a9dc04a53d9ca36… (all of the seat's roots in one cut). By AI agents, Wed Nov 11 2026. No macro, syntax, notation, axiom, sorry.
-/
import Derived.Test.YtooejjjogjfniaaChecked
import GoSem.Claim
import GoSem.ClaimJoined
import GoSem.ClaimMapViews
import Derived.JoinedTies
import Derived.KernelRfl
namespace Go.Proofs.Ytooejjjogjfniaa
/- THE CELL 'sum', in the pinned program and in every row, IS THE sha256 OF THE DUMP (.gsa) THAT YtooejjjogjfniaaProg.lean LOADS. Nothing in Lean hashes anything: it is a label: what it is worth is what the hold of that sum in a sandbox is worth. -/
noncomputable def Try.pinned : Pinned := { name := "ytooejjjogjfniaa", sum := "0a9dc04a53d9ca362dee017de4caa0394763bd94ccec74e056ed4be66f7cf5eb", checked := Try.checked }
namespace Rows
def none {H : Type} : Left H := { results := [], args := [] }

/-- 'hibernaclelaw09.SlotRoom': WHATEVER THE INPUT: true; the input reads as it did. -/
def slotRoomSpec : ChangeSpec := { name := "slotRoom", fn := fun _ => fun
  | [d] => { results := [.lit (.bool true)], args := [d] }
  | _ => none }
def slotRoomRow : OpenClaim := { program := "ytooejjjogjfniaa", sum := "0a9dc04a53d9ca362dee017de4caa0394763bd94ccec74e056ed4be66f7cf5eb", func := "hibernacle/hibernaclelaw09.SlotRoom", spec := "slotRoom", apart := false }
def SlotRoomSaid : Prop := slotRoomRow.holds Try.pinned (OpenSpec.ofChange slotRoomSpec)

/-- ITS FALSE NEIGHBOUR: 'it returns false'. Refute it at one input. -/
def slotRoomWrong : ChangeSpec := { name := "slotRoom", fn := fun _ => fun
  | [d] => { results := [.lit (.bool false)], args := [d] }
  | _ => none }
def SlotRoomWrongFalsely : Prop := slotRoomRow.holds Try.pinned (OpenSpec.ofChange slotRoomWrong)

/-- 'hibernaclelaw09.SlotPlays': WHATEVER THE INPUT: true; the input reads as it did. -/
def slotPlaysSpec : ChangeSpec := { name := "slotPlays", fn := fun _ => fun
  | [d] => { results := [.lit (.bool true)], args := [d] }
  | _ => none }
def slotPlaysRow : OpenClaim := { program := "ytooejjjogjfniaa", sum := "0a9dc04a53d9ca362dee017de4caa0394763bd94ccec74e056ed4be66f7cf5eb", func := "hibernacle/hibernaclelaw09.SlotPlays", spec := "slotPlays", unfollowed := true, recurses := true, apart := false }
def SlotPlaysSaid : Prop := slotPlaysRow.holds Try.pinned (OpenSpec.ofChange slotPlaysSpec)

/-- ITS FALSE NEIGHBOUR: 'it returns false'. Refute it at one input. -/
def slotPlaysWrong : ChangeSpec := { name := "slotPlays", fn := fun _ => fun
  | [d] => { results := [.lit (.bool false)], args := [d] }
  | _ => none }
def SlotPlaysWrongFalsely : Prop := slotPlaysRow.holds Try.pinned (OpenSpec.ofChange slotPlaysWrong)

/-- 'hibernaclelaw09.SlotNils': WHATEVER THE INPUT: true; the input reads as it did. -/
def slotNilsSpec : ChangeSpec := { name := "slotNils", fn := fun _ => fun
  | [d1, d2, d3] => { results := [.lit (.bool true)], args := [d1, d2, d3] }
  | _ => none }
def slotNilsRow : OpenClaim := { program := "ytooejjjogjfniaa", sum := "0a9dc04a53d9ca362dee017de4caa0394763bd94ccec74e056ed4be66f7cf5eb", func := "hibernacle/hibernaclelaw09.SlotNils", spec := "slotNils", unfollowed := true, recurses := true, apart := false }
def SlotNilsSaid : Prop := slotNilsRow.holds Try.pinned (OpenSpec.ofChange slotNilsSpec)

/-- ITS FALSE NEIGHBOUR: 'it returns false'. Refute it at one input. -/
def slotNilsWrong : ChangeSpec := { name := "slotNils", fn := fun _ => fun
  | [d1, d2, d3] => { results := [.lit (.bool false)], args := [d1, d2, d3] }
  | _ => none }
def SlotNilsWrongFalsely : Prop := slotNilsRow.holds Try.pinned (OpenSpec.ofChange slotNilsWrong)

/- THE SECOND FORM. 'bulk': how many values and letters a reading holds, each counted each time it is reached (what is shared counts as often as it is met; a slice's spare places count too). A statement '..UptoSaid' is the law's where the arguments, and the package variables that the reading takes, are together of bulk at most 1048576: NARROWER than '..Said'. Prove '..Said' where nothing that the law and all that it calls make is longer than what came in: it says more and counts as full. Else prove '..UptoSaid'. A law counts once. -/
mutual
def uptoBulk {H : Type} : DataW H → Nat
  | .lit (.string bytes) => bytes.length + 1
  | .lit _ => 1
  | .nil => 1
  | .ptr d => uptoBulk d + 1
  | .slice elems spare => uptoBulkAll elems + uptoBulkAll spare + 1
  | .agg parts => uptoBulkAll parts + 1
  | .iface _ d => uptoBulk d + 1
  | .map entries => uptoBulkEntries entries + 1
  | .held _ => 1
def uptoBulkAll {H : Type} : List (DataW H) → Nat
  | [] => 0
  | d :: r => uptoBulk d + uptoBulkAll r
def uptoBulkEntries {H : Type} : List (Lit × DataW H) → Nat
  | [] => 0
  | x :: r => uptoBulkEntry x + uptoBulkEntries r
def uptoBulkEntry {H : Type} : Lit × DataW H → Nat
  | (.string bytes, d) => bytes.length + uptoBulk d + 1
  | (_, d) => uptoBulk d + 1
 end
def uptoSmall : (H : Type) → List (DataW H) → Bool := fun _ ds => decide (uptoBulkAll ds ≤ 1048576)
def OpenSpec.upto (s : _root_.Go.ChangeSpec) : _root_.Go.OpenSpec := { _root_.Go.OpenSpec.ofChange s with cond := some uptoSmall }

/-- 'hibernaclelaw09.SlotRoom', WHERE WHAT IT READS IS OF BULK AT MOST 1048576: true; the input reads as it did. -/
def slotRoomUptoRow : OpenClaim := { program := "ytooejjjogjfniaa", sum := "0a9dc04a53d9ca362dee017de4caa0394763bd94ccec74e056ed4be66f7cf5eb", func := "hibernacle/hibernaclelaw09.SlotRoom", spec := "slotRoom", apart := false, narrowed := true }
def SlotRoomUptoSaid : Prop := slotRoomUptoRow.holds Try.pinned (OpenSpec.upto slotRoomSpec)

/-- 'hibernaclelaw09.SlotPlays', WHERE WHAT IT READS IS OF BULK AT MOST 1048576: true; the input reads as it did. -/
def slotPlaysUptoRow : OpenClaim := { program := "ytooejjjogjfniaa", sum := "0a9dc04a53d9ca362dee017de4caa0394763bd94ccec74e056ed4be66f7cf5eb", func := "hibernacle/hibernaclelaw09.SlotPlays", spec := "slotPlays", unfollowed := true, recurses := true, apart := false, narrowed := true }
def SlotPlaysUptoSaid : Prop := slotPlaysUptoRow.holds Try.pinned (OpenSpec.upto slotPlaysSpec)

/-- 'hibernaclelaw09.SlotNils', WHERE WHAT IT READS IS OF BULK AT MOST 1048576: true; the input reads as it did. -/
def slotNilsUptoRow : OpenClaim := { program := "ytooejjjogjfniaa", sum := "0a9dc04a53d9ca362dee017de4caa0394763bd94ccec74e056ed4be66f7cf5eb", func := "hibernacle/hibernaclelaw09.SlotNils", spec := "slotNils", unfollowed := true, recurses := true, apart := false, narrowed := true }
def SlotNilsUptoSaid : Prop := slotNilsUptoRow.holds Try.pinned (OpenSpec.upto slotNilsSpec)

end Rows
end Go.Proofs.Ytooejjjogjfniaa
