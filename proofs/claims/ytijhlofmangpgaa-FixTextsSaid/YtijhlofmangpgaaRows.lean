/-
  No cell of these rows narrows 'for every input' (looked for: loops, veiled, ifaces, maps, wideKeys, modest, calm, conditions, laid).
  DERIVED. THE GIVEN ROWS OF THIS SEAT. 7 by the template 'for every input the law returns true; each argument reads behind the call as it read before'; 0 by the template 'total and deterministic' (their statements: YtijhlofmangpgaaTotals.lean).
  GIVEN WITH THE SEED: the statements are not yours to turn. If you find one false, say at which input.
  Laid BY PROGRAM, IN A SANDBOX (cutbox-rows.mjs): the forced cells as the released guide's own fill.sh prints them over the translation cc525c1a7770f565… (all of the seat's roots in one cut). By AI agents, Wed Nov 11 2026. No macro, syntax, notation, axiom, sorry.
-/
import Derived.Test.YtijhlofmangpgaaChecked
import GoSem.Claim
import GoSem.ClaimJoined
import GoSem.ClaimMapViews
import Derived.JoinedTies
import Derived.KernelRfl
namespace Go.Proofs.Ytijhlofmangpgaa
/- THE CELL 'sum', in the pinned program and in every row, IS THE sha256 OF THE DUMP (.gsa) THAT YtijhlofmangpgaaProg.lean LOADS. Nothing in Lean hashes anything: it is a label: what it is worth is what the hold of that sum in a sandbox is worth. -/
noncomputable def Try.pinned : Pinned := { name := "ytijhlofmangpgaa", sum := "cc525c1a7770f5654b0aa4900aef0a13da2b59a9fd78d52dca8ea84fb8bcc01c", checked := Try.checked }
namespace Rows
def none {H : Type} : Left H := { results := [], args := [] }

/-- 'hibernaclelaw01.FixParts': WHATEVER THE INPUT: true; the input reads as it did. -/
def fixPartsSpec : ChangeSpec := { name := "fixParts", fn := fun _ => fun
  | [d1, d2] => { results := [.lit (.bool true)], args := [d1, d2] }
  | _ => none }
def fixPartsRow : OpenClaim := { program := "ytijhlofmangpgaa", sum := "cc525c1a7770f5654b0aa4900aef0a13da2b59a9fd78d52dca8ea84fb8bcc01c", func := "hibernacle/hibernaclelaw01.FixParts", spec := "fixParts", apart := false }
def FixPartsSaid : Prop := fixPartsRow.holds Try.pinned (OpenSpec.ofChange fixPartsSpec)

/-- ITS FALSE NEIGHBOUR: 'it returns false'. Refute it at one input. -/
def fixPartsWrong : ChangeSpec := { name := "fixParts", fn := fun _ => fun
  | [d1, d2] => { results := [.lit (.bool false)], args := [d1, d2] }
  | _ => none }
def FixPartsWrongFalsely : Prop := fixPartsRow.holds Try.pinned (OpenSpec.ofChange fixPartsWrong)

/-- 'hibernaclelaw01.FixDivides': WHATEVER THE INPUT: true; the input reads as it did. -/
def fixDividesSpec : ChangeSpec := { name := "fixDivides", fn := fun _ => fun
  | [d1, d2, d3] => { results := [.lit (.bool true)], args := [d1, d2, d3] }
  | _ => none }
def fixDividesRow : OpenClaim := { program := "ytijhlofmangpgaa", sum := "cc525c1a7770f5654b0aa4900aef0a13da2b59a9fd78d52dca8ea84fb8bcc01c", func := "hibernacle/hibernaclelaw01.FixDivides", spec := "fixDivides", apart := false }
def FixDividesSaid : Prop := fixDividesRow.holds Try.pinned (OpenSpec.ofChange fixDividesSpec)

/-- ITS FALSE NEIGHBOUR: 'it returns false'. Refute it at one input. -/
def fixDividesWrong : ChangeSpec := { name := "fixDivides", fn := fun _ => fun
  | [d1, d2, d3] => { results := [.lit (.bool false)], args := [d1, d2, d3] }
  | _ => none }
def FixDividesWrongFalsely : Prop := fixDividesRow.holds Try.pinned (OpenSpec.ofChange fixDividesWrong)

/-- 'hibernaclelaw01.FixSums': WHATEVER THE INPUT: true; the input reads as it did. -/
def fixSumsSpec : ChangeSpec := { name := "fixSums", fn := fun _ => fun
  | [d1, d2] => { results := [.lit (.bool true)], args := [d1, d2] }
  | _ => none }
def fixSumsRow : OpenClaim := { program := "ytijhlofmangpgaa", sum := "cc525c1a7770f5654b0aa4900aef0a13da2b59a9fd78d52dca8ea84fb8bcc01c", func := "hibernacle/hibernaclelaw01.FixSums", spec := "fixSums", apart := false }
def FixSumsSaid : Prop := fixSumsRow.holds Try.pinned (OpenSpec.ofChange fixSumsSpec)

/-- ITS FALSE NEIGHBOUR: 'it returns false'. Refute it at one input. -/
def fixSumsWrong : ChangeSpec := { name := "fixSums", fn := fun _ => fun
  | [d1, d2] => { results := [.lit (.bool false)], args := [d1, d2] }
  | _ => none }
def FixSumsWrongFalsely : Prop := fixSumsRow.holds Try.pinned (OpenSpec.ofChange fixSumsWrong)

/-- 'hibernaclelaw01.FixProducts': WHATEVER THE INPUT: true; the input reads as it did. -/
def fixProductsSpec : ChangeSpec := { name := "fixProducts", fn := fun _ => fun
  | [d1, d2] => { results := [.lit (.bool true)], args := [d1, d2] }
  | _ => none }
def fixProductsRow : OpenClaim := { program := "ytijhlofmangpgaa", sum := "cc525c1a7770f5654b0aa4900aef0a13da2b59a9fd78d52dca8ea84fb8bcc01c", func := "hibernacle/hibernaclelaw01.FixProducts", spec := "fixProducts", apart := false }
def FixProductsSaid : Prop := fixProductsRow.holds Try.pinned (OpenSpec.ofChange fixProductsSpec)

/-- ITS FALSE NEIGHBOUR: 'it returns false'. Refute it at one input. -/
def fixProductsWrong : ChangeSpec := { name := "fixProducts", fn := fun _ => fun
  | [d1, d2] => { results := [.lit (.bool false)], args := [d1, d2] }
  | _ => none }
def FixProductsWrongFalsely : Prop := fixProductsRow.holds Try.pinned (OpenSpec.ofChange fixProductsWrong)

/-- 'hibernaclelaw01.FixPowers': WHATEVER THE INPUT: true; the input reads as it did. -/
def fixPowersSpec : ChangeSpec := { name := "fixPowers", fn := fun _ => fun
  | [d1, d2] => { results := [.lit (.bool true)], args := [d1, d2] }
  | _ => none }
def fixPowersRow : OpenClaim := { program := "ytijhlofmangpgaa", sum := "cc525c1a7770f5654b0aa4900aef0a13da2b59a9fd78d52dca8ea84fb8bcc01c", func := "hibernacle/hibernaclelaw01.FixPowers", spec := "fixPowers", apart := false }
def FixPowersSaid : Prop := fixPowersRow.holds Try.pinned (OpenSpec.ofChange fixPowersSpec)

/-- ITS FALSE NEIGHBOUR: 'it returns false'. Refute it at one input. -/
def fixPowersWrong : ChangeSpec := { name := "fixPowers", fn := fun _ => fun
  | [d1, d2] => { results := [.lit (.bool false)], args := [d1, d2] }
  | _ => none }
def FixPowersWrongFalsely : Prop := fixPowersRow.holds Try.pinned (OpenSpec.ofChange fixPowersWrong)

/-- 'hibernaclelaw01.FixTexts': WHATEVER THE INPUT: true; the input reads as it did. -/
def fixTextsSpec : ChangeSpec := { name := "fixTexts", fn := fun _ => fun
  | [d1, d2, d3] => { results := [.lit (.bool true)], args := [d1, d2, d3] }
  | _ => none }
def fixTextsRow : OpenClaim := { program := "ytijhlofmangpgaa", sum := "cc525c1a7770f5654b0aa4900aef0a13da2b59a9fd78d52dca8ea84fb8bcc01c", func := "hibernacle/hibernaclelaw01.FixTexts", spec := "fixTexts", inPlace := ["internal/bytealg.IndexByteString", "math/bits.Add64"], apart := false }
def FixTextsSaid : Prop := fixTextsRow.holds Try.pinned (OpenSpec.ofChange fixTextsSpec)

/-- ITS FALSE NEIGHBOUR: 'it returns false'. Refute it at one input. -/
def fixTextsWrong : ChangeSpec := { name := "fixTexts", fn := fun _ => fun
  | [d1, d2, d3] => { results := [.lit (.bool false)], args := [d1, d2, d3] }
  | _ => none }
def FixTextsWrongFalsely : Prop := fixTextsRow.holds Try.pinned (OpenSpec.ofChange fixTextsWrong)

/-- 'hibernaclelaw01.FixBack': WHATEVER THE INPUT: true; the input reads as it did. -/
def fixBackSpec : ChangeSpec := { name := "fixBack", fn := fun _ => fun
  | [d1, d2, d3] => { results := [.lit (.bool true)], args := [d1, d2, d3] }
  | _ => none }
def fixBackRow : OpenClaim := { program := "ytijhlofmangpgaa", sum := "cc525c1a7770f5654b0aa4900aef0a13da2b59a9fd78d52dca8ea84fb8bcc01c", func := "hibernacle/hibernaclelaw01.FixBack", spec := "fixBack", inPlace := ["internal/bytealg.IndexByteString", "math/bits.Add64"], apart := false }
def FixBackSaid : Prop := fixBackRow.holds Try.pinned (OpenSpec.ofChange fixBackSpec)

/-- ITS FALSE NEIGHBOUR: 'it returns false'. Refute it at one input. -/
def fixBackWrong : ChangeSpec := { name := "fixBack", fn := fun _ => fun
  | [d1, d2, d3] => { results := [.lit (.bool false)], args := [d1, d2, d3] }
  | _ => none }
def FixBackWrongFalsely : Prop := fixBackRow.holds Try.pinned (OpenSpec.ofChange fixBackWrong)

/- THE SECOND FORM. 'bulk': how many values and letters a reading holds, each counted each time it is reached (what is shared counts as often as it is met; a slice's spare places count too). A statement '..UptoSaid' is the law's where the arguments, and the package variables that the reading takes, are together of bulk at most 1048576: NARROWER than '..Said'. Prove '..Said' where nothing that the law and all that it calls make is longer than what came in: it says more and counts as full. Else prove '..UptoSaid'. A law counts once. -/
mutual
def uptoBulk {H : Type} : DataW H → Nat
  | .lit (.string bytes) => bytes.length + 1
  | .lit _ => 1
  | .nil => 1
  | .ptr d => uptoBulk d + 1
  | .slice elems spare => uptoBulkAll elems + uptoBulkAll spare + 1
  | .agg parts => uptoBulkAll parts + 1
  | .iface _ d => uptoBulk d + 1
  | .map entries => uptoBulkEntries entries + 1
  | .held _ => 1
def uptoBulkAll {H : Type} : List (DataW H) → Nat
  | [] => 0
  | d :: r => uptoBulk d + uptoBulkAll r
def uptoBulkEntries {H : Type} : List (Lit × DataW H) → Nat
  | [] => 0
  | x :: r => uptoBulkEntry x + uptoBulkEntries r
def uptoBulkEntry {H : Type} : Lit × DataW H → Nat
  | (.string bytes, d) => bytes.length + uptoBulk d + 1
  | (_, d) => uptoBulk d + 1
 end
def uptoSmall : (H : Type) → List (DataW H) → Bool := fun _ ds => decide (uptoBulkAll ds ≤ 1048576)
def OpenSpec.upto (s : _root_.Go.ChangeSpec) : _root_.Go.OpenSpec := { _root_.Go.OpenSpec.ofChange s with cond := some uptoSmall }

/-- 'hibernaclelaw01.FixParts', WHERE WHAT IT READS IS OF BULK AT MOST 1048576: true; the input reads as it did. -/
def fixPartsUptoRow : OpenClaim := { program := "ytijhlofmangpgaa", sum := "cc525c1a7770f5654b0aa4900aef0a13da2b59a9fd78d52dca8ea84fb8bcc01c", func := "hibernacle/hibernaclelaw01.FixParts", spec := "fixParts", apart := false, narrowed := true }
def FixPartsUptoSaid : Prop := fixPartsUptoRow.holds Try.pinned (OpenSpec.upto fixPartsSpec)

/-- 'hibernaclelaw01.FixDivides', WHERE WHAT IT READS IS OF BULK AT MOST 1048576: true; the input reads as it did. -/
def fixDividesUptoRow : OpenClaim := { program := "ytijhlofmangpgaa", sum := "cc525c1a7770f5654b0aa4900aef0a13da2b59a9fd78d52dca8ea84fb8bcc01c", func := "hibernacle/hibernaclelaw01.FixDivides", spec := "fixDivides", apart := false, narrowed := true }
def FixDividesUptoSaid : Prop := fixDividesUptoRow.holds Try.pinned (OpenSpec.upto fixDividesSpec)

/-- 'hibernaclelaw01.FixSums', WHERE WHAT IT READS IS OF BULK AT MOST 1048576: true; the input reads as it did. -/
def fixSumsUptoRow : OpenClaim := { program := "ytijhlofmangpgaa", sum := "cc525c1a7770f5654b0aa4900aef0a13da2b59a9fd78d52dca8ea84fb8bcc01c", func := "hibernacle/hibernaclelaw01.FixSums", spec := "fixSums", apart := false, narrowed := true }
def FixSumsUptoSaid : Prop := fixSumsUptoRow.holds Try.pinned (OpenSpec.upto fixSumsSpec)

/-- 'hibernaclelaw01.FixProducts', WHERE WHAT IT READS IS OF BULK AT MOST 1048576: true; the input reads as it did. -/
def fixProductsUptoRow : OpenClaim := { program := "ytijhlofmangpgaa", sum := "cc525c1a7770f5654b0aa4900aef0a13da2b59a9fd78d52dca8ea84fb8bcc01c", func := "hibernacle/hibernaclelaw01.FixProducts", spec := "fixProducts", apart := false, narrowed := true }
def FixProductsUptoSaid : Prop := fixProductsUptoRow.holds Try.pinned (OpenSpec.upto fixProductsSpec)

/-- 'hibernaclelaw01.FixPowers', WHERE WHAT IT READS IS OF BULK AT MOST 1048576: true; the input reads as it did. -/
def fixPowersUptoRow : OpenClaim := { program := "ytijhlofmangpgaa", sum := "cc525c1a7770f5654b0aa4900aef0a13da2b59a9fd78d52dca8ea84fb8bcc01c", func := "hibernacle/hibernaclelaw01.FixPowers", spec := "fixPowers", apart := false, narrowed := true }
def FixPowersUptoSaid : Prop := fixPowersUptoRow.holds Try.pinned (OpenSpec.upto fixPowersSpec)

/-- 'hibernaclelaw01.FixTexts', WHERE WHAT IT READS IS OF BULK AT MOST 1048576: true; the input reads as it did. -/
def fixTextsUptoRow : OpenClaim := { program := "ytijhlofmangpgaa", sum := "cc525c1a7770f5654b0aa4900aef0a13da2b59a9fd78d52dca8ea84fb8bcc01c", func := "hibernacle/hibernaclelaw01.FixTexts", spec := "fixTexts", inPlace := ["internal/bytealg.IndexByteString", "math/bits.Add64"], apart := false, narrowed := true }
def FixTextsUptoSaid : Prop := fixTextsUptoRow.holds Try.pinned (OpenSpec.upto fixTextsSpec)

/-- 'hibernaclelaw01.FixBack', WHERE WHAT IT READS IS OF BULK AT MOST 1048576: true; the input reads as it did. -/
def fixBackUptoRow : OpenClaim := { program := "ytijhlofmangpgaa", sum := "cc525c1a7770f5654b0aa4900aef0a13da2b59a9fd78d52dca8ea84fb8bcc01c", func := "hibernacle/hibernaclelaw01.FixBack", spec := "fixBack", inPlace := ["internal/bytealg.IndexByteString", "math/bits.Add64"], apart := false, narrowed := true }
def FixBackUptoSaid : Prop := fixBackUptoRow.holds Try.pinned (OpenSpec.upto fixBackSpec)

end Rows
end Go.Proofs.Ytijhlofmangpgaa
