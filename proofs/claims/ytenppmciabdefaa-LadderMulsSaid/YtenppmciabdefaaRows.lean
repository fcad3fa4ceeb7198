/-
  No cell of these rows narrows 'for every input' (looked for: loops, veiled, ifaces, maps, wideKeys, modest, calm, conditions, laid).
  DERIVED. THE GIVEN ROWS OF THIS SEAT. 14 by the template 'for every input the law returns true; each argument reads behind the call as it read before'; 0 by the template 'total and deterministic' (their statements: YtenppmciabdefaaTotals.lean).
  GIVEN WITH THE SEED: the statements are not yours to turn. If you find one false, say at which input.
  Laid BY PROGRAM, IN A SANDBOX (cutbox-rows.mjs): the forced cells as the released guide's own fill.sh prints them over the translation 5e6a26545f0458a3… (all of the seat's roots in one cut). By AI agents, Wed Nov 11 2026. No macro, syntax, notation, axiom, sorry.
-/
import Derived.Test.YtenppmciabdefaaChecked
import GoSem.Claim
import GoSem.ClaimJoined
import GoSem.ClaimMapViews
import Derived.JoinedTies
import Derived.KernelRfl
namespace Go.Proofs.Ytenppmciabdefaa
/- THE CELL 'sum', in the pinned program and in every row, IS THE sha256 OF THE DUMP (.gsa) THAT YtenppmciabdefaaProg.lean LOADS. Nothing in Lean hashes anything: it is a label: what it is worth is what the hold of that sum in a sandbox is worth. -/
noncomputable def Try.pinned : Pinned := { name := "ytenppmciabdefaa", sum := "5e6a26545f0458a35e690fef9c4a36360c6dc896e17fc58ecbb31bbf989641e5", checked := Try.checked }
namespace Rows
def none {H : Type} : Left H := { results := [], args := [] }

/-- 'synodlaw03.FieldProducts': WHATEVER THE INPUT: true; the input reads as it did. -/
def fieldProductsSpec : ChangeSpec := { name := "fieldProducts", fn := fun _ => fun
  | [d1, d2] => { results := [.lit (.bool true)], args := [d1, d2] }
  | _ => none }
def fieldProductsRow : OpenClaim := { program := "ytenppmciabdefaa", sum := "5e6a26545f0458a35e690fef9c4a36360c6dc896e17fc58ecbb31bbf989641e5", func := "synod/synodlaw03.FieldProducts", spec := "fieldProducts", inPlace := ["math/bits.Add64"], unfollowed := true, recurses := true, apart := false }
def FieldProductsSaid : Prop := fieldProductsRow.holds Try.pinned (OpenSpec.ofChange fieldProductsSpec)

/-- ITS FALSE NEIGHBOUR: 'it returns false'. Refute it at one input. -/
def fieldProductsWrong : ChangeSpec := { name := "fieldProducts", fn := fun _ => fun
  | [d1, d2] => { results := [.lit (.bool false)], args := [d1, d2] }
  | _ => none }
def FieldProductsWrongFalsely : Prop := fieldProductsRow.holds Try.pinned (OpenSpec.ofChange fieldProductsWrong)

/-- 'synodlaw03.FieldSwaps': WHATEVER THE INPUT: true; the input reads as it did. -/
def fieldSwapsSpec : ChangeSpec := { name := "fieldSwaps", fn := fun _ => fun
  | [d1, d2, d3] => { results := [.lit (.bool true)], args := [d1, d2, d3] }
  | _ => none }
def fieldSwapsRow : OpenClaim := { program := "ytenppmciabdefaa", sum := "5e6a26545f0458a35e690fef9c4a36360c6dc896e17fc58ecbb31bbf989641e5", func := "synod/synodlaw03.FieldSwaps", spec := "fieldSwaps", inPlace := ["math/bits.Add64"], unfollowed := true, recurses := true, apart := false }
def FieldSwapsSaid : Prop := fieldSwapsRow.holds Try.pinned (OpenSpec.ofChange fieldSwapsSpec)

/-- ITS FALSE NEIGHBOUR: 'it returns false'. Refute it at one input. -/
def fieldSwapsWrong : ChangeSpec := { name := "fieldSwaps", fn := fun _ => fun
  | [d1, d2, d3] => { results := [.lit (.bool false)], args := [d1, d2, d3] }
  | _ => none }
def FieldSwapsWrongFalsely : Prop := fieldSwapsRow.holds Try.pinned (OpenSpec.ofChange fieldSwapsWrong)

/-- 'synodlaw03.FieldSums': WHATEVER THE INPUT: true; the input reads as it did. -/
def fieldSumsSpec : ChangeSpec := { name := "fieldSums", fn := fun _ => fun
  | [d1, d2] => { results := [.lit (.bool true)], args := [d1, d2] }
  | _ => none }
def fieldSumsRow : OpenClaim := { program := "ytenppmciabdefaa", sum := "5e6a26545f0458a35e690fef9c4a36360c6dc896e17fc58ecbb31bbf989641e5", func := "synod/synodlaw03.FieldSums", spec := "fieldSums", inPlace := ["math/bits.Add64"], unfollowed := true, recurses := true, apart := false }
def FieldSumsSaid : Prop := fieldSumsRow.holds Try.pinned (OpenSpec.ofChange fieldSumsSpec)

/-- ITS FALSE NEIGHBOUR: 'it returns false'. Refute it at one input. -/
def fieldSumsWrong : ChangeSpec := { name := "fieldSums", fn := fun _ => fun
  | [d1, d2] => { results := [.lit (.bool false)], args := [d1, d2] }
  | _ => none }
def FieldSumsWrongFalsely : Prop := fieldSumsRow.holds Try.pinned (OpenSpec.ofChange fieldSumsWrong)

/-- 'synodlaw03.FieldInverts': WHATEVER THE INPUT: true; the input reads as it did. -/
def fieldInvertsSpec : ChangeSpec := { name := "fieldInverts", fn := fun _ => fun
  | [d] => { results := [.lit (.bool true)], args := [d] }
  | _ => none }
def fieldInvertsRow : OpenClaim := { program := "ytenppmciabdefaa", sum := "5e6a26545f0458a35e690fef9c4a36360c6dc896e17fc58ecbb31bbf989641e5", func := "synod/synodlaw03.FieldInverts", spec := "fieldInverts", inPlace := ["math/bits.Add64"], unfollowed := true, recurses := true, apart := false }
def FieldInvertsSaid : Prop := fieldInvertsRow.holds Try.pinned (OpenSpec.ofChange fieldInvertsSpec)

/-- ITS FALSE NEIGHBOUR: 'it returns false'. Refute it at one input. -/
def fieldInvertsWrong : ChangeSpec := { name := "fieldInverts", fn := fun _ => fun
  | [d] => { results := [.lit (.bool false)], args := [d] }
  | _ => none }
def FieldInvertsWrongFalsely : Prop := fieldInvertsRow.holds Try.pinned (OpenSpec.ofChange fieldInvertsWrong)

/-- 'synodlaw03.FieldLaws': WHATEVER THE INPUT: true; the input reads as it did. -/
def fieldLawsSpec : ChangeSpec := { name := "fieldLaws", fn := fun _ => fun
  | [d1, d2, d3] => { results := [.lit (.bool true)], args := [d1, d2, d3] }
  | _ => none }
def fieldLawsRow : OpenClaim := { program := "ytenppmciabdefaa", sum := "5e6a26545f0458a35e690fef9c4a36360c6dc896e17fc58ecbb31bbf989641e5", func := "synod/synodlaw03.FieldLaws", spec := "fieldLaws", inPlace := ["math/bits.Add64"], unfollowed := true, recurses := true, apart := false }
def FieldLawsSaid : Prop := fieldLawsRow.holds Try.pinned (OpenSpec.ofChange fieldLawsSpec)

/-- ITS FALSE NEIGHBOUR: 'it returns false'. Refute it at one input. -/
def fieldLawsWrong : ChangeSpec := { name := "fieldLaws", fn := fun _ => fun
  | [d1, d2, d3] => { results := [.lit (.bool false)], args := [d1, d2, d3] }
  | _ => none }
def FieldLawsWrongFalsely : Prop := fieldLawsRow.holds Try.pinned (OpenSpec.ofChange fieldLawsWrong)

/-- 'synodlaw03.FieldTwice': WHATEVER THE INPUT: true; the input reads as it did. -/
def fieldTwiceSpec : ChangeSpec := { name := "fieldTwice", fn := fun _ => fun
  | [d1, d2] => { results := [.lit (.bool true)], args := [d1, d2] }
  | _ => none }
def fieldTwiceRow : OpenClaim := { program := "ytenppmciabdefaa", sum := "5e6a26545f0458a35e690fef9c4a36360c6dc896e17fc58ecbb31bbf989641e5", func := "synod/synodlaw03.FieldTwice", spec := "fieldTwice", inPlace := ["math/bits.Add64"], unfollowed := true, recurses := true, apart := false }
def FieldTwiceSaid : Prop := fieldTwiceRow.holds Try.pinned (OpenSpec.ofChange fieldTwiceSpec)

/-- ITS FALSE NEIGHBOUR: 'it returns false'. Refute it at one input. -/
def fieldTwiceWrong : ChangeSpec := { name := "fieldTwice", fn := fun _ => fun
  | [d1, d2] => { results := [.lit (.bool false)], args := [d1, d2] }
  | _ => none }
def FieldTwiceWrongFalsely : Prop := fieldTwiceRow.holds Try.pinned (OpenSpec.ofChange fieldTwiceWrong)

/-- 'synodlaw03.FieldNumbers': WHATEVER THE INPUT: true; the input reads as it did. -/
def fieldNumbersSpec : ChangeSpec := { name := "fieldNumbers", fn := fun _ => fun
  | [d1, d2] => { results := [.lit (.bool true)], args := [d1, d2] }
  | _ => none }
def fieldNumbersRow : OpenClaim := { program := "ytenppmciabdefaa", sum := "5e6a26545f0458a35e690fef9c4a36360c6dc896e17fc58ecbb31bbf989641e5", func := "synod/synodlaw03.FieldNumbers", spec := "fieldNumbers", inPlace := ["math/bits.Add64"], unfollowed := true, recurses := true, apart := false }
def FieldNumbersSaid : Prop := fieldNumbersRow.holds Try.pinned (OpenSpec.ofChange fieldNumbersSpec)

/-- ITS FALSE NEIGHBOUR: 'it returns false'. Refute it at one input. -/
def fieldNumbersWrong : ChangeSpec := { name := "fieldNumbers", fn := fun _ => fun
  | [d1, d2] => { results := [.lit (.bool false)], args := [d1, d2] }
  | _ => none }
def FieldNumbersWrongFalsely : Prop := fieldNumbersRow.holds Try.pinned (OpenSpec.ofChange fieldNumbersWrong)

/-- 'synodlaw03.FieldRoots': WHATEVER THE INPUT: true; the input reads as it did. -/
def fieldRootsSpec : ChangeSpec := { name := "fieldRoots", fn := fun _ => fun
  | [d1, d2] => { results := [.lit (.bool true)], args := [d1, d2] }
  | _ => none }
def fieldRootsRow : OpenClaim := { program := "ytenppmciabdefaa", sum := "5e6a26545f0458a35e690fef9c4a36360c6dc896e17fc58ecbb31bbf989641e5", func := "synod/synodlaw03.FieldRoots", spec := "fieldRoots", inPlace := ["math/bits.Add64"], unfollowed := true, recurses := true, apart := false }
def FieldRootsSaid : Prop := fieldRootsRow.holds Try.pinned (OpenSpec.ofChange fieldRootsSpec)

/-- ITS FALSE NEIGHBOUR: 'it returns false'. Refute it at one input. -/
def fieldRootsWrong : ChangeSpec := { name := "fieldRoots", fn := fun _ => fun
  | [d1, d2] => { results := [.lit (.bool false)], args := [d1, d2] }
  | _ => none }
def FieldRootsWrongFalsely : Prop := fieldRootsRow.holds Try.pinned (OpenSpec.ofChange fieldRootsWrong)

/-- 'synodlaw03.FieldSquares': WHATEVER THE INPUT: true; the input reads as it did. -/
def fieldSquaresSpec : ChangeSpec := { name := "fieldSquares", fn := fun _ => fun
  | [d1, d2] => { results := [.lit (.bool true)], args := [d1, d2] }
  | _ => none }
def fieldSquaresRow : OpenClaim := { program := "ytenppmciabdefaa", sum := "5e6a26545f0458a35e690fef9c4a36360c6dc896e17fc58ecbb31bbf989641e5", func := "synod/synodlaw03.FieldSquares", spec := "fieldSquares", inPlace := ["math/bits.Add64"], unfollowed := true, recurses := true, apart := false }
def FieldSquaresSaid : Prop := fieldSquaresRow.holds Try.pinned (OpenSpec.ofChange fieldSquaresSpec)

/-- ITS FALSE NEIGHBOUR: 'it returns false'. Refute it at one input. -/
def fieldSquaresWrong : ChangeSpec := { name := "fieldSquares", fn := fun _ => fun
  | [d1, d2] => { results := [.lit (.bool false)], args := [d1, d2] }
  | _ => none }
def FieldSquaresWrongFalsely : Prop := fieldSquaresRow.holds Try.pinned (OpenSpec.ofChange fieldSquaresWrong)

/-- 'synodlaw05.LadderClamps': WHATEVER THE INPUT: true; the input reads as it did. -/
def ladderClampsSpec : ChangeSpec := { name := "ladderClamps", fn := fun _ => fun
  | [d] => { results := [.lit (.bool true)], args := [d] }
  | _ => none }
def ladderClampsRow : OpenClaim := { program := "ytenppmciabdefaa", sum := "5e6a26545f0458a35e690fef9c4a36360c6dc896e17fc58ecbb31bbf989641e5", func := "synod/synodlaw05.LadderClamps", spec := "ladderClamps", inPlace := ["math/bits.Add64"], unfollowed := true, recurses := true, apart := false }
def LadderClampsSaid : Prop := ladderClampsRow.holds Try.pinned (OpenSpec.ofChange ladderClampsSpec)

/-- ITS FALSE NEIGHBOUR: 'it returns false'. Refute it at one input. -/
def ladderClampsWrong : ChangeSpec := { name := "ladderClamps", fn := fun _ => fun
  | [d] => { results := [.lit (.bool false)], args := [d] }
  | _ => none }
def LadderClampsWrongFalsely : Prop := ladderClampsRow.holds Try.pinned (OpenSpec.ofChange ladderClampsWrong)

/-- 'synodlaw05.LadderMuls': WHATEVER THE INPUT: true; the input reads as it did. -/
def ladderMulsSpec : ChangeSpec := { name := "ladderMuls", fn := fun _ => fun
  | [d1, d2] => { results := [.lit (.bool true)], args := [d1, d2] }
  | _ => none }
def ladderMulsRow : OpenClaim := { program := "ytenppmciabdefaa", sum := "5e6a26545f0458a35e690fef9c4a36360c6dc896e17fc58ecbb31bbf989641e5", func := "synod/synodlaw05.LadderMuls", spec := "ladderMuls", inPlace := ["math/bits.Add64"], unfollowed := true, recurses := true, apart := false }
def LadderMulsSaid : Prop := ladderMulsRow.holds Try.pinned (OpenSpec.ofChange ladderMulsSpec)

/-- ITS FALSE NEIGHBOUR: 'it returns false'. Refute it at one input. -/
def ladderMulsWrong : ChangeSpec := { name := "ladderMuls", fn := fun _ => fun
  | [d1, d2] => { results := [.lit (.bool false)], args := [d1, d2] }
  | _ => none }
def LadderMulsWrongFalsely : Prop := ladderMulsRow.holds Try.pinned (OpenSpec.ofChange ladderMulsWrong)

/-- 'synodlaw05.LadderAgrees': WHATEVER THE INPUT: true; the input reads as it did. -/
def ladderAgreesSpec : ChangeSpec := { name := "ladderAgrees", fn := fun _ => fun
  | [d1, d2] => { results := [.lit (.bool true)], args := [d1, d2] }
  | _ => none }
def ladderAgreesRow : OpenClaim := { program := "ytenppmciabdefaa", sum := "5e6a26545f0458a35e690fef9c4a36360c6dc896e17fc58ecbb31bbf989641e5", func := "synod/synodlaw05.LadderAgrees", spec := "ladderAgrees", inPlace := ["math/bits.Add64"], unfollowed := true, recurses := true, apart := false }
def LadderAgreesSaid : Prop := ladderAgreesRow.holds Try.pinned (OpenSpec.ofChange ladderAgreesSpec)

/-- ITS FALSE NEIGHBOUR: 'it returns false'. Refute it at one input. -/
def ladderAgreesWrong : ChangeSpec := { name := "ladderAgrees", fn := fun _ => fun
  | [d1, d2] => { results := [.lit (.bool false)], args := [d1, d2] }
  | _ => none }
def LadderAgreesWrongFalsely : Prop := ladderAgreesRow.holds Try.pinned (OpenSpec.ofChange ladderAgreesWrong)

/-- 'synodlaw05.LadderCommutes': WHATEVER THE INPUT: true; the input reads as it did. -/
def ladderCommutesSpec : ChangeSpec := { name := "ladderCommutes", fn := fun _ => fun
  | [d1, d2, d3] => { results := [.lit (.bool true)], args := [d1, d2, d3] }
  | _ => none }
def ladderCommutesRow : OpenClaim := { program := "ytenppmciabdefaa", sum := "5e6a26545f0458a35e690fef9c4a36360c6dc896e17fc58ecbb31bbf989641e5", func := "synod/synodlaw05.LadderCommutes", spec := "ladderCommutes", inPlace := ["math/bits.Add64"], unfollowed := true, recurses := true, apart := false }
def LadderCommutesSaid : Prop := ladderCommutesRow.holds Try.pinned (OpenSpec.ofChange ladderCommutesSpec)

/-- ITS FALSE NEIGHBOUR: 'it returns false'. Refute it at one input. -/
def ladderCommutesWrong : ChangeSpec := { name := "ladderCommutes", fn := fun _ => fun
  | [d1, d2, d3] => { results := [.lit (.bool false)], args := [d1, d2, d3] }
  | _ => none }
def LadderCommutesWrongFalsely : Prop := ladderCommutesRow.holds Try.pinned (OpenSpec.ofChange ladderCommutesWrong)

/-- 'synodlaw05.LadderIgnores': WHATEVER THE INPUT: true; the input reads as it did. -/
def ladderIgnoresSpec : ChangeSpec := { name := "ladderIgnores", fn := fun _ => fun
  | [d1, d2, d3, d4] => { results := [.lit (.bool true)], args := [d1, d2, d3, d4] }
  | _ => none }
def ladderIgnoresRow : OpenClaim := { program := "ytenppmciabdefaa", sum := "5e6a26545f0458a35e690fef9c4a36360c6dc896e17fc58ecbb31bbf989641e5", func := "synod/synodlaw05.LadderIgnores", spec := "ladderIgnores", inPlace := ["math/bits.Add64"], unfollowed := true, recurses := true, apart := false }
def LadderIgnoresSaid : Prop := ladderIgnoresRow.holds Try.pinned (OpenSpec.ofChange ladderIgnoresSpec)

/-- ITS FALSE NEIGHBOUR: 'it returns false'. Refute it at one input. -/
def ladderIgnoresWrong : ChangeSpec := { name := "ladderIgnores", fn := fun _ => fun
  | [d1, d2, d3, d4] => { results := [.lit (.bool false)], args := [d1, d2, d3, d4] }
  | _ => none }
def LadderIgnoresWrongFalsely : Prop := ladderIgnoresRow.holds Try.pinned (OpenSpec.ofChange ladderIgnoresWrong)

/- THE SECOND FORM. 'bulk': how many values and letters a reading holds, each counted each time it is reached (what is shared counts as often as it is met; a slice's spare places count too). A statement '..UptoSaid' is the law's where the arguments, and the package variables that the reading takes, are together of bulk at most 1048576: NARROWER than '..Said'. Prove '..Said' where nothing that the law and all that it calls make is longer than what came in: it says more and counts as full. Else prove '..UptoSaid'. A law counts once. -/
mutual
def uptoBulk {H : Type} : DataW H → Nat
  | .lit (.string bytes) => bytes.length + 1
  | .lit _ => 1
  | .nil => 1
  | .ptr d => uptoBulk d + 1
  | .slice elems spare => uptoBulkAll elems + uptoBulkAll spare + 1
  | .agg parts => uptoBulkAll parts + 1
  | .iface _ d => uptoBulk d + 1
  | .map entries => uptoBulkEntries entries + 1
  | .held _ => 1
def uptoBulkAll {H : Type} : List (DataW H) → Nat
  | [] => 0
  | d :: r => uptoBulk d + uptoBulkAll r
def uptoBulkEntries {H : Type} : List (Lit × DataW H) → Nat
  | [] => 0
  | x :: r => uptoBulkEntry x + uptoBulkEntries r
def uptoBulkEntry {H : Type} : Lit × DataW H → Nat
  | (.string bytes, d) => bytes.length + uptoBulk d + 1
  | (_, d) => uptoBulk d + 1
 end
def uptoSmall : (H : Type) → List (DataW H) → Bool := fun _ ds => decide (uptoBulkAll ds ≤ 1048576)
def OpenSpec.upto (s : _root_.Go.ChangeSpec) : _root_.Go.OpenSpec := { _root_.Go.OpenSpec.ofChange s with cond := some uptoSmall }

/-- 'synodlaw03.FieldProducts', WHERE WHAT IT READS IS OF BULK AT MOST 1048576: true; the input reads as it did. -/
def fieldProductsUptoRow : OpenClaim := { program := "ytenppmciabdefaa", sum := "5e6a26545f0458a35e690fef9c4a36360c6dc896e17fc58ecbb31bbf989641e5", func := "synod/synodlaw03.FieldProducts", spec := "fieldProducts", inPlace := ["math/bits.Add64"], unfollowed := true, recurses := true, apart := false, narrowed := true }
def FieldProductsUptoSaid : Prop := fieldProductsUptoRow.holds Try.pinned (OpenSpec.upto fieldProductsSpec)

/-- 'synodlaw03.FieldSwaps', WHERE WHAT IT READS IS OF BULK AT MOST 1048576: true; the input reads as it did. -/
def fieldSwapsUptoRow : OpenClaim := { program := "ytenppmciabdefaa", sum := "5e6a26545f0458a35e690fef9c4a36360c6dc896e17fc58ecbb31bbf989641e5", func := "synod/synodlaw03.FieldSwaps", spec := "fieldSwaps", inPlace := ["math/bits.Add64"], unfollowed := true, recurses := true, apart := false, narrowed := true }
def FieldSwapsUptoSaid : Prop := fieldSwapsUptoRow.holds Try.pinned (OpenSpec.upto fieldSwapsSpec)

/-- 'synodlaw03.FieldSums', WHERE WHAT IT READS IS OF BULK AT MOST 1048576: true; the input reads as it did. -/
def fieldSumsUptoRow : OpenClaim := { program := "ytenppmciabdefaa", sum := "5e6a26545f0458a35e690fef9c4a36360c6dc896e17fc58ecbb31bbf989641e5", func := "synod/synodlaw03.FieldSums", spec := "fieldSums", inPlace := ["math/bits.Add64"], unfollowed := true, recurses := true, apart := false, narrowed := true }
def FieldSumsUptoSaid : Prop := fieldSumsUptoRow.holds Try.pinned (OpenSpec.upto fieldSumsSpec)

/-- 'synodlaw03.FieldInverts', WHERE WHAT IT READS IS OF BULK AT MOST 1048576: true; the input reads as it did. -/
def fieldInvertsUptoRow : OpenClaim := { program := "ytenppmciabdefaa", sum := "5e6a26545f0458a35e690fef9c4a36360c6dc896e17fc58ecbb31bbf989641e5", func := "synod/synodlaw03.FieldInverts", spec := "fieldInverts", inPlace := ["math/bits.Add64"], unfollowed := true, recurses := true, apart := false, narrowed := true }
def FieldInvertsUptoSaid : Prop := fieldInvertsUptoRow.holds Try.pinned (OpenSpec.upto fieldInvertsSpec)

/-- 'synodlaw03.FieldLaws', WHERE WHAT IT READS IS OF BULK AT MOST 1048576: true; the input reads as it did. -/
def fieldLawsUptoRow : OpenClaim := { program := "ytenppmciabdefaa", sum := "5e6a26545f0458a35e690fef9c4a36360c6dc896e17fc58ecbb31bbf989641e5", func := "synod/synodlaw03.FieldLaws", spec := "fieldLaws", inPlace := ["math/bits.Add64"], unfollowed := true, recurses := true, apart := false, narrowed := true }
def FieldLawsUptoSaid : Prop := fieldLawsUptoRow.holds Try.pinned (OpenSpec.upto fieldLawsSpec)

/-- 'synodlaw03.FieldTwice', WHERE WHAT IT READS IS OF BULK AT MOST 1048576: true; the input reads as it did. -/
def fieldTwiceUptoRow : OpenClaim := { program := "ytenppmciabdefaa", sum := "5e6a26545f0458a35e690fef9c4a36360c6dc896e17fc58ecbb31bbf989641e5", func := "synod/synodlaw03.FieldTwice", spec := "fieldTwice", inPlace := ["math/bits.Add64"], unfollowed := true, recurses := true, apart := false, narrowed := true }
def FieldTwiceUptoSaid : Prop := fieldTwiceUptoRow.holds Try.pinned (OpenSpec.upto fieldTwiceSpec)

/-- 'synodlaw03.FieldNumbers', WHERE WHAT IT READS IS OF BULK AT MOST 1048576: true; the input reads as it did. -/
def fieldNumbersUptoRow : OpenClaim := { program := "ytenppmciabdefaa", sum := "5e6a26545f0458a35e690fef9c4a36360c6dc896e17fc58ecbb31bbf989641e5", func := "synod/synodlaw03.FieldNumbers", spec := "fieldNumbers", inPlace := ["math/bits.Add64"], unfollowed := true, recurses := true, apart := false, narrowed := true }
def FieldNumbersUptoSaid : Prop := fieldNumbersUptoRow.holds Try.pinned (OpenSpec.upto fieldNumbersSpec)

/-- 'synodlaw03.FieldRoots', WHERE WHAT IT READS IS OF BULK AT MOST 1048576: true; the input reads as it did. -/
def fieldRootsUptoRow : OpenClaim := { program := "ytenppmciabdefaa", sum := "5e6a26545f0458a35e690fef9c4a36360c6dc896e17fc58ecbb31bbf989641e5", func := "synod/synodlaw03.FieldRoots", spec := "fieldRoots", inPlace := ["math/bits.Add64"], unfollowed := true, recurses := true, apart := false, narrowed := true }
def FieldRootsUptoSaid : Prop := fieldRootsUptoRow.holds Try.pinned (OpenSpec.upto fieldRootsSpec)

/-- 'synodlaw03.FieldSquares', WHERE WHAT IT READS IS OF BULK AT MOST 1048576: true; the input reads as it did. -/
def fieldSquaresUptoRow : OpenClaim := { program := "ytenppmciabdefaa", sum := "5e6a26545f0458a35e690fef9c4a36360c6dc896e17fc58ecbb31bbf989641e5", func := "synod/synodlaw03.FieldSquares", spec := "fieldSquares", inPlace := ["math/bits.Add64"], unfollowed := true, recurses := true, apart := false, narrowed := true }
def FieldSquaresUptoSaid : Prop := fieldSquaresUptoRow.holds Try.pinned (OpenSpec.upto fieldSquaresSpec)

/-- 'synodlaw05.LadderClamps', WHERE WHAT IT READS IS OF BULK AT MOST 1048576: true; the input reads as it did. -/
def ladderClampsUptoRow : OpenClaim := { program := "ytenppmciabdefaa", sum := "5e6a26545f0458a35e690fef9c4a36360c6dc896e17fc58ecbb31bbf989641e5", func := "synod/synodlaw05.LadderClamps", spec := "ladderClamps", inPlace := ["math/bits.Add64"], unfollowed := true, recurses := true, apart := false, narrowed := true }
def LadderClampsUptoSaid : Prop := ladderClampsUptoRow.holds Try.pinned (OpenSpec.upto ladderClampsSpec)

/-- 'synodlaw05.LadderMuls', WHERE WHAT IT READS IS OF BULK AT MOST 1048576: true; the input reads as it did. -/
def ladderMulsUptoRow : OpenClaim := { program := "ytenppmciabdefaa", sum := "5e6a26545f0458a35e690fef9c4a36360c6dc896e17fc58ecbb31bbf989641e5", func := "synod/synodlaw05.LadderMuls", spec := "ladderMuls", inPlace := ["math/bits.Add64"], unfollowed := true, recurses := true, apart := false, narrowed := true }
def LadderMulsUptoSaid : Prop := ladderMulsUptoRow.holds Try.pinned (OpenSpec.upto ladderMulsSpec)

/-- 'synodlaw05.LadderAgrees', WHERE WHAT IT READS IS OF BULK AT MOST 1048576: true; the input reads as it did. -/
def ladderAgreesUptoRow : OpenClaim := { program := "ytenppmciabdefaa", sum := "5e6a26545f0458a35e690fef9c4a36360c6dc896e17fc58ecbb31bbf989641e5", func := "synod/synodlaw05.LadderAgrees", spec := "ladderAgrees", inPlace := ["math/bits.Add64"], unfollowed := true, recurses := true, apart := false, narrowed := true }
def LadderAgreesUptoSaid : Prop := ladderAgreesUptoRow.holds Try.pinned (OpenSpec.upto ladderAgreesSpec)

/-- 'synodlaw05.LadderCommutes', WHERE WHAT IT READS IS OF BULK AT MOST 1048576: true; the input reads as it did. -/
def ladderCommutesUptoRow : OpenClaim := { program := "ytenppmciabdefaa", sum := "5e6a26545f0458a35e690fef9c4a36360c6dc896e17fc58ecbb31bbf989641e5", func := "synod/synodlaw05.LadderCommutes", spec := "ladderCommutes", inPlace := ["math/bits.Add64"], unfollowed := true, recurses := true, apart := false, narrowed := true }
def LadderCommutesUptoSaid : Prop := ladderCommutesUptoRow.holds Try.pinned (OpenSpec.upto ladderCommutesSpec)

/-- 'synodlaw05.LadderIgnores', WHERE WHAT IT READS IS OF BULK AT MOST 1048576: true; the input reads as it did. -/
def ladderIgnoresUptoRow : OpenClaim := { program := "ytenppmciabdefaa", sum := "5e6a26545f0458a35e690fef9c4a36360c6dc896e17fc58ecbb31bbf989641e5", func := "synod/synodlaw05.LadderIgnores", spec := "ladderIgnores", inPlace := ["math/bits.Add64"], unfollowed := true, recurses := true, apart := false, narrowed := true }
def LadderIgnoresUptoSaid : Prop := ladderIgnoresUptoRow.holds Try.pinned (OpenSpec.upto ladderIgnoresSpec)

end Rows
end Go.Proofs.Ytenppmciabdefaa
