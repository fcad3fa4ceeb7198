/-
  No cell of these rows narrows 'for every input' (looked for: loops, veiled, ifaces, maps, wideKeys, modest, calm, conditions, laid).
  DERIVED. THE GIVEN ROWS OF THIS SEAT. 5 by the template 'for every input the law returns true; each argument reads behind the call as it read before'; 0 by the template 'total and deterministic' (their statements: YtdcfpgclnhacmaaTotals.lean).
  GIVEN WITH THE SEED: the statements are not yours to turn. If you find one false, say at which input.
  Laid BY PROGRAM, IN A SANDBOX (cutbox-rows.mjs): the forced cells as the released guide's own fill.sh prints them over the translation 2dab6035bef2b560… (all of the seat's roots in one cut). By AI agents, Wed Nov 11 2026. No macro, syntax, notation, axiom, sorry.
-/
import Derived.Test.YtdcfpgclnhacmaaChecked
import GoSem.Claim
import GoSem.ClaimJoined
import GoSem.ClaimMapViews
import Derived.JoinedTies
import Derived.KernelRfl
namespace Go.Proofs.Ytdcfpgclnhacmaa
/- THE CELL 'sum', in the pinned program and in every row, IS THE sha256 OF THE DUMP (.gsa) THAT YtdcfpgclnhacmaaProg.lean LOADS. Nothing in Lean hashes anything: it is a label: what it is worth is what the hold of that sum in a sandbox is worth. -/
noncomputable def Try.pinned : Pinned := { name := "ytdcfpgclnhacmaa", sum := "2dab6035bef2b560133cd727ec1f8297150a8073c0849aed8c1ab56426e8ed6e", checked := Try.checked }
namespace Rows
def none {H : Type} : Left H := { results := [], args := [] }

/-- 'synodlaw04.ScalarProducts': WHATEVER THE INPUT: true; the input reads as it did. -/
def scalarProductsSpec : ChangeSpec := { name := "scalarProducts", fn := fun _ => fun
  | [d1, d2, d3] => { results := [.lit (.bool true)], args := [d1, d2, d3] }
  | _ => none }
def scalarProductsRow : OpenClaim := { program := "ytdcfpgclnhacmaa", sum := "2dab6035bef2b560133cd727ec1f8297150a8073c0849aed8c1ab56426e8ed6e", func := "synod/synodlaw04.ScalarProducts", spec := "scalarProducts", inPlace := ["math/bits.Add64", "math/bits.Sub64"], apart := false }
def ScalarProductsSaid : Prop := scalarProductsRow.holds Try.pinned (OpenSpec.ofChange scalarProductsSpec)

/-- ITS FALSE NEIGHBOUR: 'it returns false'. Refute it at one input. -/
def scalarProductsWrong : ChangeSpec := { name := "scalarProducts", fn := fun _ => fun
  | [d1, d2, d3] => { results := [.lit (.bool false)], args := [d1, d2, d3] }
  | _ => none }
def ScalarProductsWrongFalsely : Prop := scalarProductsRow.holds Try.pinned (OpenSpec.ofChange scalarProductsWrong)

/-- 'synodlaw04.ScalarNegs': WHATEVER THE INPUT: true; the input reads as it did. -/
def scalarNegsSpec : ChangeSpec := { name := "scalarNegs", fn := fun _ => fun
  | [d] => { results := [.lit (.bool true)], args := [d] }
  | _ => none }
def scalarNegsRow : OpenClaim := { program := "ytdcfpgclnhacmaa", sum := "2dab6035bef2b560133cd727ec1f8297150a8073c0849aed8c1ab56426e8ed6e", func := "synod/synodlaw04.ScalarNegs", spec := "scalarNegs", inPlace := ["math/bits.Sub64", "math/bits.Add64"], apart := false }
def ScalarNegsSaid : Prop := scalarNegsRow.holds Try.pinned (OpenSpec.ofChange scalarNegsSpec)

/-- ITS FALSE NEIGHBOUR: 'it returns false'. Refute it at one input. -/
def scalarNegsWrong : ChangeSpec := { name := "scalarNegs", fn := fun _ => fun
  | [d] => { results := [.lit (.bool false)], args := [d] }
  | _ => none }
def ScalarNegsWrongFalsely : Prop := scalarNegsRow.holds Try.pinned (OpenSpec.ofChange scalarNegsWrong)

/-- 'synodlaw04.ScalarReduces': WHATEVER THE INPUT: true; the input reads as it did. -/
def scalarReducesSpec : ChangeSpec := { name := "scalarReduces", fn := fun _ => fun
  | [d] => { results := [.lit (.bool true)], args := [d] }
  | _ => none }
def scalarReducesRow : OpenClaim := { program := "ytdcfpgclnhacmaa", sum := "2dab6035bef2b560133cd727ec1f8297150a8073c0849aed8c1ab56426e8ed6e", func := "synod/synodlaw04.ScalarReduces", spec := "scalarReduces", inPlace := ["math/bits.Sub64", "math/bits.Add64"], apart := false }
def ScalarReducesSaid : Prop := scalarReducesRow.holds Try.pinned (OpenSpec.ofChange scalarReducesSpec)

/-- ITS FALSE NEIGHBOUR: 'it returns false'. Refute it at one input. -/
def scalarReducesWrong : ChangeSpec := { name := "scalarReduces", fn := fun _ => fun
  | [d] => { results := [.lit (.bool false)], args := [d] }
  | _ => none }
def ScalarReducesWrongFalsely : Prop := scalarReducesRow.holds Try.pinned (OpenSpec.ofChange scalarReducesWrong)

/-- 'synodlaw04.ScalarLaws': WHATEVER THE INPUT: true; the input reads as it did. -/
def scalarLawsSpec : ChangeSpec := { name := "scalarLaws", fn := fun _ => fun
  | [d1, d2, d3] => { results := [.lit (.bool true)], args := [d1, d2, d3] }
  | _ => none }
def scalarLawsRow : OpenClaim := { program := "ytdcfpgclnhacmaa", sum := "2dab6035bef2b560133cd727ec1f8297150a8073c0849aed8c1ab56426e8ed6e", func := "synod/synodlaw04.ScalarLaws", spec := "scalarLaws", inPlace := ["math/bits.Sub64", "math/bits.Add64"], apart := false }
def ScalarLawsSaid : Prop := scalarLawsRow.holds Try.pinned (OpenSpec.ofChange scalarLawsSpec)

/-- ITS FALSE NEIGHBOUR: 'it returns false'. Refute it at one input. -/
def scalarLawsWrong : ChangeSpec := { name := "scalarLaws", fn := fun _ => fun
  | [d1, d2, d3] => { results := [.lit (.bool false)], args := [d1, d2, d3] }
  | _ => none }
def ScalarLawsWrongFalsely : Prop := scalarLawsRow.holds Try.pinned (OpenSpec.ofChange scalarLawsWrong)

/-- 'synodlaw04.ScalarOne': WHATEVER THE INPUT: true; the input reads as it did. -/
def scalarOneSpec : ChangeSpec := { name := "scalarOne", fn := fun _ => fun
  | [d] => { results := [.lit (.bool true)], args := [d] }
  | _ => none }
def scalarOneRow : OpenClaim := { program := "ytdcfpgclnhacmaa", sum := "2dab6035bef2b560133cd727ec1f8297150a8073c0849aed8c1ab56426e8ed6e", func := "synod/synodlaw04.ScalarOne", spec := "scalarOne", inPlace := ["math/bits.Sub64", "math/bits.Add64"], apart := false }
def ScalarOneSaid : Prop := scalarOneRow.holds Try.pinned (OpenSpec.ofChange scalarOneSpec)

/-- ITS FALSE NEIGHBOUR: 'it returns false'. Refute it at one input. -/
def scalarOneWrong : ChangeSpec := { name := "scalarOne", fn := fun _ => fun
  | [d] => { results := [.lit (.bool false)], args := [d] }
  | _ => none }
def ScalarOneWrongFalsely : Prop := scalarOneRow.holds Try.pinned (OpenSpec.ofChange scalarOneWrong)

/- THE SECOND FORM. 'bulk': how many values and letters a reading holds, each counted each time it is reached (what is shared counts as often as it is met; a slice's spare places count too). A statement '..UptoSaid' is the law's where the arguments, and the package variables that the reading takes, are together of bulk at most 1048576: NARROWER than '..Said'. Prove '..Said' where nothing that the law and all that it calls make is longer than what came in: it says more and counts as full. Else prove '..UptoSaid'. A law counts once. -/
mutual
def uptoBulk {H : Type} : DataW H → Nat
  | .lit (.string bytes) => bytes.length + 1
  | .lit _ => 1
  | .nil => 1
  | .ptr d => uptoBulk d + 1
  | .slice elems spare => uptoBulkAll elems + uptoBulkAll spare + 1
  | .agg parts => uptoBulkAll parts + 1
  | .iface _ d => uptoBulk d + 1
  | .map entries => uptoBulkEntries entries + 1
  | .held _ => 1
def uptoBulkAll {H : Type} : List (DataW H) → Nat
  | [] => 0
  | d :: r => uptoBulk d + uptoBulkAll r
def uptoBulkEntries {H : Type} : List (Lit × DataW H) → Nat
  | [] => 0
  | x :: r => uptoBulkEntry x + uptoBulkEntries r
def uptoBulkEntry {H : Type} : Lit × DataW H → Nat
  | (.string bytes, d) => bytes.length + uptoBulk d + 1
  | (_, d) => uptoBulk d + 1
 end
def uptoSmall : (H : Type) → List (DataW H) → Bool := fun _ ds => decide (uptoBulkAll ds ≤ 1048576)
def OpenSpec.upto (s : _root_.Go.ChangeSpec) : _root_.Go.OpenSpec := { _root_.Go.OpenSpec.ofChange s with cond := some uptoSmall }

/-- 'synodlaw04.ScalarProducts', WHERE WHAT IT READS IS OF BULK AT MOST 1048576: true; the input reads as it did. -/
def scalarProductsUptoRow : OpenClaim := { program := "ytdcfpgclnhacmaa", sum := "2dab6035bef2b560133cd727ec1f8297150a8073c0849aed8c1ab56426e8ed6e", func := "synod/synodlaw04.ScalarProducts", spec := "scalarProducts", inPlace := ["math/bits.Add64", "math/bits.Sub64"], apart := false, narrowed := true }
def ScalarProductsUptoSaid : Prop := scalarProductsUptoRow.holds Try.pinned (OpenSpec.upto scalarProductsSpec)

/-- 'synodlaw04.ScalarNegs', WHERE WHAT IT READS IS OF BULK AT MOST 1048576: true; the input reads as it did. -/
def scalarNegsUptoRow : OpenClaim := { program := "ytdcfpgclnhacmaa", sum := "2dab6035bef2b560133cd727ec1f8297150a8073c0849aed8c1ab56426e8ed6e", func := "synod/synodlaw04.ScalarNegs", spec := "scalarNegs", inPlace := ["math/bits.Sub64", "math/bits.Add64"], apart := false, narrowed := true }
def ScalarNegsUptoSaid : Prop := scalarNegsUptoRow.holds Try.pinned (OpenSpec.upto scalarNegsSpec)

/-- 'synodlaw04.ScalarReduces', WHERE WHAT IT READS IS OF BULK AT MOST 1048576: true; the input reads as it did. -/
def scalarReducesUptoRow : OpenClaim := { program := "ytdcfpgclnhacmaa", sum := "2dab6035bef2b560133cd727ec1f8297150a8073c0849aed8c1ab56426e8ed6e", func := "synod/synodlaw04.ScalarReduces", spec := "scalarReduces", inPlace := ["math/bits.Sub64", "math/bits.Add64"], apart := false, narrowed := true }
def ScalarReducesUptoSaid : Prop := scalarReducesUptoRow.holds Try.pinned (OpenSpec.upto scalarReducesSpec)

/-- 'synodlaw04.ScalarLaws', WHERE WHAT IT READS IS OF BULK AT MOST 1048576: true; the input reads as it did. -/
def scalarLawsUptoRow : OpenClaim := { program := "ytdcfpgclnhacmaa", sum := "2dab6035bef2b560133cd727ec1f8297150a8073c0849aed8c1ab56426e8ed6e", func := "synod/synodlaw04.ScalarLaws", spec := "scalarLaws", inPlace := ["math/bits.Sub64", "math/bits.Add64"], apart := false, narrowed := true }
def ScalarLawsUptoSaid : Prop := scalarLawsUptoRow.holds Try.pinned (OpenSpec.upto scalarLawsSpec)

/-- 'synodlaw04.ScalarOne', WHERE WHAT IT READS IS OF BULK AT MOST 1048576: true; the input reads as it did. -/
def scalarOneUptoRow : OpenClaim := { program := "ytdcfpgclnhacmaa", sum := "2dab6035bef2b560133cd727ec1f8297150a8073c0849aed8c1ab56426e8ed6e", func := "synod/synodlaw04.ScalarOne", spec := "scalarOne", inPlace := ["math/bits.Sub64", "math/bits.Add64"], apart := false, narrowed := true }
def ScalarOneUptoSaid : Prop := scalarOneUptoRow.holds Try.pinned (OpenSpec.upto scalarOneSpec)

end Rows
end Go.Proofs.Ytdcfpgclnhacmaa
