/-
  No cell of these rows narrows 'for every input' (looked for: loops, veiled, ifaces, maps, wideKeys, modest, calm, conditions, laid).
  DERIVED. THE GIVEN ROWS OF THIS SEAT. 5 by the template 'for every input the law returns true; each argument reads behind the call as it read before'; 0 by the template 'total and deterministic' (their statements: YtiebggfpjkhlaaaTotals.lean).
  GIVEN WITH THE SEED: the statements are not yours to turn. If you find one false, say at which input.
  Laid BY PROGRAM, IN A SANDBOX (cutbox-rows.mjs): the forced cells as the released guide's own fill.sh prints them over the translation 62cbadf4b765156e… (all of the seat's roots in one cut). By AI agents, Wed Nov 11 2026. No macro, syntax, notation, axiom, sorry.
-/
import Derived.Test.YtiebggfpjkhlaaaChecked
import GoSem.Claim
import GoSem.ClaimJoined
import GoSem.ClaimMapViews
import Derived.JoinedTies
import Derived.KernelRfl
namespace Go.Proofs.Ytiebggfpjkhlaaa
/- THE CELL 'sum', in the pinned program and in every row, IS THE sha256 OF THE DUMP (.gsa) THAT YtiebggfpjkhlaaaProg.lean LOADS. Nothing in Lean hashes anything: it is a label: what it is worth is what the hold of that sum in a sandbox is worth. -/
noncomputable def Try.pinned : Pinned := { name := "ytiebggfpjkhlaaa", sum := "62cbadf4b765156e57a0e989b80aaf8314399f2c1ed3c8aec952656e10b0c42b", checked := Try.checked }
namespace Rows
def none {H : Type} : Left H := { results := [], args := [] }

/-- 'synodlaw22.ServiceFull': WHATEVER THE INPUT: true; the input reads as it did. -/
def serviceFullSpec : ChangeSpec := { name := "serviceFull", fn := fun _ => fun
  | [d1, d2] => { results := [.lit (.bool true)], args := [d1, d2] }
  | _ => none }
def serviceFullRow : OpenClaim := { program := "ytiebggfpjkhlaaa", sum := "62cbadf4b765156e57a0e989b80aaf8314399f2c1ed3c8aec952656e10b0c42b", func := "synod/synodlaw22.ServiceFull", spec := "serviceFull", unfollowed := true, recurses := true, apart := false }
def ServiceFullSaid : Prop := serviceFullRow.holds Try.pinned (OpenSpec.ofChange serviceFullSpec)

/-- ITS FALSE NEIGHBOUR: 'it returns false'. Refute it at one input. -/
def serviceFullWrong : ChangeSpec := { name := "serviceFull", fn := fun _ => fun
  | [d1, d2] => { results := [.lit (.bool false)], args := [d1, d2] }
  | _ => none }
def ServiceFullWrongFalsely : Prop := serviceFullRow.holds Try.pinned (OpenSpec.ofChange serviceFullWrong)

/-- 'synodlaw22.ServiceAll': WHATEVER THE INPUT: true; the input reads as it did. -/
def serviceAllSpec : ChangeSpec := { name := "serviceAll", fn := fun _ => fun
  | [d1, d2] => { results := [.lit (.bool true)], args := [d1, d2] }
  | _ => none }
def serviceAllRow : OpenClaim := { program := "ytiebggfpjkhlaaa", sum := "62cbadf4b765156e57a0e989b80aaf8314399f2c1ed3c8aec952656e10b0c42b", func := "synod/synodlaw22.ServiceAll", spec := "serviceAll", unfollowed := true, recurses := true, apart := false }
def ServiceAllSaid : Prop := serviceAllRow.holds Try.pinned (OpenSpec.ofChange serviceAllSpec)

/-- ITS FALSE NEIGHBOUR: 'it returns false'. Refute it at one input. -/
def serviceAllWrong : ChangeSpec := { name := "serviceAll", fn := fun _ => fun
  | [d1, d2] => { results := [.lit (.bool false)], args := [d1, d2] }
  | _ => none }
def ServiceAllWrongFalsely : Prop := serviceAllRow.holds Try.pinned (OpenSpec.ofChange serviceAllWrong)

/-- 'synodlaw22.ServiceNil': WHATEVER THE INPUT: true; the input reads as it did. -/
def serviceNilSpec : ChangeSpec := { name := "serviceNil", fn := fun _ => fun
  | [d] => { results := [.lit (.bool true)], args := [d] }
  | _ => none }
def serviceNilRow : OpenClaim := { program := "ytiebggfpjkhlaaa", sum := "62cbadf4b765156e57a0e989b80aaf8314399f2c1ed3c8aec952656e10b0c42b", func := "synod/synodlaw22.ServiceNil", spec := "serviceNil", unfollowed := true, recurses := true, apart := false }
def ServiceNilSaid : Prop := serviceNilRow.holds Try.pinned (OpenSpec.ofChange serviceNilSpec)

/-- ITS FALSE NEIGHBOUR: 'it returns false'. Refute it at one input. -/
def serviceNilWrong : ChangeSpec := { name := "serviceNil", fn := fun _ => fun
  | [d] => { results := [.lit (.bool false)], args := [d] }
  | _ => none }
def ServiceNilWrongFalsely : Prop := serviceNilRow.holds Try.pinned (OpenSpec.ofChange serviceNilWrong)

/-- 'synodlaw22.ServiceOne': WHATEVER THE INPUT: true; the input reads as it did. -/
def serviceOneSpec : ChangeSpec := { name := "serviceOne", fn := fun _ => fun
  | [d1, d2] => { results := [.lit (.bool true)], args := [d1, d2] }
  | _ => none }
def serviceOneRow : OpenClaim := { program := "ytiebggfpjkhlaaa", sum := "62cbadf4b765156e57a0e989b80aaf8314399f2c1ed3c8aec952656e10b0c42b", func := "synod/synodlaw22.ServiceOne", spec := "serviceOne", unfollowed := true, recurses := true, apart := false }
def ServiceOneSaid : Prop := serviceOneRow.holds Try.pinned (OpenSpec.ofChange serviceOneSpec)

/-- ITS FALSE NEIGHBOUR: 'it returns false'. Refute it at one input. -/
def serviceOneWrong : ChangeSpec := { name := "serviceOne", fn := fun _ => fun
  | [d1, d2] => { results := [.lit (.bool false)], args := [d1, d2] }
  | _ => none }
def ServiceOneWrongFalsely : Prop := serviceOneRow.holds Try.pinned (OpenSpec.ofChange serviceOneWrong)

/-- 'synodlaw22.ServiceApart': WHATEVER THE INPUT: true; the input reads as it did. -/
def serviceApartSpec : ChangeSpec := { name := "serviceApart", fn := fun _ => fun
  | [d] => { results := [.lit (.bool true)], args := [d] }
  | _ => none }
def serviceApartRow : OpenClaim := { program := "ytiebggfpjkhlaaa", sum := "62cbadf4b765156e57a0e989b80aaf8314399f2c1ed3c8aec952656e10b0c42b", func := "synod/synodlaw22.ServiceApart", spec := "serviceApart", unfollowed := true, recurses := true, apart := false }
def ServiceApartSaid : Prop := serviceApartRow.holds Try.pinned (OpenSpec.ofChange serviceApartSpec)

/-- ITS FALSE NEIGHBOUR: 'it returns false'. Refute it at one input. -/
def serviceApartWrong : ChangeSpec := { name := "serviceApart", fn := fun _ => fun
  | [d] => { results := [.lit (.bool false)], args := [d] }
  | _ => none }
def ServiceApartWrongFalsely : Prop := serviceApartRow.holds Try.pinned (OpenSpec.ofChange serviceApartWrong)

/- THE SECOND FORM. 'bulk': how many values and letters a reading holds, each counted each time it is reached (what is shared counts as often as it is met; a slice's spare places count too). A statement '..UptoSaid' is the law's where the arguments, and the package variables that the reading takes, are together of bulk at most 1048576: NARROWER than '..Said'. Prove '..Said' where nothing that the law and all that it calls make is longer than what came in: it says more and counts as full. Else prove '..UptoSaid'. A law counts once. -/
mutual
def uptoBulk {H : Type} : DataW H → Nat
  | .lit (.string bytes) => bytes.length + 1
  | .lit _ => 1
  | .nil => 1
  | .ptr d => uptoBulk d + 1
  | .slice elems spare => uptoBulkAll elems + uptoBulkAll spare + 1
  | .agg parts => uptoBulkAll parts + 1
  | .iface _ d => uptoBulk d + 1
  | .map entries => uptoBulkEntries entries + 1
  | .held _ => 1
def uptoBulkAll {H : Type} : List (DataW H) → Nat
  | [] => 0
  | d :: r => uptoBulk d + uptoBulkAll r
def uptoBulkEntries {H : Type} : List (Lit × DataW H) → Nat
  | [] => 0
  | x :: r => uptoBulkEntry x + uptoBulkEntries r
def uptoBulkEntry {H : Type} : Lit × DataW H → Nat
  | (.string bytes, d) => bytes.length + uptoBulk d + 1
  | (_, d) => uptoBulk d + 1
 end
def uptoSmall : (H : Type) → List (DataW H) → Bool := fun _ ds => decide (uptoBulkAll ds ≤ 1048576)
def OpenSpec.upto (s : _root_.Go.ChangeSpec) : _root_.Go.OpenSpec := { _root_.Go.OpenSpec.ofChange s with cond := some uptoSmall }

/-- 'synodlaw22.ServiceFull', WHERE WHAT IT READS IS OF BULK AT MOST 1048576: true; the input reads as it did. -/
def serviceFullUptoRow : OpenClaim := { program := "ytiebggfpjkhlaaa", sum := "62cbadf4b765156e57a0e989b80aaf8314399f2c1ed3c8aec952656e10b0c42b", func := "synod/synodlaw22.ServiceFull", spec := "serviceFull", unfollowed := true, recurses := true, apart := false, narrowed := true }
def ServiceFullUptoSaid : Prop := serviceFullUptoRow.holds Try.pinned (OpenSpec.upto serviceFullSpec)

/-- 'synodlaw22.ServiceAll', WHERE WHAT IT READS IS OF BULK AT MOST 1048576: true; the input reads as it did. -/
def serviceAllUptoRow : OpenClaim := { program := "ytiebggfpjkhlaaa", sum := "62cbadf4b765156e57a0e989b80aaf8314399f2c1ed3c8aec952656e10b0c42b", func := "synod/synodlaw22.ServiceAll", spec := "serviceAll", unfollowed := true, recurses := true, apart := false, narrowed := true }
def ServiceAllUptoSaid : Prop := serviceAllUptoRow.holds Try.pinned (OpenSpec.upto serviceAllSpec)

/-- 'synodlaw22.ServiceNil', WHERE WHAT IT READS IS OF BULK AT MOST 1048576: true; the input reads as it did. -/
def serviceNilUptoRow : OpenClaim := { program := "ytiebggfpjkhlaaa", sum := "62cbadf4b765156e57a0e989b80aaf8314399f2c1ed3c8aec952656e10b0c42b", func := "synod/synodlaw22.ServiceNil", spec := "serviceNil", unfollowed := true, recurses := true, apart := false, narrowed := true }
def ServiceNilUptoSaid : Prop := serviceNilUptoRow.holds Try.pinned (OpenSpec.upto serviceNilSpec)

/-- 'synodlaw22.ServiceOne', WHERE WHAT IT READS IS OF BULK AT MOST 1048576: true; the input reads as it did. -/
def serviceOneUptoRow : OpenClaim := { program := "ytiebggfpjkhlaaa", sum := "62cbadf4b765156e57a0e989b80aaf8314399f2c1ed3c8aec952656e10b0c42b", func := "synod/synodlaw22.ServiceOne", spec := "serviceOne", unfollowed := true, recurses := true, apart := false, narrowed := true }
def ServiceOneUptoSaid : Prop := serviceOneUptoRow.holds Try.pinned (OpenSpec.upto serviceOneSpec)

/-- 'synodlaw22.ServiceApart', WHERE WHAT IT READS IS OF BULK AT MOST 1048576: true; the input reads as it did. -/
def serviceApartUptoRow : OpenClaim := { program := "ytiebggfpjkhlaaa", sum := "62cbadf4b765156e57a0e989b80aaf8314399f2c1ed3c8aec952656e10b0c42b", func := "synod/synodlaw22.ServiceApart", spec := "serviceApart", unfollowed := true, recurses := true, apart := false, narrowed := true }
def ServiceApartUptoSaid : Prop := serviceApartUptoRow.holds Try.pinned (OpenSpec.upto serviceApartSpec)

end Rows
end Go.Proofs.Ytiebggfpjkhlaaa
