/-
  No cell of these rows narrows 'for every input' (looked for: loops, veiled, ifaces, maps, wideKeys, modest, calm, conditions, laid).
  DERIVED. THE GIVEN ROWS OF THIS SEAT. 8 by the template 'for every input the law returns true; each argument reads behind the call as it read before'; 0 by the template 'total and deterministic' (their statements: YthingkcckjiniaaTotals.lean).
  GIVEN WITH THE SEED: the statements are not yours to turn. If you find one false, say at which input.
  Laid BY PROGRAM, IN A SANDBOX (cutbox-rows.mjs): the forced cells as the released guide's own fill.sh prints them over the translation 2caca293bbb939df… (all of the seat's roots in one cut). By AI agents, Wed Nov 11 2026. No macro, syntax, notation, axiom, sorry.
-/
import Derived.Test.YthingkcckjiniaaChecked
import GoSem.Claim
import GoSem.ClaimJoined
import GoSem.ClaimMapViews
import Derived.JoinedTies
import Derived.KernelRfl
namespace Go.Proofs.Ythingkcckjiniaa
/- THE CELL 'sum', in the pinned program and in every row, IS THE sha256 OF THE DUMP (.gsa) THAT YthingkcckjiniaaProg.lean LOADS. Nothing in Lean hashes anything: it is a label: what it is worth is what the hold of that sum in a sandbox is worth. -/
noncomputable def Try.pinned : Pinned := { name := "ythingkcckjiniaa", sum := "2caca293bbb939dfb613bd5410c3fbe53c897b4df4ff2b3da595cdaca3406ec4", checked := Try.checked }
namespace Rows
def none {H : Type} : Left H := { results := [], args := [] }

/-- 'laws.FnTransferred': WHATEVER THE INPUT: true; the input reads as it did. -/
def fnTransferredSpec : ChangeSpec := { name := "fnTransferred", fn := fun _ => fun
  | [d] => { results := [.lit (.bool true)], args := [d] }
  | _ => none }
def fnTransferredRow : OpenClaim := { program := "ythingkcckjiniaa", sum := "2caca293bbb939dfb613bd5410c3fbe53c897b4df4ff2b3da595cdaca3406ec4", func := "loop.example/g03001/laws.FnTransferred", spec := "fnTransferred", apart := false }
def FnTransferredSaid : Prop := fnTransferredRow.holds Try.pinned (OpenSpec.ofChange fnTransferredSpec)

/-- ITS FALSE NEIGHBOUR: 'it returns false'. Refute it at one input. -/
def fnTransferredWrong : ChangeSpec := { name := "fnTransferred", fn := fun _ => fun
  | [d] => { results := [.lit (.bool false)], args := [d] }
  | _ => none }
def FnTransferredWrongFalsely : Prop := fnTransferredRow.holds Try.pinned (OpenSpec.ofChange fnTransferredWrong)

/-- 'laws.FnExactWidenedGrants': WHATEVER THE INPUT: true; the input reads as it did. -/
def fnExactWidenedGrantsSpec : ChangeSpec := { name := "fnExactWidenedGrants", fn := fun _ => fun
  | [d1, d2] => { results := [.lit (.bool true)], args := [d1, d2] }
  | _ => none }
def fnExactWidenedGrantsRow : OpenClaim := { program := "ythingkcckjiniaa", sum := "2caca293bbb939dfb613bd5410c3fbe53c897b4df4ff2b3da595cdaca3406ec4", func := "loop.example/g03001/laws.FnExactWidenedGrants", spec := "fnExactWidenedGrants", apart := false }
def FnExactWidenedGrantsSaid : Prop := fnExactWidenedGrantsRow.holds Try.pinned (OpenSpec.ofChange fnExactWidenedGrantsSpec)

/-- ITS FALSE NEIGHBOUR: 'it returns false'. Refute it at one input. -/
def fnExactWidenedGrantsWrong : ChangeSpec := { name := "fnExactWidenedGrants", fn := fun _ => fun
  | [d1, d2] => { results := [.lit (.bool false)], args := [d1, d2] }
  | _ => none }
def FnExactWidenedGrantsWrongFalsely : Prop := fnExactWidenedGrantsRow.holds Try.pinned (OpenSpec.ofChange fnExactWidenedGrantsWrong)

/-- 'laws.FnSealed': WHATEVER THE INPUT: true; the input reads as it did. -/
def fnSealedSpec : ChangeSpec := { name := "fnSealed", fn := fun _ => fun
  | [d] => { results := [.lit (.bool true)], args := [d] }
  | _ => none }
def fnSealedRow : OpenClaim := { program := "ythingkcckjiniaa", sum := "2caca293bbb939dfb613bd5410c3fbe53c897b4df4ff2b3da595cdaca3406ec4", func := "loop.example/g03001/laws.FnSealed", spec := "fnSealed", apart := false }
def FnSealedSaid : Prop := fnSealedRow.holds Try.pinned (OpenSpec.ofChange fnSealedSpec)

/-- ITS FALSE NEIGHBOUR: 'it returns false'. Refute it at one input. -/
def fnSealedWrong : ChangeSpec := { name := "fnSealed", fn := fun _ => fun
  | [d] => { results := [.lit (.bool false)], args := [d] }
  | _ => none }
def FnSealedWrongFalsely : Prop := fnSealedRow.holds Try.pinned (OpenSpec.ofChange fnSealedWrong)

/-- 'laws.FnExactIsSealed': WHATEVER THE INPUT: true; the input reads as it did. -/
def fnExactIsSealedSpec : ChangeSpec := { name := "fnExactIsSealed", fn := fun _ => fun
  | [d1, d2] => { results := [.lit (.bool true)], args := [d1, d2] }
  | _ => none }
def fnExactIsSealedRow : OpenClaim := { program := "ythingkcckjiniaa", sum := "2caca293bbb939dfb613bd5410c3fbe53c897b4df4ff2b3da595cdaca3406ec4", func := "loop.example/g03001/laws.FnExactIsSealed", spec := "fnExactIsSealed", apart := false }
def FnExactIsSealedSaid : Prop := fnExactIsSealedRow.holds Try.pinned (OpenSpec.ofChange fnExactIsSealedSpec)

/-- ITS FALSE NEIGHBOUR: 'it returns false'. Refute it at one input. -/
def fnExactIsSealedWrong : ChangeSpec := { name := "fnExactIsSealed", fn := fun _ => fun
  | [d1, d2] => { results := [.lit (.bool false)], args := [d1, d2] }
  | _ => none }
def FnExactIsSealedWrongFalsely : Prop := fnExactIsSealedRow.holds Try.pinned (OpenSpec.ofChange fnExactIsSealedWrong)

/-- 'laws.FnExactPackageInts': WHATEVER THE INPUT: true; the input reads as it did. -/
def fnExactPackageIntsSpec : ChangeSpec := { name := "fnExactPackageInts", fn := fun _ => fun
  | [d] => { results := [.lit (.bool true)], args := [d] }
  | _ => none }
def fnExactPackageIntsRow : OpenClaim := { program := "ythingkcckjiniaa", sum := "2caca293bbb939dfb613bd5410c3fbe53c897b4df4ff2b3da595cdaca3406ec4", func := "loop.example/g03001/laws.FnExactPackageInts", spec := "fnExactPackageInts", apart := false }
def FnExactPackageIntsSaid : Prop := fnExactPackageIntsRow.holds Try.pinned (OpenSpec.ofChange fnExactPackageIntsSpec)

/-- ITS FALSE NEIGHBOUR: 'it returns false'. Refute it at one input. -/
def fnExactPackageIntsWrong : ChangeSpec := { name := "fnExactPackageInts", fn := fun _ => fun
  | [d] => { results := [.lit (.bool false)], args := [d] }
  | _ => none }
def FnExactPackageIntsWrongFalsely : Prop := fnExactPackageIntsRow.holds Try.pinned (OpenSpec.ofChange fnExactPackageIntsWrong)

/-- 'laws.FnExactTakeSnapshot': WHATEVER THE INPUT: true; the input reads as it did. -/
def fnExactTakeSnapshotSpec : ChangeSpec := { name := "fnExactTakeSnapshot", fn := fun _ => fun
  | [d1, d2] => { results := [.lit (.bool true)], args := [d1, d2] }
  | _ => none }
def fnExactTakeSnapshotRow : OpenClaim := { program := "ythingkcckjiniaa", sum := "2caca293bbb939dfb613bd5410c3fbe53c897b4df4ff2b3da595cdaca3406ec4", func := "loop.example/g03001/laws.FnExactTakeSnapshot", spec := "fnExactTakeSnapshot", apart := false }
def FnExactTakeSnapshotSaid : Prop := fnExactTakeSnapshotRow.holds Try.pinned (OpenSpec.ofChange fnExactTakeSnapshotSpec)

/-- ITS FALSE NEIGHBOUR: 'it returns false'. Refute it at one input. -/
def fnExactTakeSnapshotWrong : ChangeSpec := { name := "fnExactTakeSnapshot", fn := fun _ => fun
  | [d1, d2] => { results := [.lit (.bool false)], args := [d1, d2] }
  | _ => none }
def FnExactTakeSnapshotWrongFalsely : Prop := fnExactTakeSnapshotRow.holds Try.pinned (OpenSpec.ofChange fnExactTakeSnapshotWrong)

/-- 'laws.FnExactSealPackage': WHATEVER THE INPUT: true; the input reads as it did. -/
def fnExactSealPackageSpec : ChangeSpec := { name := "fnExactSealPackage", fn := fun _ => fun
  | [d1, d2] => { results := [.lit (.bool true)], args := [d1, d2] }
  | _ => none }
def fnExactSealPackageRow : OpenClaim := { program := "ythingkcckjiniaa", sum := "2caca293bbb939dfb613bd5410c3fbe53c897b4df4ff2b3da595cdaca3406ec4", func := "loop.example/g03001/laws.FnExactSealPackage", spec := "fnExactSealPackage", apart := false }
def FnExactSealPackageSaid : Prop := fnExactSealPackageRow.holds Try.pinned (OpenSpec.ofChange fnExactSealPackageSpec)

/-- ITS FALSE NEIGHBOUR: 'it returns false'. Refute it at one input. -/
def fnExactSealPackageWrong : ChangeSpec := { name := "fnExactSealPackage", fn := fun _ => fun
  | [d1, d2] => { results := [.lit (.bool false)], args := [d1, d2] }
  | _ => none }
def FnExactSealPackageWrongFalsely : Prop := fnExactSealPackageRow.holds Try.pinned (OpenSpec.ofChange fnExactSealPackageWrong)

/-- 'laws.FnExactTransfer': WHATEVER THE INPUT: true; the input reads as it did. -/
def fnExactTransferSpec : ChangeSpec := { name := "fnExactTransfer", fn := fun _ => fun
  | [d1, d2, d3, d4, d5] => { results := [.lit (.bool true)], args := [d1, d2, d3, d4, d5] }
  | _ => none }
def fnExactTransferRow : OpenClaim := { program := "ythingkcckjiniaa", sum := "2caca293bbb939dfb613bd5410c3fbe53c897b4df4ff2b3da595cdaca3406ec4", func := "loop.example/g03001/laws.FnExactTransfer", spec := "fnExactTransfer", apart := false }
def FnExactTransferSaid : Prop := fnExactTransferRow.holds Try.pinned (OpenSpec.ofChange fnExactTransferSpec)

/-- ITS FALSE NEIGHBOUR: 'it returns false'. Refute it at one input. -/
def fnExactTransferWrong : ChangeSpec := { name := "fnExactTransfer", fn := fun _ => fun
  | [d1, d2, d3, d4, d5] => { results := [.lit (.bool false)], args := [d1, d2, d3, d4, d5] }
  | _ => none }
def FnExactTransferWrongFalsely : Prop := fnExactTransferRow.holds Try.pinned (OpenSpec.ofChange fnExactTransferWrong)

/- THE SECOND FORM. 'bulk': how many values and letters a reading holds, each counted each time it is reached (what is shared counts as often as it is met; a slice's spare places count too). A statement '..UptoSaid' is the law's where the arguments, and the package variables that the reading takes, are together of bulk at most 1048576: NARROWER than '..Said'. Prove '..Said' where nothing that the law and all that it calls make is longer than what came in: it says more and counts as full. Else prove '..UptoSaid'. A law counts once. -/
mutual
def uptoBulk {H : Type} : DataW H → Nat
  | .lit (.string bytes) => bytes.length + 1
  | .lit _ => 1
  | .nil => 1
  | .ptr d => uptoBulk d + 1
  | .slice elems spare => uptoBulkAll elems + uptoBulkAll spare + 1
  | .agg parts => uptoBulkAll parts + 1
  | .iface _ d => uptoBulk d + 1
  | .map entries => uptoBulkEntries entries + 1
  | .held _ => 1
def uptoBulkAll {H : Type} : List (DataW H) → Nat
  | [] => 0
  | d :: r => uptoBulk d + uptoBulkAll r
def uptoBulkEntries {H : Type} : List (Lit × DataW H) → Nat
  | [] => 0
  | x :: r => uptoBulkEntry x + uptoBulkEntries r
def uptoBulkEntry {H : Type} : Lit × DataW H → Nat
  | (.string bytes, d) => bytes.length + uptoBulk d + 1
  | (_, d) => uptoBulk d + 1
 end
def uptoSmall : (H : Type) → List (DataW H) → Bool := fun _ ds => decide (uptoBulkAll ds ≤ 1048576)
def OpenSpec.upto (s : _root_.Go.ChangeSpec) : _root_.Go.OpenSpec := { _root_.Go.OpenSpec.ofChange s with cond := some uptoSmall }

/-- 'laws.FnTransferred', WHERE WHAT IT READS IS OF BULK AT MOST 1048576: true; the input reads as it did. -/
def fnTransferredUptoRow : OpenClaim := { program := "ythingkcckjiniaa", sum := "2caca293bbb939dfb613bd5410c3fbe53c897b4df4ff2b3da595cdaca3406ec4", func := "loop.example/g03001/laws.FnTransferred", spec := "fnTransferred", apart := false, narrowed := true }
def FnTransferredUptoSaid : Prop := fnTransferredUptoRow.holds Try.pinned (OpenSpec.upto fnTransferredSpec)

/-- 'laws.FnExactWidenedGrants', WHERE WHAT IT READS IS OF BULK AT MOST 1048576: true; the input reads as it did. -/
def fnExactWidenedGrantsUptoRow : OpenClaim := { program := "ythingkcckjiniaa", sum := "2caca293bbb939dfb613bd5410c3fbe53c897b4df4ff2b3da595cdaca3406ec4", func := "loop.example/g03001/laws.FnExactWidenedGrants", spec := "fnExactWidenedGrants", apart := false, narrowed := true }
def FnExactWidenedGrantsUptoSaid : Prop := fnExactWidenedGrantsUptoRow.holds Try.pinned (OpenSpec.upto fnExactWidenedGrantsSpec)

/-- 'laws.FnSealed', WHERE WHAT IT READS IS OF BULK AT MOST 1048576: true; the input reads as it did. -/
def fnSealedUptoRow : OpenClaim := { program := "ythingkcckjiniaa", sum := "2caca293bbb939dfb613bd5410c3fbe53c897b4df4ff2b3da595cdaca3406ec4", func := "loop.example/g03001/laws.FnSealed", spec := "fnSealed", apart := false, narrowed := true }
def FnSealedUptoSaid : Prop := fnSealedUptoRow.holds Try.pinned (OpenSpec.upto fnSealedSpec)

/-- 'laws.FnExactIsSealed', WHERE WHAT IT READS IS OF BULK AT MOST 1048576: true; the input reads as it did. -/
def fnExactIsSealedUptoRow : OpenClaim := { program := "ythingkcckjiniaa", sum := "2caca293bbb939dfb613bd5410c3fbe53c897b4df4ff2b3da595cdaca3406ec4", func := "loop.example/g03001/laws.FnExactIsSealed", spec := "fnExactIsSealed", apart := false, narrowed := true }
def FnExactIsSealedUptoSaid : Prop := fnExactIsSealedUptoRow.holds Try.pinned (OpenSpec.upto fnExactIsSealedSpec)

/-- 'laws.FnExactPackageInts', WHERE WHAT IT READS IS OF BULK AT MOST 1048576: true; the input reads as it did. -/
def fnExactPackageIntsUptoRow : OpenClaim := { program := "ythingkcckjiniaa", sum := "2caca293bbb939dfb613bd5410c3fbe53c897b4df4ff2b3da595cdaca3406ec4", func := "loop.example/g03001/laws.FnExactPackageInts", spec := "fnExactPackageInts", apart := false, narrowed := true }
def FnExactPackageIntsUptoSaid : Prop := fnExactPackageIntsUptoRow.holds Try.pinned (OpenSpec.upto fnExactPackageIntsSpec)

/-- 'laws.FnExactTakeSnapshot', WHERE WHAT IT READS IS OF BULK AT MOST 1048576: true; the input reads as it did. -/
def fnExactTakeSnapshotUptoRow : OpenClaim := { program := "ythingkcckjiniaa", sum := "2caca293bbb939dfb613bd5410c3fbe53c897b4df4ff2b3da595cdaca3406ec4", func := "loop.example/g03001/laws.FnExactTakeSnapshot", spec := "fnExactTakeSnapshot", apart := false, narrowed := true }
def FnExactTakeSnapshotUptoSaid : Prop := fnExactTakeSnapshotUptoRow.holds Try.pinned (OpenSpec.upto fnExactTakeSnapshotSpec)

/-- 'laws.FnExactSealPackage', WHERE WHAT IT READS IS OF BULK AT MOST 1048576: true; the input reads as it did. -/
def fnExactSealPackageUptoRow : OpenClaim := { program := "ythingkcckjiniaa", sum := "2caca293bbb939dfb613bd5410c3fbe53c897b4df4ff2b3da595cdaca3406ec4", func := "loop.example/g03001/laws.FnExactSealPackage", spec := "fnExactSealPackage", apart := false, narrowed := true }
def FnExactSealPackageUptoSaid : Prop := fnExactSealPackageUptoRow.holds Try.pinned (OpenSpec.upto fnExactSealPackageSpec)

/-- 'laws.FnExactTransfer', WHERE WHAT IT READS IS OF BULK AT MOST 1048576: true; the input reads as it did. -/
def fnExactTransferUptoRow : OpenClaim := { program := "ythingkcckjiniaa", sum := "2caca293bbb939dfb613bd5410c3fbe53c897b4df4ff2b3da595cdaca3406ec4", func := "loop.example/g03001/laws.FnExactTransfer", spec := "fnExactTransfer", apart := false, narrowed := true }
def FnExactTransferUptoSaid : Prop := fnExactTransferUptoRow.holds Try.pinned (OpenSpec.upto fnExactTransferSpec)

end Rows
end Go.Proofs.Ythingkcckjiniaa
