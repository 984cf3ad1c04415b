/-
  No cell of these rows narrows 'for every input' (looked for: loops, veiled, ifaces, maps, wideKeys, modest, calm, conditions, laid).
  DERIVED. THE GIVEN ROWS OF THIS SEAT. 10 by the template 'for every input the law returns true; each argument reads behind the call as it read before'; 0 by the template 'total and deterministic' (their statements: YtmpkaooelpbeaaaTotals.lean).
  GIVEN WITH THE SEED: the statements are not yours to turn. If you find one false, say at which input.
  Laid BY PROGRAM, IN A SANDBOX (cutbox-rows.mjs): the forced cells as the released guide's own fill.sh prints them over the translation 5e794fd25c365bf1… (all of the seat's roots in one cut). By AI agents, Wed Nov 11 2026. No macro, syntax, notation, axiom, sorry.
-/
import Derived.Test.YtmpkaooelpbeaaaChecked
import GoSem.Claim
import GoSem.ClaimJoined
import GoSem.ClaimMapViews
import Derived.JoinedTies
import Derived.KernelRfl
namespace Go.Proofs.Ytmpkaooelpbeaaa
/- THE CELL 'sum', in the pinned program and in every row, IS THE sha256 OF THE DUMP (.gsa) THAT YtmpkaooelpbeaaaProg.lean LOADS. Nothing in Lean hashes anything: it is a label: what it is worth is what the hold of that sum in a sandbox is worth. -/
noncomputable def Try.pinned : Pinned := { name := "ytmpkaooelpbeaaa", sum := "5e794fd25c365bf1e91778184a093cb8fa0ed72aadc6a624a2fc952cbd4e2737", checked := Try.checked }
namespace Rows
def none {H : Type} : Left H := { results := [], args := [] }

/-- 'laws.FnExactLabelsAfter': WHATEVER THE INPUT: true; the input reads as it did. -/
def fnExactLabelsAfterSpec : ChangeSpec := { name := "fnExactLabelsAfter", fn := fun _ => fun
  | [d] => { results := [.lit (.bool true)], args := [d] }
  | _ => none }
def fnExactLabelsAfterRow : OpenClaim := { program := "ytmpkaooelpbeaaa", sum := "5e794fd25c365bf1e91778184a093cb8fa0ed72aadc6a624a2fc952cbd4e2737", func := "loop.example/g03001/laws.FnExactLabelsAfter", spec := "fnExactLabelsAfter", apart := false }
def FnExactLabelsAfterSaid : Prop := fnExactLabelsAfterRow.holds Try.pinned (OpenSpec.ofChange fnExactLabelsAfterSpec)

/-- ITS FALSE NEIGHBOUR: 'it returns false'. Refute it at one input. -/
def fnExactLabelsAfterWrong : ChangeSpec := { name := "fnExactLabelsAfter", fn := fun _ => fun
  | [d] => { results := [.lit (.bool false)], args := [d] }
  | _ => none }
def FnExactLabelsAfterWrongFalsely : Prop := fnExactLabelsAfterRow.holds Try.pinned (OpenSpec.ofChange fnExactLabelsAfterWrong)

/-- 'laws.FnPrograms': WHATEVER THE INPUT: true; the input reads as it did. -/
def fnProgramsSpec : ChangeSpec := { name := "fnPrograms", fn := fun _ => fun
  | [d] => { results := [.lit (.bool true)], args := [d] }
  | _ => none }
def fnProgramsRow : OpenClaim := { program := "ytmpkaooelpbeaaa", sum := "5e794fd25c365bf1e91778184a093cb8fa0ed72aadc6a624a2fc952cbd4e2737", func := "loop.example/g03001/laws.FnPrograms", spec := "fnPrograms", apart := false }
def FnProgramsSaid : Prop := fnProgramsRow.holds Try.pinned (OpenSpec.ofChange fnProgramsSpec)

/-- ITS FALSE NEIGHBOUR: 'it returns false'. Refute it at one input. -/
def fnProgramsWrong : ChangeSpec := { name := "fnPrograms", fn := fun _ => fun
  | [d] => { results := [.lit (.bool false)], args := [d] }
  | _ => none }
def FnProgramsWrongFalsely : Prop := fnProgramsRow.holds Try.pinned (OpenSpec.ofChange fnProgramsWrong)

/-- 'laws.FnExactNeedsFlows': WHATEVER THE INPUT: true; the input reads as it did. -/
def fnExactNeedsFlowsSpec : ChangeSpec := { name := "fnExactNeedsFlows", fn := fun _ => fun
  | [d1, d2] => { results := [.lit (.bool true)], args := [d1, d2] }
  | _ => none }
def fnExactNeedsFlowsRow : OpenClaim := { program := "ytmpkaooelpbeaaa", sum := "5e794fd25c365bf1e91778184a093cb8fa0ed72aadc6a624a2fc952cbd4e2737", func := "loop.example/g03001/laws.FnExactNeedsFlows", spec := "fnExactNeedsFlows", apart := false }
def FnExactNeedsFlowsSaid : Prop := fnExactNeedsFlowsRow.holds Try.pinned (OpenSpec.ofChange fnExactNeedsFlowsSpec)

/-- ITS FALSE NEIGHBOUR: 'it returns false'. Refute it at one input. -/
def fnExactNeedsFlowsWrong : ChangeSpec := { name := "fnExactNeedsFlows", fn := fun _ => fun
  | [d1, d2] => { results := [.lit (.bool false)], args := [d1, d2] }
  | _ => none }
def FnExactNeedsFlowsWrongFalsely : Prop := fnExactNeedsFlowsRow.holds Try.pinned (OpenSpec.ofChange fnExactNeedsFlowsWrong)

/-- 'laws.FnExactIsTightFor': WHATEVER THE INPUT: true; the input reads as it did. -/
def fnExactIsTightForSpec : ChangeSpec := { name := "fnExactIsTightFor", fn := fun _ => fun
  | [d1, d2, d3] => { results := [.lit (.bool true)], args := [d1, d2, d3] }
  | _ => none }
def fnExactIsTightForRow : OpenClaim := { program := "ytmpkaooelpbeaaa", sum := "5e794fd25c365bf1e91778184a093cb8fa0ed72aadc6a624a2fc952cbd4e2737", func := "loop.example/g03001/laws.FnExactIsTightFor", spec := "fnExactIsTightFor", apart := false }
def FnExactIsTightForSaid : Prop := fnExactIsTightForRow.holds Try.pinned (OpenSpec.ofChange fnExactIsTightForSpec)

/-- ITS FALSE NEIGHBOUR: 'it returns false'. Refute it at one input. -/
def fnExactIsTightForWrong : ChangeSpec := { name := "fnExactIsTightFor", fn := fun _ => fun
  | [d1, d2, d3] => { results := [.lit (.bool false)], args := [d1, d2, d3] }
  | _ => none }
def FnExactIsTightForWrongFalsely : Prop := fnExactIsTightForRow.holds Try.pinned (OpenSpec.ofChange fnExactIsTightForWrong)

/-- 'laws.FnExactEqualPackages': WHATEVER THE INPUT: true; the input reads as it did. -/
def fnExactEqualPackagesSpec : ChangeSpec := { name := "fnExactEqualPackages", fn := fun _ => fun
  | [d1, d2] => { results := [.lit (.bool true)], args := [d1, d2] }
  | _ => none }
def fnExactEqualPackagesRow : OpenClaim := { program := "ytmpkaooelpbeaaa", sum := "5e794fd25c365bf1e91778184a093cb8fa0ed72aadc6a624a2fc952cbd4e2737", func := "loop.example/g03001/laws.FnExactEqualPackages", spec := "fnExactEqualPackages", apart := false }
def FnExactEqualPackagesSaid : Prop := fnExactEqualPackagesRow.holds Try.pinned (OpenSpec.ofChange fnExactEqualPackagesSpec)

/-- ITS FALSE NEIGHBOUR: 'it returns false'. Refute it at one input. -/
def fnExactEqualPackagesWrong : ChangeSpec := { name := "fnExactEqualPackages", fn := fun _ => fun
  | [d1, d2] => { results := [.lit (.bool false)], args := [d1, d2] }
  | _ => none }
def FnExactEqualPackagesWrongFalsely : Prop := fnExactEqualPackagesRow.holds Try.pinned (OpenSpec.ofChange fnExactEqualPackagesWrong)

/-- 'laws.FnExactIsWider': WHATEVER THE INPUT: true; the input reads as it did. -/
def fnExactIsWiderSpec : ChangeSpec := { name := "fnExactIsWider", fn := fun _ => fun
  | [d1, d2] => { results := [.lit (.bool true)], args := [d1, d2] }
  | _ => none }
def fnExactIsWiderRow : OpenClaim := { program := "ytmpkaooelpbeaaa", sum := "5e794fd25c365bf1e91778184a093cb8fa0ed72aadc6a624a2fc952cbd4e2737", func := "loop.example/g03001/laws.FnExactIsWider", spec := "fnExactIsWider", apart := false }
def FnExactIsWiderSaid : Prop := fnExactIsWiderRow.holds Try.pinned (OpenSpec.ofChange fnExactIsWiderSpec)

/-- ITS FALSE NEIGHBOUR: 'it returns false'. Refute it at one input. -/
def fnExactIsWiderWrong : ChangeSpec := { name := "fnExactIsWider", fn := fun _ => fun
  | [d1, d2] => { results := [.lit (.bool false)], args := [d1, d2] }
  | _ => none }
def FnExactIsWiderWrongFalsely : Prop := fnExactIsWiderRow.holds Try.pinned (OpenSpec.ofChange fnExactIsWiderWrong)

/-- 'laws.FnPrivate': WHATEVER THE INPUT: true; the input reads as it did. -/
def fnPrivateSpec : ChangeSpec := { name := "fnPrivate", fn := fun _ => fun
  | [d] => { results := [.lit (.bool true)], args := [d] }
  | _ => none }
def fnPrivateRow : OpenClaim := { program := "ytmpkaooelpbeaaa", sum := "5e794fd25c365bf1e91778184a093cb8fa0ed72aadc6a624a2fc952cbd4e2737", func := "loop.example/g03001/laws.FnPrivate", spec := "fnPrivate", inPlace := ["slices.overlaps[loop.example/g03001/impl.Stored]"], apart := false }
def FnPrivateSaid : Prop := fnPrivateRow.holds Try.pinned (OpenSpec.ofChange fnPrivateSpec)

/-- ITS FALSE NEIGHBOUR: 'it returns false'. Refute it at one input. -/
def fnPrivateWrong : ChangeSpec := { name := "fnPrivate", fn := fun _ => fun
  | [d] => { results := [.lit (.bool false)], args := [d] }
  | _ => none }
def FnPrivateWrongFalsely : Prop := fnPrivateRow.holds Try.pinned (OpenSpec.ofChange fnPrivateWrong)

/-- 'laws.FnExactIsPackage': WHATEVER THE INPUT: true; the input reads as it did. -/
def fnExactIsPackageSpec : ChangeSpec := { name := "fnExactIsPackage", fn := fun _ => fun
  | [d] => { results := [.lit (.bool true)], args := [d] }
  | _ => none }
def fnExactIsPackageRow : OpenClaim := { program := "ytmpkaooelpbeaaa", sum := "5e794fd25c365bf1e91778184a093cb8fa0ed72aadc6a624a2fc952cbd4e2737", func := "loop.example/g03001/laws.FnExactIsPackage", spec := "fnExactIsPackage", apart := false }
def FnExactIsPackageSaid : Prop := fnExactIsPackageRow.holds Try.pinned (OpenSpec.ofChange fnExactIsPackageSpec)

/-- ITS FALSE NEIGHBOUR: 'it returns false'. Refute it at one input. -/
def fnExactIsPackageWrong : ChangeSpec := { name := "fnExactIsPackage", fn := fun _ => fun
  | [d] => { results := [.lit (.bool false)], args := [d] }
  | _ => none }
def FnExactIsPackageWrongFalsely : Prop := fnExactIsPackageRow.holds Try.pinned (OpenSpec.ofChange fnExactIsPackageWrong)

/-- 'laws.FnExactRunOps': WHATEVER THE INPUT: true; the input reads as it did. -/
def fnExactRunOpsSpec : ChangeSpec := { name := "fnExactRunOps", fn := fun _ => fun
  | [d1, d2, d3, d4] => { results := [.lit (.bool true)], args := [d1, d2, d3, d4] }
  | _ => none }
def fnExactRunOpsRow : OpenClaim := { program := "ytmpkaooelpbeaaa", sum := "5e794fd25c365bf1e91778184a093cb8fa0ed72aadc6a624a2fc952cbd4e2737", func := "loop.example/g03001/laws.FnExactRunOps", spec := "fnExactRunOps", apart := false }
def FnExactRunOpsSaid : Prop := fnExactRunOpsRow.holds Try.pinned (OpenSpec.ofChange fnExactRunOpsSpec)

/-- ITS FALSE NEIGHBOUR: 'it returns false'. Refute it at one input. -/
def fnExactRunOpsWrong : ChangeSpec := { name := "fnExactRunOps", fn := fun _ => fun
  | [d1, d2, d3, d4] => { results := [.lit (.bool false)], args := [d1, d2, d3, d4] }
  | _ => none }
def FnExactRunOpsWrongFalsely : Prop := fnExactRunOpsRow.holds Try.pinned (OpenSpec.ofChange fnExactRunOpsWrong)

/-- 'laws.FnTransferred': WHATEVER THE INPUT: true; the input reads as it did. -/
def fnTransferredSpec : ChangeSpec := { name := "fnTransferred", fn := fun _ => fun
  | [d] => { results := [.lit (.bool true)], args := [d] }
  | _ => none }
def fnTransferredRow : OpenClaim := { program := "ytmpkaooelpbeaaa", sum := "5e794fd25c365bf1e91778184a093cb8fa0ed72aadc6a624a2fc952cbd4e2737", func := "loop.example/g03001/laws.FnTransferred", spec := "fnTransferred", apart := false }
def FnTransferredSaid : Prop := fnTransferredRow.holds Try.pinned (OpenSpec.ofChange fnTransferredSpec)

/-- ITS FALSE NEIGHBOUR: 'it returns false'. Refute it at one input. -/
def fnTransferredWrong : ChangeSpec := { name := "fnTransferred", fn := fun _ => fun
  | [d] => { results := [.lit (.bool false)], args := [d] }
  | _ => none }
def FnTransferredWrongFalsely : Prop := fnTransferredRow.holds Try.pinned (OpenSpec.ofChange fnTransferredWrong)

/- THE SECOND FORM. 'bulk': how many values and letters a reading holds, each counted each time it is reached (what is shared counts as often as it is met; a slice's spare places count too). A statement '..UptoSaid' is the law's where the arguments, and the package variables that the reading takes, are together of bulk at most 1048576: NARROWER than '..Said'. Prove '..Said' where nothing that the law and all that it calls make is longer than what came in: it says more and counts as full. Else prove '..UptoSaid'. A law counts once. -/
mutual
def uptoBulk {H : Type} : DataW H → Nat
  | .lit (.string bytes) => bytes.length + 1
  | .lit _ => 1
  | .nil => 1
  | .ptr d => uptoBulk d + 1
  | .slice elems spare => uptoBulkAll elems + uptoBulkAll spare + 1
  | .agg parts => uptoBulkAll parts + 1
  | .iface _ d => uptoBulk d + 1
  | .map entries => uptoBulkEntries entries + 1
  | .held _ => 1
def uptoBulkAll {H : Type} : List (DataW H) → Nat
  | [] => 0
  | d :: r => uptoBulk d + uptoBulkAll r
def uptoBulkEntries {H : Type} : List (Lit × DataW H) → Nat
  | [] => 0
  | x :: r => uptoBulkEntry x + uptoBulkEntries r
def uptoBulkEntry {H : Type} : Lit × DataW H → Nat
  | (.string bytes, d) => bytes.length + uptoBulk d + 1
  | (_, d) => uptoBulk d + 1
 end
def uptoSmall : (H : Type) → List (DataW H) → Bool := fun _ ds => decide (uptoBulkAll ds ≤ 1048576)
def OpenSpec.upto (s : _root_.Go.ChangeSpec) : _root_.Go.OpenSpec := { _root_.Go.OpenSpec.ofChange s with cond := some uptoSmall }

/-- 'laws.FnExactLabelsAfter', WHERE WHAT IT READS IS OF BULK AT MOST 1048576: true; the input reads as it did. -/
def fnExactLabelsAfterUptoRow : OpenClaim := { program := "ytmpkaooelpbeaaa", sum := "5e794fd25c365bf1e91778184a093cb8fa0ed72aadc6a624a2fc952cbd4e2737", func := "loop.example/g03001/laws.FnExactLabelsAfter", spec := "fnExactLabelsAfter", apart := false, narrowed := true }
def FnExactLabelsAfterUptoSaid : Prop := fnExactLabelsAfterUptoRow.holds Try.pinned (OpenSpec.upto fnExactLabelsAfterSpec)

/-- 'laws.FnPrograms', WHERE WHAT IT READS IS OF BULK AT MOST 1048576: true; the input reads as it did. -/
def fnProgramsUptoRow : OpenClaim := { program := "ytmpkaooelpbeaaa", sum := "5e794fd25c365bf1e91778184a093cb8fa0ed72aadc6a624a2fc952cbd4e2737", func := "loop.example/g03001/laws.FnPrograms", spec := "fnPrograms", apart := false, narrowed := true }
def FnProgramsUptoSaid : Prop := fnProgramsUptoRow.holds Try.pinned (OpenSpec.upto fnProgramsSpec)

/-- 'laws.FnExactNeedsFlows', WHERE WHAT IT READS IS OF BULK AT MOST 1048576: true; the input reads as it did. -/
def fnExactNeedsFlowsUptoRow : OpenClaim := { program := "ytmpkaooelpbeaaa", sum := "5e794fd25c365bf1e91778184a093cb8fa0ed72aadc6a624a2fc952cbd4e2737", func := "loop.example/g03001/laws.FnExactNeedsFlows", spec := "fnExactNeedsFlows", apart := false, narrowed := true }
def FnExactNeedsFlowsUptoSaid : Prop := fnExactNeedsFlowsUptoRow.holds Try.pinned (OpenSpec.upto fnExactNeedsFlowsSpec)

/-- 'laws.FnExactIsTightFor', WHERE WHAT IT READS IS OF BULK AT MOST 1048576: true; the input reads as it did. -/
def fnExactIsTightForUptoRow : OpenClaim := { program := "ytmpkaooelpbeaaa", sum := "5e794fd25c365bf1e91778184a093cb8fa0ed72aadc6a624a2fc952cbd4e2737", func := "loop.example/g03001/laws.FnExactIsTightFor", spec := "fnExactIsTightFor", apart := false, narrowed := true }
def FnExactIsTightForUptoSaid : Prop := fnExactIsTightForUptoRow.holds Try.pinned (OpenSpec.upto fnExactIsTightForSpec)

/-- 'laws.FnExactEqualPackages', WHERE WHAT IT READS IS OF BULK AT MOST 1048576: true; the input reads as it did. -/
def fnExactEqualPackagesUptoRow : OpenClaim := { program := "ytmpkaooelpbeaaa", sum := "5e794fd25c365bf1e91778184a093cb8fa0ed72aadc6a624a2fc952cbd4e2737", func := "loop.example/g03001/laws.FnExactEqualPackages", spec := "fnExactEqualPackages", apart := false, narrowed := true }
def FnExactEqualPackagesUptoSaid : Prop := fnExactEqualPackagesUptoRow.holds Try.pinned (OpenSpec.upto fnExactEqualPackagesSpec)

/-- 'laws.FnExactIsWider', WHERE WHAT IT READS IS OF BULK AT MOST 1048576: true; the input reads as it did. -/
def fnExactIsWiderUptoRow : OpenClaim := { program := "ytmpkaooelpbeaaa", sum := "5e794fd25c365bf1e91778184a093cb8fa0ed72aadc6a624a2fc952cbd4e2737", func := "loop.example/g03001/laws.FnExactIsWider", spec := "fnExactIsWider", apart := false, narrowed := true }
def FnExactIsWiderUptoSaid : Prop := fnExactIsWiderUptoRow.holds Try.pinned (OpenSpec.upto fnExactIsWiderSpec)

/-- 'laws.FnPrivate', WHERE WHAT IT READS IS OF BULK AT MOST 1048576: true; the input reads as it did. -/
def fnPrivateUptoRow : OpenClaim := { program := "ytmpkaooelpbeaaa", sum := "5e794fd25c365bf1e91778184a093cb8fa0ed72aadc6a624a2fc952cbd4e2737", func := "loop.example/g03001/laws.FnPrivate", spec := "fnPrivate", inPlace := ["slices.overlaps[loop.example/g03001/impl.Stored]"], apart := false, narrowed := true }
def FnPrivateUptoSaid : Prop := fnPrivateUptoRow.holds Try.pinned (OpenSpec.upto fnPrivateSpec)

/-- 'laws.FnExactIsPackage', WHERE WHAT IT READS IS OF BULK AT MOST 1048576: true; the input reads as it did. -/
def fnExactIsPackageUptoRow : OpenClaim := { program := "ytmpkaooelpbeaaa", sum := "5e794fd25c365bf1e91778184a093cb8fa0ed72aadc6a624a2fc952cbd4e2737", func := "loop.example/g03001/laws.FnExactIsPackage", spec := "fnExactIsPackage", apart := false, narrowed := true }
def FnExactIsPackageUptoSaid : Prop := fnExactIsPackageUptoRow.holds Try.pinned (OpenSpec.upto fnExactIsPackageSpec)

/-- 'laws.FnExactRunOps', WHERE WHAT IT READS IS OF BULK AT MOST 1048576: true; the input reads as it did. -/
def fnExactRunOpsUptoRow : OpenClaim := { program := "ytmpkaooelpbeaaa", sum := "5e794fd25c365bf1e91778184a093cb8fa0ed72aadc6a624a2fc952cbd4e2737", func := "loop.example/g03001/laws.FnExactRunOps", spec := "fnExactRunOps", apart := false, narrowed := true }
def FnExactRunOpsUptoSaid : Prop := fnExactRunOpsUptoRow.holds Try.pinned (OpenSpec.upto fnExactRunOpsSpec)

/-- 'laws.FnTransferred', WHERE WHAT IT READS IS OF BULK AT MOST 1048576: true; the input reads as it did. -/
def fnTransferredUptoRow : OpenClaim := { program := "ytmpkaooelpbeaaa", sum := "5e794fd25c365bf1e91778184a093cb8fa0ed72aadc6a624a2fc952cbd4e2737", func := "loop.example/g03001/laws.FnTransferred", spec := "fnTransferred", apart := false, narrowed := true }
def FnTransferredUptoSaid : Prop := fnTransferredUptoRow.holds Try.pinned (OpenSpec.upto fnTransferredSpec)

end Rows
end Go.Proofs.Ytmpkaooelpbeaaa
