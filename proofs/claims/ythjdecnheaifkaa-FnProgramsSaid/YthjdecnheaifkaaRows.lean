/-
  No cell of these rows narrows 'for every input' (looked for: loops, veiled, ifaces, maps, wideKeys, modest, calm, conditions, laid).
  DERIVED. THE GIVEN ROWS OF THIS SEAT. 8 by the template 'for every input the law returns true; each argument reads behind the call as it read before'; 0 by the template 'total and deterministic' (their statements: YthjdecnheaifkaaTotals.lean).
  GIVEN WITH THE SEED: the statements are not yours to turn. If you find one false, say at which input.
  Laid BY PROGRAM, IN A SANDBOX (cutbox-rows.mjs): the forced cells as the released guide's own fill.sh prints them over the translation 5e7f942c90da1971… (all of the seat's roots in one cut). By AI agents, Wed Nov 11 2026. No macro, syntax, notation, axiom, sorry.
-/
import Derived.Test.YthjdecnheaifkaaChecked
import GoSem.Claim
import GoSem.ClaimJoined
import GoSem.ClaimMapViews
import Derived.JoinedTies
import Derived.KernelRfl
namespace Go.Proofs.Ythjdecnheaifkaa
/- THE CELL 'sum', in the pinned program and in every row, IS THE sha256 OF THE DUMP (.gsa) THAT YthjdecnheaifkaaProg.lean LOADS. Nothing in Lean hashes anything: it is a label: what it is worth is what the hold of that sum in a sandbox is worth. -/
noncomputable def Try.pinned : Pinned := { name := "ythjdecnheaifkaa", sum := "5e7f942c90da19717cf1aa6cbf7660a8cffcaedf46f1b22b76c9178bd822091c", checked := Try.checked }
namespace Rows
def none {H : Type} : Left H := { results := [], args := [] }

/-- 'laws.FnExactLabelsAfter': WHATEVER THE INPUT: true; the input reads as it did. -/
def fnExactLabelsAfterSpec : ChangeSpec := { name := "fnExactLabelsAfter", fn := fun _ => fun
  | [d] => { results := [.lit (.bool true)], args := [d] }
  | _ => none }
def fnExactLabelsAfterRow : OpenClaim := { program := "ythjdecnheaifkaa", sum := "5e7f942c90da19717cf1aa6cbf7660a8cffcaedf46f1b22b76c9178bd822091c", func := "loop.example/g03001/laws.FnExactLabelsAfter", spec := "fnExactLabelsAfter", apart := false }
def FnExactLabelsAfterSaid : Prop := fnExactLabelsAfterRow.holds Try.pinned (OpenSpec.ofChange fnExactLabelsAfterSpec)

/-- ITS FALSE NEIGHBOUR: 'it returns false'. Refute it at one input. -/
def fnExactLabelsAfterWrong : ChangeSpec := { name := "fnExactLabelsAfter", fn := fun _ => fun
  | [d] => { results := [.lit (.bool false)], args := [d] }
  | _ => none }
def FnExactLabelsAfterWrongFalsely : Prop := fnExactLabelsAfterRow.holds Try.pinned (OpenSpec.ofChange fnExactLabelsAfterWrong)

/-- 'laws.FnPrograms': WHATEVER THE INPUT: true; the input reads as it did. -/
def fnProgramsSpec : ChangeSpec := { name := "fnPrograms", fn := fun _ => fun
  | [d] => { results := [.lit (.bool true)], args := [d] }
  | _ => none }
def fnProgramsRow : OpenClaim := { program := "ythjdecnheaifkaa", sum := "5e7f942c90da19717cf1aa6cbf7660a8cffcaedf46f1b22b76c9178bd822091c", func := "loop.example/g03001/laws.FnPrograms", spec := "fnPrograms", apart := false }
def FnProgramsSaid : Prop := fnProgramsRow.holds Try.pinned (OpenSpec.ofChange fnProgramsSpec)

/-- ITS FALSE NEIGHBOUR: 'it returns false'. Refute it at one input. -/
def fnProgramsWrong : ChangeSpec := { name := "fnPrograms", fn := fun _ => fun
  | [d] => { results := [.lit (.bool false)], args := [d] }
  | _ => none }
def FnProgramsWrongFalsely : Prop := fnProgramsRow.holds Try.pinned (OpenSpec.ofChange fnProgramsWrong)

/-- 'laws.FnExactNeedsFlows': WHATEVER THE INPUT: true; the input reads as it did. -/
def fnExactNeedsFlowsSpec : ChangeSpec := { name := "fnExactNeedsFlows", fn := fun _ => fun
  | [d1, d2] => { results := [.lit (.bool true)], args := [d1, d2] }
  | _ => none }
def fnExactNeedsFlowsRow : OpenClaim := { program := "ythjdecnheaifkaa", sum := "5e7f942c90da19717cf1aa6cbf7660a8cffcaedf46f1b22b76c9178bd822091c", func := "loop.example/g03001/laws.FnExactNeedsFlows", spec := "fnExactNeedsFlows", apart := false }
def FnExactNeedsFlowsSaid : Prop := fnExactNeedsFlowsRow.holds Try.pinned (OpenSpec.ofChange fnExactNeedsFlowsSpec)

/-- ITS FALSE NEIGHBOUR: 'it returns false'. Refute it at one input. -/
def fnExactNeedsFlowsWrong : ChangeSpec := { name := "fnExactNeedsFlows", fn := fun _ => fun
  | [d1, d2] => { results := [.lit (.bool false)], args := [d1, d2] }
  | _ => none }
def FnExactNeedsFlowsWrongFalsely : Prop := fnExactNeedsFlowsRow.holds Try.pinned (OpenSpec.ofChange fnExactNeedsFlowsWrong)

/-- 'laws.FnExactIsTightFor': WHATEVER THE INPUT: true; the input reads as it did. -/
def fnExactIsTightForSpec : ChangeSpec := { name := "fnExactIsTightFor", fn := fun _ => fun
  | [d1, d2, d3] => { results := [.lit (.bool true)], args := [d1, d2, d3] }
  | _ => none }
def fnExactIsTightForRow : OpenClaim := { program := "ythjdecnheaifkaa", sum := "5e7f942c90da19717cf1aa6cbf7660a8cffcaedf46f1b22b76c9178bd822091c", func := "loop.example/g03001/laws.FnExactIsTightFor", spec := "fnExactIsTightFor", apart := false }
def FnExactIsTightForSaid : Prop := fnExactIsTightForRow.holds Try.pinned (OpenSpec.ofChange fnExactIsTightForSpec)

/-- ITS FALSE NEIGHBOUR: 'it returns false'. Refute it at one input. -/
def fnExactIsTightForWrong : ChangeSpec := { name := "fnExactIsTightFor", fn := fun _ => fun
  | [d1, d2, d3] => { results := [.lit (.bool false)], args := [d1, d2, d3] }
  | _ => none }
def FnExactIsTightForWrongFalsely : Prop := fnExactIsTightForRow.holds Try.pinned (OpenSpec.ofChange fnExactIsTightForWrong)

/-- 'laws.FnExactRunOps': WHATEVER THE INPUT: true; the input reads as it did. -/
def fnExactRunOpsSpec : ChangeSpec := { name := "fnExactRunOps", fn := fun _ => fun
  | [d1, d2, d3, d4] => { results := [.lit (.bool true)], args := [d1, d2, d3, d4] }
  | _ => none }
def fnExactRunOpsRow : OpenClaim := { program := "ythjdecnheaifkaa", sum := "5e7f942c90da19717cf1aa6cbf7660a8cffcaedf46f1b22b76c9178bd822091c", func := "loop.example/g03001/laws.FnExactRunOps", spec := "fnExactRunOps", apart := false }
def FnExactRunOpsSaid : Prop := fnExactRunOpsRow.holds Try.pinned (OpenSpec.ofChange fnExactRunOpsSpec)

/-- ITS FALSE NEIGHBOUR: 'it returns false'. Refute it at one input. -/
def fnExactRunOpsWrong : ChangeSpec := { name := "fnExactRunOps", fn := fun _ => fun
  | [d1, d2, d3, d4] => { results := [.lit (.bool false)], args := [d1, d2, d3, d4] }
  | _ => none }
def FnExactRunOpsWrongFalsely : Prop := fnExactRunOpsRow.holds Try.pinned (OpenSpec.ofChange fnExactRunOpsWrong)

/-- 'laws.FnExactOwnersRead': WHATEVER THE INPUT: true; the input reads as it did. -/
def fnExactOwnersReadSpec : ChangeSpec := { name := "fnExactOwnersRead", fn := fun _ => fun
  | [d] => { results := [.lit (.bool true)], args := [d] }
  | _ => none }
def fnExactOwnersReadRow : OpenClaim := { program := "ythjdecnheaifkaa", sum := "5e7f942c90da19717cf1aa6cbf7660a8cffcaedf46f1b22b76c9178bd822091c", func := "loop.example/g03001/laws.FnExactOwnersRead", spec := "fnExactOwnersRead", recurses := true, apart := false }
def FnExactOwnersReadSaid : Prop := fnExactOwnersReadRow.holds Try.pinned (OpenSpec.ofChange fnExactOwnersReadSpec)

/-- ITS FALSE NEIGHBOUR: 'it returns false'. Refute it at one input. -/
def fnExactOwnersReadWrong : ChangeSpec := { name := "fnExactOwnersRead", fn := fun _ => fun
  | [d] => { results := [.lit (.bool false)], args := [d] }
  | _ => none }
def FnExactOwnersReadWrongFalsely : Prop := fnExactOwnersReadRow.holds Try.pinned (OpenSpec.ofChange fnExactOwnersReadWrong)

/-- 'laws.FnExactOwnersSent': WHATEVER THE INPUT: true; the input reads as it did. -/
def fnExactOwnersSentSpec : ChangeSpec := { name := "fnExactOwnersSent", fn := fun _ => fun
  | [d] => { results := [.lit (.bool true)], args := [d] }
  | _ => none }
def fnExactOwnersSentRow : OpenClaim := { program := "ythjdecnheaifkaa", sum := "5e7f942c90da19717cf1aa6cbf7660a8cffcaedf46f1b22b76c9178bd822091c", func := "loop.example/g03001/laws.FnExactOwnersSent", spec := "fnExactOwnersSent", recurses := true, apart := false }
def FnExactOwnersSentSaid : Prop := fnExactOwnersSentRow.holds Try.pinned (OpenSpec.ofChange fnExactOwnersSentSpec)

/-- ITS FALSE NEIGHBOUR: 'it returns false'. Refute it at one input. -/
def fnExactOwnersSentWrong : ChangeSpec := { name := "fnExactOwnersSent", fn := fun _ => fun
  | [d] => { results := [.lit (.bool false)], args := [d] }
  | _ => none }
def FnExactOwnersSentWrongFalsely : Prop := fnExactOwnersSentRow.holds Try.pinned (OpenSpec.ofChange fnExactOwnersSentWrong)

/-- 'laws.FnLeaks': WHATEVER THE INPUT: true; the input reads as it did. -/
def fnLeaksSpec : ChangeSpec := { name := "fnLeaks", fn := fun _ => fun
  | [d] => { results := [.lit (.bool true)], args := [d] }
  | _ => none }
def fnLeaksRow : OpenClaim := { program := "ythjdecnheaifkaa", sum := "5e7f942c90da19717cf1aa6cbf7660a8cffcaedf46f1b22b76c9178bd822091c", func := "loop.example/g03001/laws.FnLeaks", spec := "fnLeaks", recurses := true, apart := false }
def FnLeaksSaid : Prop := fnLeaksRow.holds Try.pinned (OpenSpec.ofChange fnLeaksSpec)

/-- ITS FALSE NEIGHBOUR: 'it returns false'. Refute it at one input. -/
def fnLeaksWrong : ChangeSpec := { name := "fnLeaks", fn := fun _ => fun
  | [d] => { results := [.lit (.bool false)], args := [d] }
  | _ => none }
def FnLeaksWrongFalsely : Prop := fnLeaksRow.holds Try.pinned (OpenSpec.ofChange fnLeaksWrong)

/- THE SECOND FORM. 'bulk': how many values and letters a reading holds, each counted each time it is reached (what is shared counts as often as it is met; a slice's spare places count too). A statement '..UptoSaid' is the law's where the arguments, and the package variables that the reading takes, are together of bulk at most 1048576: NARROWER than '..Said'. Prove '..Said' where nothing that the law and all that it calls make is longer than what came in: it says more and counts as full. Else prove '..UptoSaid'. A law counts once. -/
mutual
def uptoBulk {H : Type} : DataW H → Nat
  | .lit (.string bytes) => bytes.length + 1
  | .lit _ => 1
  | .nil => 1
  | .ptr d => uptoBulk d + 1
  | .slice elems spare => uptoBulkAll elems + uptoBulkAll spare + 1
  | .agg parts => uptoBulkAll parts + 1
  | .iface _ d => uptoBulk d + 1
  | .map entries => uptoBulkEntries entries + 1
  | .held _ => 1
def uptoBulkAll {H : Type} : List (DataW H) → Nat
  | [] => 0
  | d :: r => uptoBulk d + uptoBulkAll r
def uptoBulkEntries {H : Type} : List (Lit × DataW H) → Nat
  | [] => 0
  | x :: r => uptoBulkEntry x + uptoBulkEntries r
def uptoBulkEntry {H : Type} : Lit × DataW H → Nat
  | (.string bytes, d) => bytes.length + uptoBulk d + 1
  | (_, d) => uptoBulk d + 1
 end
def uptoSmall : (H : Type) → List (DataW H) → Bool := fun _ ds => decide (uptoBulkAll ds ≤ 1048576)
def OpenSpec.upto (s : _root_.Go.ChangeSpec) : _root_.Go.OpenSpec := { _root_.Go.OpenSpec.ofChange s with cond := some uptoSmall }

/-- 'laws.FnExactLabelsAfter', WHERE WHAT IT READS IS OF BULK AT MOST 1048576: true; the input reads as it did. -/
def fnExactLabelsAfterUptoRow : OpenClaim := { program := "ythjdecnheaifkaa", sum := "5e7f942c90da19717cf1aa6cbf7660a8cffcaedf46f1b22b76c9178bd822091c", func := "loop.example/g03001/laws.FnExactLabelsAfter", spec := "fnExactLabelsAfter", apart := false, narrowed := true }
def FnExactLabelsAfterUptoSaid : Prop := fnExactLabelsAfterUptoRow.holds Try.pinned (OpenSpec.upto fnExactLabelsAfterSpec)

/-- 'laws.FnPrograms', WHERE WHAT IT READS IS OF BULK AT MOST 1048576: true; the input reads as it did. -/
def fnProgramsUptoRow : OpenClaim := { program := "ythjdecnheaifkaa", sum := "5e7f942c90da19717cf1aa6cbf7660a8cffcaedf46f1b22b76c9178bd822091c", func := "loop.example/g03001/laws.FnPrograms", spec := "fnPrograms", apart := false, narrowed := true }
def FnProgramsUptoSaid : Prop := fnProgramsUptoRow.holds Try.pinned (OpenSpec.upto fnProgramsSpec)

/-- 'laws.FnExactNeedsFlows', WHERE WHAT IT READS IS OF BULK AT MOST 1048576: true; the input reads as it did. -/
def fnExactNeedsFlowsUptoRow : OpenClaim := { program := "ythjdecnheaifkaa", sum := "5e7f942c90da19717cf1aa6cbf7660a8cffcaedf46f1b22b76c9178bd822091c", func := "loop.example/g03001/laws.FnExactNeedsFlows", spec := "fnExactNeedsFlows", apart := false, narrowed := true }
def FnExactNeedsFlowsUptoSaid : Prop := fnExactNeedsFlowsUptoRow.holds Try.pinned (OpenSpec.upto fnExactNeedsFlowsSpec)

/-- 'laws.FnExactIsTightFor', WHERE WHAT IT READS IS OF BULK AT MOST 1048576: true; the input reads as it did. -/
def fnExactIsTightForUptoRow : OpenClaim := { program := "ythjdecnheaifkaa", sum := "5e7f942c90da19717cf1aa6cbf7660a8cffcaedf46f1b22b76c9178bd822091c", func := "loop.example/g03001/laws.FnExactIsTightFor", spec := "fnExactIsTightFor", apart := false, narrowed := true }
def FnExactIsTightForUptoSaid : Prop := fnExactIsTightForUptoRow.holds Try.pinned (OpenSpec.upto fnExactIsTightForSpec)

/-- 'laws.FnExactRunOps', WHERE WHAT IT READS IS OF BULK AT MOST 1048576: true; the input reads as it did. -/
def fnExactRunOpsUptoRow : OpenClaim := { program := "ythjdecnheaifkaa", sum := "5e7f942c90da19717cf1aa6cbf7660a8cffcaedf46f1b22b76c9178bd822091c", func := "loop.example/g03001/laws.FnExactRunOps", spec := "fnExactRunOps", apart := false, narrowed := true }
def FnExactRunOpsUptoSaid : Prop := fnExactRunOpsUptoRow.holds Try.pinned (OpenSpec.upto fnExactRunOpsSpec)

/-- 'laws.FnExactOwnersRead', WHERE WHAT IT READS IS OF BULK AT MOST 1048576: true; the input reads as it did. -/
def fnExactOwnersReadUptoRow : OpenClaim := { program := "ythjdecnheaifkaa", sum := "5e7f942c90da19717cf1aa6cbf7660a8cffcaedf46f1b22b76c9178bd822091c", func := "loop.example/g03001/laws.FnExactOwnersRead", spec := "fnExactOwnersRead", recurses := true, apart := false, narrowed := true }
def FnExactOwnersReadUptoSaid : Prop := fnExactOwnersReadUptoRow.holds Try.pinned (OpenSpec.upto fnExactOwnersReadSpec)

/-- 'laws.FnExactOwnersSent', WHERE WHAT IT READS IS OF BULK AT MOST 1048576: true; the input reads as it did. -/
def fnExactOwnersSentUptoRow : OpenClaim := { program := "ythjdecnheaifkaa", sum := "5e7f942c90da19717cf1aa6cbf7660a8cffcaedf46f1b22b76c9178bd822091c", func := "loop.example/g03001/laws.FnExactOwnersSent", spec := "fnExactOwnersSent", recurses := true, apart := false, narrowed := true }
def FnExactOwnersSentUptoSaid : Prop := fnExactOwnersSentUptoRow.holds Try.pinned (OpenSpec.upto fnExactOwnersSentSpec)

/-- 'laws.FnLeaks', WHERE WHAT IT READS IS OF BULK AT MOST 1048576: true; the input reads as it did. -/
def fnLeaksUptoRow : OpenClaim := { program := "ythjdecnheaifkaa", sum := "5e7f942c90da19717cf1aa6cbf7660a8cffcaedf46f1b22b76c9178bd822091c", func := "loop.example/g03001/laws.FnLeaks", spec := "fnLeaks", recurses := true, apart := false, narrowed := true }
def FnLeaksUptoSaid : Prop := fnLeaksUptoRow.holds Try.pinned (OpenSpec.upto fnLeaksSpec)

end Rows
end Go.Proofs.Ythjdecnheaifkaa
