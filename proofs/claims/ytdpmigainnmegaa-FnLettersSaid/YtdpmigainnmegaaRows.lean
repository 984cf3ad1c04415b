/-
  No cell of these rows narrows 'for every input' (looked for: loops, veiled, ifaces, maps, wideKeys, modest, calm, conditions, laid).
  DERIVED. THE GIVEN ROWS OF THIS SEAT. 12 by the template 'for every input the law returns true; each argument reads behind the call as it read before'; 0 by the template 'total and deterministic' (their statements: YtdpmigainnmegaaTotals.lean).
  GIVEN WITH THE SEED: the statements are not yours to turn. If you find one false, say at which input.
  Laid BY PROGRAM, IN A SANDBOX (cutbox-rows.mjs): the forced cells as the released guide's own fill.sh prints them over the translation ae8efd6a15f5baf6… (all of the seat's roots in one cut). By AI agents, Wed Nov 11 2026. No macro, syntax, notation, axiom, sorry.
-/
import Derived.Test.YtdpmigainnmegaaChecked
import GoSem.Claim
import GoSem.ClaimJoined
import GoSem.ClaimMapViews
import Derived.JoinedTies
import Derived.KernelRfl
namespace Go.Proofs.Ytdpmigainnmegaa
/- THE CELL 'sum', in the pinned program and in every row, IS THE sha256 OF THE DUMP (.gsa) THAT YtdpmigainnmegaaProg.lean LOADS. Nothing in Lean hashes anything: it is a label: what it is worth is what the hold of that sum in a sandbox is worth. -/
noncomputable def Try.pinned : Pinned := { name := "ytdpmigainnmegaa", sum := "ae8efd6a15f5baf627d4388cbe6b0a5ccf73213069c665c3c7c517b00bdada6c", checked := Try.checked }
namespace Rows
def none {H : Type} : Left H := { results := [], args := [] }

/-- 'laws.FnExactSameSent': WHATEVER THE INPUT: true; the input reads as it did. -/
def fnExactSameSentSpec : ChangeSpec := { name := "fnExactSameSent", fn := fun _ => fun
  | [d1, d2, d3] => { results := [.lit (.bool true)], args := [d1, d2, d3] }
  | _ => none }
def fnExactSameSentRow : OpenClaim := { program := "ytdpmigainnmegaa", sum := "ae8efd6a15f5baf627d4388cbe6b0a5ccf73213069c665c3c7c517b00bdada6c", func := "loop.example/g03001/laws.FnExactSameSent", spec := "fnExactSameSent", apart := false }
def FnExactSameSentSaid : Prop := fnExactSameSentRow.holds Try.pinned (OpenSpec.ofChange fnExactSameSentSpec)

/-- ITS FALSE NEIGHBOUR: 'it returns false'. Refute it at one input. -/
def fnExactSameSentWrong : ChangeSpec := { name := "fnExactSameSent", fn := fun _ => fun
  | [d1, d2, d3] => { results := [.lit (.bool false)], args := [d1, d2, d3] }
  | _ => none }
def FnExactSameSentWrongFalsely : Prop := fnExactSameSentRow.holds Try.pinned (OpenSpec.ofChange fnExactSameSentWrong)

/-- 'laws.FnExactReadWindow': WHATEVER THE INPUT: true; the input reads as it did. -/
def fnExactReadWindowSpec : ChangeSpec := { name := "fnExactReadWindow", fn := fun _ => fun
  | [d1, d2, d3] => { results := [.lit (.bool true)], args := [d1, d2, d3] }
  | _ => none }
def fnExactReadWindowRow : OpenClaim := { program := "ytdpmigainnmegaa", sum := "ae8efd6a15f5baf627d4388cbe6b0a5ccf73213069c665c3c7c517b00bdada6c", func := "loop.example/g03001/laws.FnExactReadWindow", spec := "fnExactReadWindow", apart := false }
def FnExactReadWindowSaid : Prop := fnExactReadWindowRow.holds Try.pinned (OpenSpec.ofChange fnExactReadWindowSpec)

/-- ITS FALSE NEIGHBOUR: 'it returns false'. Refute it at one input. -/
def fnExactReadWindowWrong : ChangeSpec := { name := "fnExactReadWindow", fn := fun _ => fun
  | [d1, d2, d3] => { results := [.lit (.bool false)], args := [d1, d2, d3] }
  | _ => none }
def FnExactReadWindowWrongFalsely : Prop := fnExactReadWindowRow.holds Try.pinned (OpenSpec.ofChange fnExactReadWindowWrong)

/-- 'laws.FnExactForged': WHATEVER THE INPUT: true; the input reads as it did. -/
def fnExactForgedSpec : ChangeSpec := { name := "fnExactForged", fn := fun _ => fun
  | [d1, d2] => { results := [.lit (.bool true)], args := [d1, d2] }
  | _ => none }
def fnExactForgedRow : OpenClaim := { program := "ytdpmigainnmegaa", sum := "ae8efd6a15f5baf627d4388cbe6b0a5ccf73213069c665c3c7c517b00bdada6c", func := "loop.example/g03001/laws.FnExactForged", spec := "fnExactForged", apart := false }
def FnExactForgedSaid : Prop := fnExactForgedRow.holds Try.pinned (OpenSpec.ofChange fnExactForgedSpec)

/-- ITS FALSE NEIGHBOUR: 'it returns false'. Refute it at one input. -/
def fnExactForgedWrong : ChangeSpec := { name := "fnExactForged", fn := fun _ => fun
  | [d1, d2] => { results := [.lit (.bool false)], args := [d1, d2] }
  | _ => none }
def FnExactForgedWrongFalsely : Prop := fnExactForgedRow.holds Try.pinned (OpenSpec.ofChange fnExactForgedWrong)

/-- 'laws.FnExactMayFlow': WHATEVER THE INPUT: true; the input reads as it did. -/
def fnExactMayFlowSpec : ChangeSpec := { name := "fnExactMayFlow", fn := fun _ => fun
  | [d1, d2, d3, d4] => { results := [.lit (.bool true)], args := [d1, d2, d3, d4] }
  | _ => none }
def fnExactMayFlowRow : OpenClaim := { program := "ytdpmigainnmegaa", sum := "ae8efd6a15f5baf627d4388cbe6b0a5ccf73213069c665c3c7c517b00bdada6c", func := "loop.example/g03001/laws.FnExactMayFlow", spec := "fnExactMayFlow", apart := false }
def FnExactMayFlowSaid : Prop := fnExactMayFlowRow.holds Try.pinned (OpenSpec.ofChange fnExactMayFlowSpec)

/-- ITS FALSE NEIGHBOUR: 'it returns false'. Refute it at one input. -/
def fnExactMayFlowWrong : ChangeSpec := { name := "fnExactMayFlow", fn := fun _ => fun
  | [d1, d2, d3, d4] => { results := [.lit (.bool false)], args := [d1, d2, d3, d4] }
  | _ => none }
def FnExactMayFlowWrongFalsely : Prop := fnExactMayFlowRow.holds Try.pinned (OpenSpec.ofChange fnExactMayFlowWrong)

/-- 'laws.FnExactCloseWindow': WHATEVER THE INPUT: true; the input reads as it did. -/
def fnExactCloseWindowSpec : ChangeSpec := { name := "fnExactCloseWindow", fn := fun _ => fun
  | [d] => { results := [.lit (.bool true)], args := [d] }
  | _ => none }
def fnExactCloseWindowRow : OpenClaim := { program := "ytdpmigainnmegaa", sum := "ae8efd6a15f5baf627d4388cbe6b0a5ccf73213069c665c3c7c517b00bdada6c", func := "loop.example/g03001/laws.FnExactCloseWindow", spec := "fnExactCloseWindow", apart := false }
def FnExactCloseWindowSaid : Prop := fnExactCloseWindowRow.holds Try.pinned (OpenSpec.ofChange fnExactCloseWindowSpec)

/-- ITS FALSE NEIGHBOUR: 'it returns false'. Refute it at one input. -/
def fnExactCloseWindowWrong : ChangeSpec := { name := "fnExactCloseWindow", fn := fun _ => fun
  | [d] => { results := [.lit (.bool false)], args := [d] }
  | _ => none }
def FnExactCloseWindowWrongFalsely : Prop := fnExactCloseWindowRow.holds Try.pinned (OpenSpec.ofChange fnExactCloseWindowWrong)

/-- 'laws.FnLetters': WHATEVER THE INPUT: true; the input reads as it did. -/
def fnLettersSpec : ChangeSpec := { name := "fnLetters", fn := fun _ => fun
  | [d] => { results := [.lit (.bool true)], args := [d] }
  | _ => none }
def fnLettersRow : OpenClaim := { program := "ytdpmigainnmegaa", sum := "ae8efd6a15f5baf627d4388cbe6b0a5ccf73213069c665c3c7c517b00bdada6c", func := "loop.example/g03001/laws.FnLetters", spec := "fnLetters", apart := false }
def FnLettersSaid : Prop := fnLettersRow.holds Try.pinned (OpenSpec.ofChange fnLettersSpec)

/-- ITS FALSE NEIGHBOUR: 'it returns false'. Refute it at one input. -/
def fnLettersWrong : ChangeSpec := { name := "fnLetters", fn := fun _ => fun
  | [d] => { results := [.lit (.bool false)], args := [d] }
  | _ => none }
def FnLettersWrongFalsely : Prop := fnLettersRow.holds Try.pinned (OpenSpec.ofChange fnLettersWrong)

/-- 'laws.FnExactDeliver': WHATEVER THE INPUT: true; the input reads as it did. -/
def fnExactDeliverSpec : ChangeSpec := { name := "fnExactDeliver", fn := fun _ => fun
  | [d1, d2, d3] => { results := [.lit (.bool true)], args := [d1, d2, d3] }
  | _ => none }
def fnExactDeliverRow : OpenClaim := { program := "ytdpmigainnmegaa", sum := "ae8efd6a15f5baf627d4388cbe6b0a5ccf73213069c665c3c7c517b00bdada6c", func := "loop.example/g03001/laws.FnExactDeliver", spec := "fnExactDeliver", apart := false }
def FnExactDeliverSaid : Prop := fnExactDeliverRow.holds Try.pinned (OpenSpec.ofChange fnExactDeliverSpec)

/-- ITS FALSE NEIGHBOUR: 'it returns false'. Refute it at one input. -/
def fnExactDeliverWrong : ChangeSpec := { name := "fnExactDeliver", fn := fun _ => fun
  | [d1, d2, d3] => { results := [.lit (.bool false)], args := [d1, d2, d3] }
  | _ => none }
def FnExactDeliverWrongFalsely : Prop := fnExactDeliverRow.holds Try.pinned (OpenSpec.ofChange fnExactDeliverWrong)

/-- 'laws.FnExactTargetsOf': WHATEVER THE INPUT: true; the input reads as it did. -/
def fnExactTargetsOfSpec : ChangeSpec := { name := "fnExactTargetsOf", fn := fun _ => fun
  | [d1, d2, d3] => { results := [.lit (.bool true)], args := [d1, d2, d3] }
  | _ => none }
def fnExactTargetsOfRow : OpenClaim := { program := "ytdpmigainnmegaa", sum := "ae8efd6a15f5baf627d4388cbe6b0a5ccf73213069c665c3c7c517b00bdada6c", func := "loop.example/g03001/laws.FnExactTargetsOf", spec := "fnExactTargetsOf", apart := false }
def FnExactTargetsOfSaid : Prop := fnExactTargetsOfRow.holds Try.pinned (OpenSpec.ofChange fnExactTargetsOfSpec)

/-- ITS FALSE NEIGHBOUR: 'it returns false'. Refute it at one input. -/
def fnExactTargetsOfWrong : ChangeSpec := { name := "fnExactTargetsOf", fn := fun _ => fun
  | [d1, d2, d3] => { results := [.lit (.bool false)], args := [d1, d2, d3] }
  | _ => none }
def FnExactTargetsOfWrongFalsely : Prop := fnExactTargetsOfRow.holds Try.pinned (OpenSpec.ofChange fnExactTargetsOfWrong)

/-- 'laws.FnFlows': WHATEVER THE INPUT: true; the input reads as it did. -/
def fnFlowsSpec : ChangeSpec := { name := "fnFlows", fn := fun _ => fun
  | [d] => { results := [.lit (.bool true)], args := [d] }
  | _ => none }
def fnFlowsRow : OpenClaim := { program := "ytdpmigainnmegaa", sum := "ae8efd6a15f5baf627d4388cbe6b0a5ccf73213069c665c3c7c517b00bdada6c", func := "loop.example/g03001/laws.FnFlows", spec := "fnFlows", apart := false }
def FnFlowsSaid : Prop := fnFlowsRow.holds Try.pinned (OpenSpec.ofChange fnFlowsSpec)

/-- ITS FALSE NEIGHBOUR: 'it returns false'. Refute it at one input. -/
def fnFlowsWrong : ChangeSpec := { name := "fnFlows", fn := fun _ => fun
  | [d] => { results := [.lit (.bool false)], args := [d] }
  | _ => none }
def FnFlowsWrongFalsely : Prop := fnFlowsRow.holds Try.pinned (OpenSpec.ofChange fnFlowsWrong)

/-- 'laws.FnExactOpenWindow': WHATEVER THE INPUT: true; the input reads as it did. -/
def fnExactOpenWindowSpec : ChangeSpec := { name := "fnExactOpenWindow", fn := fun _ => fun
  | [d1, d2] => { results := [.lit (.bool true)], args := [d1, d2] }
  | _ => none }
def fnExactOpenWindowRow : OpenClaim := { program := "ytdpmigainnmegaa", sum := "ae8efd6a15f5baf627d4388cbe6b0a5ccf73213069c665c3c7c517b00bdada6c", func := "loop.example/g03001/laws.FnExactOpenWindow", spec := "fnExactOpenWindow", apart := false }
def FnExactOpenWindowSaid : Prop := fnExactOpenWindowRow.holds Try.pinned (OpenSpec.ofChange fnExactOpenWindowSpec)

/-- ITS FALSE NEIGHBOUR: 'it returns false'. Refute it at one input. -/
def fnExactOpenWindowWrong : ChangeSpec := { name := "fnExactOpenWindow", fn := fun _ => fun
  | [d1, d2] => { results := [.lit (.bool false)], args := [d1, d2] }
  | _ => none }
def FnExactOpenWindowWrongFalsely : Prop := fnExactOpenWindowRow.holds Try.pinned (OpenSpec.ofChange fnExactOpenWindowWrong)

/-- 'laws.FnExactIsClicked': WHATEVER THE INPUT: true; the input reads as it did. -/
def fnExactIsClickedSpec : ChangeSpec := { name := "fnExactIsClicked", fn := fun _ => fun
  | [d1, d2] => { results := [.lit (.bool true)], args := [d1, d2] }
  | _ => none }
def fnExactIsClickedRow : OpenClaim := { program := "ytdpmigainnmegaa", sum := "ae8efd6a15f5baf627d4388cbe6b0a5ccf73213069c665c3c7c517b00bdada6c", func := "loop.example/g03001/laws.FnExactIsClicked", spec := "fnExactIsClicked", apart := false }
def FnExactIsClickedSaid : Prop := fnExactIsClickedRow.holds Try.pinned (OpenSpec.ofChange fnExactIsClickedSpec)

/-- ITS FALSE NEIGHBOUR: 'it returns false'. Refute it at one input. -/
def fnExactIsClickedWrong : ChangeSpec := { name := "fnExactIsClicked", fn := fun _ => fun
  | [d1, d2] => { results := [.lit (.bool false)], args := [d1, d2] }
  | _ => none }
def FnExactIsClickedWrongFalsely : Prop := fnExactIsClickedRow.holds Try.pinned (OpenSpec.ofChange fnExactIsClickedWrong)

/-- 'laws.FnExactEqualTabs': WHATEVER THE INPUT: true; the input reads as it did. -/
def fnExactEqualTabsSpec : ChangeSpec := { name := "fnExactEqualTabs", fn := fun _ => fun
  | [d1, d2] => { results := [.lit (.bool true)], args := [d1, d2] }
  | _ => none }
def fnExactEqualTabsRow : OpenClaim := { program := "ytdpmigainnmegaa", sum := "ae8efd6a15f5baf627d4388cbe6b0a5ccf73213069c665c3c7c517b00bdada6c", func := "loop.example/g03001/laws.FnExactEqualTabs", spec := "fnExactEqualTabs", apart := false }
def FnExactEqualTabsSaid : Prop := fnExactEqualTabsRow.holds Try.pinned (OpenSpec.ofChange fnExactEqualTabsSpec)

/-- ITS FALSE NEIGHBOUR: 'it returns false'. Refute it at one input. -/
def fnExactEqualTabsWrong : ChangeSpec := { name := "fnExactEqualTabs", fn := fun _ => fun
  | [d1, d2] => { results := [.lit (.bool false)], args := [d1, d2] }
  | _ => none }
def FnExactEqualTabsWrongFalsely : Prop := fnExactEqualTabsRow.holds Try.pinned (OpenSpec.ofChange fnExactEqualTabsWrong)

/- THE SECOND FORM. 'bulk': how many values and letters a reading holds, each counted each time it is reached (what is shared counts as often as it is met; a slice's spare places count too). A statement '..UptoSaid' is the law's where the arguments, and the package variables that the reading takes, are together of bulk at most 1048576: NARROWER than '..Said'. Prove '..Said' where nothing that the law and all that it calls make is longer than what came in: it says more and counts as full. Else prove '..UptoSaid'. A law counts once. -/
mutual
def uptoBulk {H : Type} : DataW H → Nat
  | .lit (.string bytes) => bytes.length + 1
  | .lit _ => 1
  | .nil => 1
  | .ptr d => uptoBulk d + 1
  | .slice elems spare => uptoBulkAll elems + uptoBulkAll spare + 1
  | .agg parts => uptoBulkAll parts + 1
  | .iface _ d => uptoBulk d + 1
  | .map entries => uptoBulkEntries entries + 1
  | .held _ => 1
def uptoBulkAll {H : Type} : List (DataW H) → Nat
  | [] => 0
  | d :: r => uptoBulk d + uptoBulkAll r
def uptoBulkEntries {H : Type} : List (Lit × DataW H) → Nat
  | [] => 0
  | x :: r => uptoBulkEntry x + uptoBulkEntries r
def uptoBulkEntry {H : Type} : Lit × DataW H → Nat
  | (.string bytes, d) => bytes.length + uptoBulk d + 1
  | (_, d) => uptoBulk d + 1
 end
def uptoSmall : (H : Type) → List (DataW H) → Bool := fun _ ds => decide (uptoBulkAll ds ≤ 1048576)
def OpenSpec.upto (s : _root_.Go.ChangeSpec) : _root_.Go.OpenSpec := { _root_.Go.OpenSpec.ofChange s with cond := some uptoSmall }

/-- 'laws.FnExactSameSent', WHERE WHAT IT READS IS OF BULK AT MOST 1048576: true; the input reads as it did. -/
def fnExactSameSentUptoRow : OpenClaim := { program := "ytdpmigainnmegaa", sum := "ae8efd6a15f5baf627d4388cbe6b0a5ccf73213069c665c3c7c517b00bdada6c", func := "loop.example/g03001/laws.FnExactSameSent", spec := "fnExactSameSent", apart := false, narrowed := true }
def FnExactSameSentUptoSaid : Prop := fnExactSameSentUptoRow.holds Try.pinned (OpenSpec.upto fnExactSameSentSpec)

/-- 'laws.FnExactReadWindow', WHERE WHAT IT READS IS OF BULK AT MOST 1048576: true; the input reads as it did. -/
def fnExactReadWindowUptoRow : OpenClaim := { program := "ytdpmigainnmegaa", sum := "ae8efd6a15f5baf627d4388cbe6b0a5ccf73213069c665c3c7c517b00bdada6c", func := "loop.example/g03001/laws.FnExactReadWindow", spec := "fnExactReadWindow", apart := false, narrowed := true }
def FnExactReadWindowUptoSaid : Prop := fnExactReadWindowUptoRow.holds Try.pinned (OpenSpec.upto fnExactReadWindowSpec)

/-- 'laws.FnExactForged', WHERE WHAT IT READS IS OF BULK AT MOST 1048576: true; the input reads as it did. -/
def fnExactForgedUptoRow : OpenClaim := { program := "ytdpmigainnmegaa", sum := "ae8efd6a15f5baf627d4388cbe6b0a5ccf73213069c665c3c7c517b00bdada6c", func := "loop.example/g03001/laws.FnExactForged", spec := "fnExactForged", apart := false, narrowed := true }
def FnExactForgedUptoSaid : Prop := fnExactForgedUptoRow.holds Try.pinned (OpenSpec.upto fnExactForgedSpec)

/-- 'laws.FnExactMayFlow', WHERE WHAT IT READS IS OF BULK AT MOST 1048576: true; the input reads as it did. -/
def fnExactMayFlowUptoRow : OpenClaim := { program := "ytdpmigainnmegaa", sum := "ae8efd6a15f5baf627d4388cbe6b0a5ccf73213069c665c3c7c517b00bdada6c", func := "loop.example/g03001/laws.FnExactMayFlow", spec := "fnExactMayFlow", apart := false, narrowed := true }
def FnExactMayFlowUptoSaid : Prop := fnExactMayFlowUptoRow.holds Try.pinned (OpenSpec.upto fnExactMayFlowSpec)

/-- 'laws.FnExactCloseWindow', WHERE WHAT IT READS IS OF BULK AT MOST 1048576: true; the input reads as it did. -/
def fnExactCloseWindowUptoRow : OpenClaim := { program := "ytdpmigainnmegaa", sum := "ae8efd6a15f5baf627d4388cbe6b0a5ccf73213069c665c3c7c517b00bdada6c", func := "loop.example/g03001/laws.FnExactCloseWindow", spec := "fnExactCloseWindow", apart := false, narrowed := true }
def FnExactCloseWindowUptoSaid : Prop := fnExactCloseWindowUptoRow.holds Try.pinned (OpenSpec.upto fnExactCloseWindowSpec)

/-- 'laws.FnLetters', WHERE WHAT IT READS IS OF BULK AT MOST 1048576: true; the input reads as it did. -/
def fnLettersUptoRow : OpenClaim := { program := "ytdpmigainnmegaa", sum := "ae8efd6a15f5baf627d4388cbe6b0a5ccf73213069c665c3c7c517b00bdada6c", func := "loop.example/g03001/laws.FnLetters", spec := "fnLetters", apart := false, narrowed := true }
def FnLettersUptoSaid : Prop := fnLettersUptoRow.holds Try.pinned (OpenSpec.upto fnLettersSpec)

/-- 'laws.FnExactDeliver', WHERE WHAT IT READS IS OF BULK AT MOST 1048576: true; the input reads as it did. -/
def fnExactDeliverUptoRow : OpenClaim := { program := "ytdpmigainnmegaa", sum := "ae8efd6a15f5baf627d4388cbe6b0a5ccf73213069c665c3c7c517b00bdada6c", func := "loop.example/g03001/laws.FnExactDeliver", spec := "fnExactDeliver", apart := false, narrowed := true }
def FnExactDeliverUptoSaid : Prop := fnExactDeliverUptoRow.holds Try.pinned (OpenSpec.upto fnExactDeliverSpec)

/-- 'laws.FnExactTargetsOf', WHERE WHAT IT READS IS OF BULK AT MOST 1048576: true; the input reads as it did. -/
def fnExactTargetsOfUptoRow : OpenClaim := { program := "ytdpmigainnmegaa", sum := "ae8efd6a15f5baf627d4388cbe6b0a5ccf73213069c665c3c7c517b00bdada6c", func := "loop.example/g03001/laws.FnExactTargetsOf", spec := "fnExactTargetsOf", apart := false, narrowed := true }
def FnExactTargetsOfUptoSaid : Prop := fnExactTargetsOfUptoRow.holds Try.pinned (OpenSpec.upto fnExactTargetsOfSpec)

/-- 'laws.FnFlows', WHERE WHAT IT READS IS OF BULK AT MOST 1048576: true; the input reads as it did. -/
def fnFlowsUptoRow : OpenClaim := { program := "ytdpmigainnmegaa", sum := "ae8efd6a15f5baf627d4388cbe6b0a5ccf73213069c665c3c7c517b00bdada6c", func := "loop.example/g03001/laws.FnFlows", spec := "fnFlows", apart := false, narrowed := true }
def FnFlowsUptoSaid : Prop := fnFlowsUptoRow.holds Try.pinned (OpenSpec.upto fnFlowsSpec)

/-- 'laws.FnExactOpenWindow', WHERE WHAT IT READS IS OF BULK AT MOST 1048576: true; the input reads as it did. -/
def fnExactOpenWindowUptoRow : OpenClaim := { program := "ytdpmigainnmegaa", sum := "ae8efd6a15f5baf627d4388cbe6b0a5ccf73213069c665c3c7c517b00bdada6c", func := "loop.example/g03001/laws.FnExactOpenWindow", spec := "fnExactOpenWindow", apart := false, narrowed := true }
def FnExactOpenWindowUptoSaid : Prop := fnExactOpenWindowUptoRow.holds Try.pinned (OpenSpec.upto fnExactOpenWindowSpec)

/-- 'laws.FnExactIsClicked', WHERE WHAT IT READS IS OF BULK AT MOST 1048576: true; the input reads as it did. -/
def fnExactIsClickedUptoRow : OpenClaim := { program := "ytdpmigainnmegaa", sum := "ae8efd6a15f5baf627d4388cbe6b0a5ccf73213069c665c3c7c517b00bdada6c", func := "loop.example/g03001/laws.FnExactIsClicked", spec := "fnExactIsClicked", apart := false, narrowed := true }
def FnExactIsClickedUptoSaid : Prop := fnExactIsClickedUptoRow.holds Try.pinned (OpenSpec.upto fnExactIsClickedSpec)

/-- 'laws.FnExactEqualTabs', WHERE WHAT IT READS IS OF BULK AT MOST 1048576: true; the input reads as it did. -/
def fnExactEqualTabsUptoRow : OpenClaim := { program := "ytdpmigainnmegaa", sum := "ae8efd6a15f5baf627d4388cbe6b0a5ccf73213069c665c3c7c517b00bdada6c", func := "loop.example/g03001/laws.FnExactEqualTabs", spec := "fnExactEqualTabs", apart := false, narrowed := true }
def FnExactEqualTabsUptoSaid : Prop := fnExactEqualTabsUptoRow.holds Try.pinned (OpenSpec.upto fnExactEqualTabsSpec)

end Rows
end Go.Proofs.Ytdpmigainnmegaa
