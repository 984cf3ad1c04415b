/-
  No cell of these rows narrows 'for every input' (looked for: loops, veiled, ifaces, maps, wideKeys, modest, calm, conditions, laid).
  DERIVED. THE GIVEN ROWS OF THIS SEAT. 7 by the template 'for every input the law returns true; each argument reads behind the call as it read before'; 0 by the template 'total and deterministic' (their statements: YtlnjbkgplogmiaaTotals.lean).
  GIVEN WITH THE SEED: the statements are not yours to turn. If you find one false, say at which input.
  Laid BY PROGRAM, IN A SANDBOX (cutbox-rows.mjs): the forced cells as the released guide's own fill.sh prints them over the translation 5c77294a7dc9a322… (all of the seat's roots in one cut). By AI agents, Wed Nov 11 2026. No macro, syntax, notation, axiom, sorry.
-/
import Derived.Test.YtlnjbkgplogmiaaChecked
import GoSem.Claim
import GoSem.ClaimJoined
import GoSem.ClaimMapViews
import Derived.JoinedTies
import Derived.KernelRfl
namespace Go.Proofs.Ytlnjbkgplogmiaa
/- THE CELL 'sum', in the pinned program and in every row, IS THE sha256 OF THE DUMP (.gsa) THAT YtlnjbkgplogmiaaProg.lean LOADS. Nothing in Lean hashes anything: it is a label: what it is worth is what the hold of that sum in a sandbox is worth. -/
noncomputable def Try.pinned : Pinned := { name := "ytlnjbkgplogmiaa", sum := "5c77294a7dc9a322499cee9fb8a026cdfc0760fe69dc8a9c96521c6bb69517b5", checked := Try.checked }
namespace Rows
def none {H : Type} : Left H := { results := [], args := [] }

/-- 'laws.FnExactIsFlow': WHATEVER THE INPUT: true; the input reads as it did. -/
def fnExactIsFlowSpec : ChangeSpec := { name := "fnExactIsFlow", fn := fun _ => fun
  | [d] => { results := [.lit (.bool true)], args := [d] }
  | _ => none }
def fnExactIsFlowRow : OpenClaim := { program := "ytlnjbkgplogmiaa", sum := "5c77294a7dc9a322499cee9fb8a026cdfc0760fe69dc8a9c96521c6bb69517b5", func := "loop.example/g03001/laws.FnExactIsFlow", spec := "fnExactIsFlow", apart := false }
def FnExactIsFlowSaid : Prop := fnExactIsFlowRow.holds Try.pinned (OpenSpec.ofChange fnExactIsFlowSpec)

/-- ITS FALSE NEIGHBOUR: 'it returns false'. Refute it at one input. -/
def fnExactIsFlowWrong : ChangeSpec := { name := "fnExactIsFlow", fn := fun _ => fun
  | [d] => { results := [.lit (.bool false)], args := [d] }
  | _ => none }
def FnExactIsFlowWrongFalsely : Prop := fnExactIsFlowRow.holds Try.pinned (OpenSpec.ofChange fnExactIsFlowWrong)

/-- 'laws.FnExactUpdateName': WHATEVER THE INPUT: true; the input reads as it did. -/
def fnExactUpdateNameSpec : ChangeSpec := { name := "fnExactUpdateName", fn := fun _ => fun
  | [d] => { results := [.lit (.bool true)], args := [d] }
  | _ => none }
def fnExactUpdateNameRow : OpenClaim := { program := "ytlnjbkgplogmiaa", sum := "5c77294a7dc9a322499cee9fb8a026cdfc0760fe69dc8a9c96521c6bb69517b5", func := "loop.example/g03001/laws.FnExactUpdateName", spec := "fnExactUpdateName", apart := false }
def FnExactUpdateNameSaid : Prop := fnExactUpdateNameRow.holds Try.pinned (OpenSpec.ofChange fnExactUpdateNameSpec)

/-- ITS FALSE NEIGHBOUR: 'it returns false'. Refute it at one input. -/
def fnExactUpdateNameWrong : ChangeSpec := { name := "fnExactUpdateName", fn := fun _ => fun
  | [d] => { results := [.lit (.bool false)], args := [d] }
  | _ => none }
def FnExactUpdateNameWrongFalsely : Prop := fnExactUpdateNameRow.holds Try.pinned (OpenSpec.ofChange fnExactUpdateNameWrong)

/-- 'laws.FnExactReviewName': WHATEVER THE INPUT: true; the input reads as it did. -/
def fnExactReviewNameSpec : ChangeSpec := { name := "fnExactReviewName", fn := fun _ => fun
  | [d] => { results := [.lit (.bool true)], args := [d] }
  | _ => none }
def fnExactReviewNameRow : OpenClaim := { program := "ytlnjbkgplogmiaa", sum := "5c77294a7dc9a322499cee9fb8a026cdfc0760fe69dc8a9c96521c6bb69517b5", func := "loop.example/g03001/laws.FnExactReviewName", spec := "fnExactReviewName", apart := false }
def FnExactReviewNameSaid : Prop := fnExactReviewNameRow.holds Try.pinned (OpenSpec.ofChange fnExactReviewNameSpec)

/-- ITS FALSE NEIGHBOUR: 'it returns false'. Refute it at one input. -/
def fnExactReviewNameWrong : ChangeSpec := { name := "fnExactReviewName", fn := fun _ => fun
  | [d] => { results := [.lit (.bool false)], args := [d] }
  | _ => none }
def FnExactReviewNameWrongFalsely : Prop := fnExactReviewNameRow.holds Try.pinned (OpenSpec.ofChange fnExactReviewNameWrong)

/-- 'laws.FnExactIsGenuine': WHATEVER THE INPUT: true; the input reads as it did. -/
def fnExactIsGenuineSpec : ChangeSpec := { name := "fnExactIsGenuine", fn := fun _ => fun
  | [d1, d2] => { results := [.lit (.bool true)], args := [d1, d2] }
  | _ => none }
def fnExactIsGenuineRow : OpenClaim := { program := "ytlnjbkgplogmiaa", sum := "5c77294a7dc9a322499cee9fb8a026cdfc0760fe69dc8a9c96521c6bb69517b5", func := "loop.example/g03001/laws.FnExactIsGenuine", spec := "fnExactIsGenuine", apart := false }
def FnExactIsGenuineSaid : Prop := fnExactIsGenuineRow.holds Try.pinned (OpenSpec.ofChange fnExactIsGenuineSpec)

/-- ITS FALSE NEIGHBOUR: 'it returns false'. Refute it at one input. -/
def fnExactIsGenuineWrong : ChangeSpec := { name := "fnExactIsGenuine", fn := fun _ => fun
  | [d1, d2] => { results := [.lit (.bool false)], args := [d1, d2] }
  | _ => none }
def FnExactIsGenuineWrongFalsely : Prop := fnExactIsGenuineRow.holds Try.pinned (OpenSpec.ofChange fnExactIsGenuineWrong)

/-- 'laws.FnExactEqualSent': WHATEVER THE INPUT: true; the input reads as it did. -/
def fnExactEqualSentSpec : ChangeSpec := { name := "fnExactEqualSent", fn := fun _ => fun
  | [d1, d2] => { results := [.lit (.bool true)], args := [d1, d2] }
  | _ => none }
def fnExactEqualSentRow : OpenClaim := { program := "ytlnjbkgplogmiaa", sum := "5c77294a7dc9a322499cee9fb8a026cdfc0760fe69dc8a9c96521c6bb69517b5", func := "loop.example/g03001/laws.FnExactEqualSent", spec := "fnExactEqualSent", apart := false }
def FnExactEqualSentSaid : Prop := fnExactEqualSentRow.holds Try.pinned (OpenSpec.ofChange fnExactEqualSentSpec)

/-- ITS FALSE NEIGHBOUR: 'it returns false'. Refute it at one input. -/
def fnExactEqualSentWrong : ChangeSpec := { name := "fnExactEqualSent", fn := fun _ => fun
  | [d1, d2] => { results := [.lit (.bool false)], args := [d1, d2] }
  | _ => none }
def FnExactEqualSentWrongFalsely : Prop := fnExactEqualSentRow.holds Try.pinned (OpenSpec.ofChange fnExactEqualSentWrong)

/-- 'laws.FnExactChain': WHATEVER THE INPUT: true; the input reads as it did. -/
def fnExactChainSpec : ChangeSpec := { name := "fnExactChain", fn := fun _ => fun
  | [d1, d2, d3] => { results := [.lit (.bool true)], args := [d1, d2, d3] }
  | _ => none }
def fnExactChainRow : OpenClaim := { program := "ytlnjbkgplogmiaa", sum := "5c77294a7dc9a322499cee9fb8a026cdfc0760fe69dc8a9c96521c6bb69517b5", func := "loop.example/g03001/laws.FnExactChain", spec := "fnExactChain", apart := false }
def FnExactChainSaid : Prop := fnExactChainRow.holds Try.pinned (OpenSpec.ofChange fnExactChainSpec)

/-- ITS FALSE NEIGHBOUR: 'it returns false'. Refute it at one input. -/
def fnExactChainWrong : ChangeSpec := { name := "fnExactChain", fn := fun _ => fun
  | [d1, d2, d3] => { results := [.lit (.bool false)], args := [d1, d2, d3] }
  | _ => none }
def FnExactChainWrongFalsely : Prop := fnExactChainRow.holds Try.pinned (OpenSpec.ofChange fnExactChainWrong)

/-- 'laws.FnExactChangeValue': WHATEVER THE INPUT: true; the input reads as it did. -/
def fnExactChangeValueSpec : ChangeSpec := { name := "fnExactChangeValue", fn := fun _ => fun
  | [d1, d2, d3] => { results := [.lit (.bool true)], args := [d1, d2, d3] }
  | _ => none }
def fnExactChangeValueRow : OpenClaim := { program := "ytlnjbkgplogmiaa", sum := "5c77294a7dc9a322499cee9fb8a026cdfc0760fe69dc8a9c96521c6bb69517b5", func := "loop.example/g03001/laws.FnExactChangeValue", spec := "fnExactChangeValue", apart := false }
def FnExactChangeValueSaid : Prop := fnExactChangeValueRow.holds Try.pinned (OpenSpec.ofChange fnExactChangeValueSpec)

/-- ITS FALSE NEIGHBOUR: 'it returns false'. Refute it at one input. -/
def fnExactChangeValueWrong : ChangeSpec := { name := "fnExactChangeValue", fn := fun _ => fun
  | [d1, d2, d3] => { results := [.lit (.bool false)], args := [d1, d2, d3] }
  | _ => none }
def FnExactChangeValueWrongFalsely : Prop := fnExactChangeValueRow.holds Try.pinned (OpenSpec.ofChange fnExactChangeValueWrong)

/- THE SECOND FORM. 'bulk': how many values and letters a reading holds, each counted each time it is reached (what is shared counts as often as it is met; a slice's spare places count too). A statement '..UptoSaid' is the law's where the arguments, and the package variables that the reading takes, are together of bulk at most 1048576: NARROWER than '..Said'. Prove '..Said' where nothing that the law and all that it calls make is longer than what came in: it says more and counts as full. Else prove '..UptoSaid'. A law counts once. -/
mutual
def uptoBulk {H : Type} : DataW H → Nat
  | .lit (.string bytes) => bytes.length + 1
  | .lit _ => 1
  | .nil => 1
  | .ptr d => uptoBulk d + 1
  | .slice elems spare => uptoBulkAll elems + uptoBulkAll spare + 1
  | .agg parts => uptoBulkAll parts + 1
  | .iface _ d => uptoBulk d + 1
  | .map entries => uptoBulkEntries entries + 1
  | .held _ => 1
def uptoBulkAll {H : Type} : List (DataW H) → Nat
  | [] => 0
  | d :: r => uptoBulk d + uptoBulkAll r
def uptoBulkEntries {H : Type} : List (Lit × DataW H) → Nat
  | [] => 0
  | x :: r => uptoBulkEntry x + uptoBulkEntries r
def uptoBulkEntry {H : Type} : Lit × DataW H → Nat
  | (.string bytes, d) => bytes.length + uptoBulk d + 1
  | (_, d) => uptoBulk d + 1
 end
def uptoSmall : (H : Type) → List (DataW H) → Bool := fun _ ds => decide (uptoBulkAll ds ≤ 1048576)
def OpenSpec.upto (s : _root_.Go.ChangeSpec) : _root_.Go.OpenSpec := { _root_.Go.OpenSpec.ofChange s with cond := some uptoSmall }

/-- 'laws.FnExactIsFlow', WHERE WHAT IT READS IS OF BULK AT MOST 1048576: true; the input reads as it did. -/
def fnExactIsFlowUptoRow : OpenClaim := { program := "ytlnjbkgplogmiaa", sum := "5c77294a7dc9a322499cee9fb8a026cdfc0760fe69dc8a9c96521c6bb69517b5", func := "loop.example/g03001/laws.FnExactIsFlow", spec := "fnExactIsFlow", apart := false, narrowed := true }
def FnExactIsFlowUptoSaid : Prop := fnExactIsFlowUptoRow.holds Try.pinned (OpenSpec.upto fnExactIsFlowSpec)

/-- 'laws.FnExactUpdateName', WHERE WHAT IT READS IS OF BULK AT MOST 1048576: true; the input reads as it did. -/
def fnExactUpdateNameUptoRow : OpenClaim := { program := "ytlnjbkgplogmiaa", sum := "5c77294a7dc9a322499cee9fb8a026cdfc0760fe69dc8a9c96521c6bb69517b5", func := "loop.example/g03001/laws.FnExactUpdateName", spec := "fnExactUpdateName", apart := false, narrowed := true }
def FnExactUpdateNameUptoSaid : Prop := fnExactUpdateNameUptoRow.holds Try.pinned (OpenSpec.upto fnExactUpdateNameSpec)

/-- 'laws.FnExactReviewName', WHERE WHAT IT READS IS OF BULK AT MOST 1048576: true; the input reads as it did. -/
def fnExactReviewNameUptoRow : OpenClaim := { program := "ytlnjbkgplogmiaa", sum := "5c77294a7dc9a322499cee9fb8a026cdfc0760fe69dc8a9c96521c6bb69517b5", func := "loop.example/g03001/laws.FnExactReviewName", spec := "fnExactReviewName", apart := false, narrowed := true }
def FnExactReviewNameUptoSaid : Prop := fnExactReviewNameUptoRow.holds Try.pinned (OpenSpec.upto fnExactReviewNameSpec)

/-- 'laws.FnExactIsGenuine', WHERE WHAT IT READS IS OF BULK AT MOST 1048576: true; the input reads as it did. -/
def fnExactIsGenuineUptoRow : OpenClaim := { program := "ytlnjbkgplogmiaa", sum := "5c77294a7dc9a322499cee9fb8a026cdfc0760fe69dc8a9c96521c6bb69517b5", func := "loop.example/g03001/laws.FnExactIsGenuine", spec := "fnExactIsGenuine", apart := false, narrowed := true }
def FnExactIsGenuineUptoSaid : Prop := fnExactIsGenuineUptoRow.holds Try.pinned (OpenSpec.upto fnExactIsGenuineSpec)

/-- 'laws.FnExactEqualSent', WHERE WHAT IT READS IS OF BULK AT MOST 1048576: true; the input reads as it did. -/
def fnExactEqualSentUptoRow : OpenClaim := { program := "ytlnjbkgplogmiaa", sum := "5c77294a7dc9a322499cee9fb8a026cdfc0760fe69dc8a9c96521c6bb69517b5", func := "loop.example/g03001/laws.FnExactEqualSent", spec := "fnExactEqualSent", apart := false, narrowed := true }
def FnExactEqualSentUptoSaid : Prop := fnExactEqualSentUptoRow.holds Try.pinned (OpenSpec.upto fnExactEqualSentSpec)

/-- 'laws.FnExactChain', WHERE WHAT IT READS IS OF BULK AT MOST 1048576: true; the input reads as it did. -/
def fnExactChainUptoRow : OpenClaim := { program := "ytlnjbkgplogmiaa", sum := "5c77294a7dc9a322499cee9fb8a026cdfc0760fe69dc8a9c96521c6bb69517b5", func := "loop.example/g03001/laws.FnExactChain", spec := "fnExactChain", apart := false, narrowed := true }
def FnExactChainUptoSaid : Prop := fnExactChainUptoRow.holds Try.pinned (OpenSpec.upto fnExactChainSpec)

/-- 'laws.FnExactChangeValue', WHERE WHAT IT READS IS OF BULK AT MOST 1048576: true; the input reads as it did. -/
def fnExactChangeValueUptoRow : OpenClaim := { program := "ytlnjbkgplogmiaa", sum := "5c77294a7dc9a322499cee9fb8a026cdfc0760fe69dc8a9c96521c6bb69517b5", func := "loop.example/g03001/laws.FnExactChangeValue", spec := "fnExactChangeValue", apart := false, narrowed := true }
def FnExactChangeValueUptoSaid : Prop := fnExactChangeValueUptoRow.holds Try.pinned (OpenSpec.upto fnExactChangeValueSpec)

end Rows
end Go.Proofs.Ytlnjbkgplogmiaa
