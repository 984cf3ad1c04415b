/-
  No cell of these rows narrows 'for every input' (looked for: loops, veiled, ifaces, maps, wideKeys, modest, calm, conditions, laid).
  DERIVED. THE GIVEN ROWS OF THIS SEAT. 12 by the template 'for every input the law returns true; each argument reads behind the call as it read before'; 0 by the template 'total and deterministic' (their statements: YtlkjdlimahhmjaaTotals.lean).
  GIVEN WITH THE SEED: the statements are not yours to turn. If you find one false, say at which input.
  Laid BY PROGRAM, IN A SANDBOX (cutbox-rows.mjs): the forced cells as the released guide's own fill.sh prints them over the translation ce238be58d6c779a… (all of the seat's roots in one cut). By AI agents, Wed Nov 11 2026. No macro, syntax, notation, axiom, sorry.
-/
import Derived.Test.YtlkjdlimahhmjaaChecked
import GoSem.Claim
import GoSem.ClaimJoined
import GoSem.ClaimMapViews
import Derived.JoinedTies
import Derived.KernelRfl
namespace Go.Proofs.Ytlkjdlimahhmjaa
/- THE CELL 'sum', in the pinned program and in every row, IS THE sha256 OF THE DUMP (.gsa) THAT YtlkjdlimahhmjaaProg.lean LOADS. Nothing in Lean hashes anything: it is a label: what it is worth is what the hold of that sum in a sandbox is worth. -/
noncomputable def Try.pinned : Pinned := { name := "ytlkjdlimahhmjaa", sum := "ce238be58d6c779aadd455864b10084fe9220fc65d801bd7724526993fa91ea8", checked := Try.checked }
namespace Rows
def none {H : Type} : Left H := { results := [], args := [] }

/-- 'laws.FnExactEqualStores': WHATEVER THE INPUT: true; the input reads as it did. -/
def fnExactEqualStoresSpec : ChangeSpec := { name := "fnExactEqualStores", fn := fun _ => fun
  | [d1, d2] => { results := [.lit (.bool true)], args := [d1, d2] }
  | _ => none }
def fnExactEqualStoresRow : OpenClaim := { program := "ytlkjdlimahhmjaa", sum := "ce238be58d6c779aadd455864b10084fe9220fc65d801bd7724526993fa91ea8", func := "loop.example/g03001/laws.FnExactEqualStores", spec := "fnExactEqualStores", apart := false }
def FnExactEqualStoresSaid : Prop := fnExactEqualStoresRow.holds Try.pinned (OpenSpec.ofChange fnExactEqualStoresSpec)

/-- ITS FALSE NEIGHBOUR: 'it returns false'. Refute it at one input. -/
def fnExactEqualStoresWrong : ChangeSpec := { name := "fnExactEqualStores", fn := fun _ => fun
  | [d1, d2] => { results := [.lit (.bool false)], args := [d1, d2] }
  | _ => none }
def FnExactEqualStoresWrongFalsely : Prop := fnExactEqualStoresRow.holds Try.pinned (OpenSpec.ofChange fnExactEqualStoresWrong)

/-- 'laws.FnExactIsDeed': WHATEVER THE INPUT: true; the input reads as it did. -/
def fnExactIsDeedSpec : ChangeSpec := { name := "fnExactIsDeed", fn := fun _ => fun
  | [d1, d2, d3] => { results := [.lit (.bool true)], args := [d1, d2, d3] }
  | _ => none }
def fnExactIsDeedRow : OpenClaim := { program := "ytlkjdlimahhmjaa", sum := "ce238be58d6c779aadd455864b10084fe9220fc65d801bd7724526993fa91ea8", func := "loop.example/g03001/laws.FnExactIsDeed", spec := "fnExactIsDeed", apart := false }
def FnExactIsDeedSaid : Prop := fnExactIsDeedRow.holds Try.pinned (OpenSpec.ofChange fnExactIsDeedSpec)

/-- ITS FALSE NEIGHBOUR: 'it returns false'. Refute it at one input. -/
def fnExactIsDeedWrong : ChangeSpec := { name := "fnExactIsDeed", fn := fun _ => fun
  | [d1, d2, d3] => { results := [.lit (.bool false)], args := [d1, d2, d3] }
  | _ => none }
def FnExactIsDeedWrongFalsely : Prop := fnExactIsDeedRow.holds Try.pinned (OpenSpec.ofChange fnExactIsDeedWrong)

/-- 'laws.FnExactSealLetter': WHATEVER THE INPUT: true; the input reads as it did. -/
def fnExactSealLetterSpec : ChangeSpec := { name := "fnExactSealLetter", fn := fun _ => fun
  | [d1, d2] => { results := [.lit (.bool true)], args := [d1, d2] }
  | _ => none }
def fnExactSealLetterRow : OpenClaim := { program := "ytlkjdlimahhmjaa", sum := "ce238be58d6c779aadd455864b10084fe9220fc65d801bd7724526993fa91ea8", func := "loop.example/g03001/laws.FnExactSealLetter", spec := "fnExactSealLetter", apart := false }
def FnExactSealLetterSaid : Prop := fnExactSealLetterRow.holds Try.pinned (OpenSpec.ofChange fnExactSealLetterSpec)

/-- ITS FALSE NEIGHBOUR: 'it returns false'. Refute it at one input. -/
def fnExactSealLetterWrong : ChangeSpec := { name := "fnExactSealLetter", fn := fun _ => fun
  | [d1, d2] => { results := [.lit (.bool false)], args := [d1, d2] }
  | _ => none }
def FnExactSealLetterWrongFalsely : Prop := fnExactSealLetterRow.holds Try.pinned (OpenSpec.ofChange fnExactSealLetterWrong)

/-- 'laws.FnExactGetStored': WHATEVER THE INPUT: true; the input reads as it did. -/
def fnExactGetStoredSpec : ChangeSpec := { name := "fnExactGetStored", fn := fun _ => fun
  | [d1, d2, d3] => { results := [.lit (.bool true)], args := [d1, d2, d3] }
  | _ => none }
def fnExactGetStoredRow : OpenClaim := { program := "ytlkjdlimahhmjaa", sum := "ce238be58d6c779aadd455864b10084fe9220fc65d801bd7724526993fa91ea8", func := "loop.example/g03001/laws.FnExactGetStored", spec := "fnExactGetStored", apart := false }
def FnExactGetStoredSaid : Prop := fnExactGetStoredRow.holds Try.pinned (OpenSpec.ofChange fnExactGetStoredSpec)

/-- ITS FALSE NEIGHBOUR: 'it returns false'. Refute it at one input. -/
def fnExactGetStoredWrong : ChangeSpec := { name := "fnExactGetStored", fn := fun _ => fun
  | [d1, d2, d3] => { results := [.lit (.bool false)], args := [d1, d2, d3] }
  | _ => none }
def FnExactGetStoredWrongFalsely : Prop := fnExactGetStoredRow.holds Try.pinned (OpenSpec.ofChange fnExactGetStoredWrong)

/-- 'laws.FnExactSealDeed': WHATEVER THE INPUT: true; the input reads as it did. -/
def fnExactSealDeedSpec : ChangeSpec := { name := "fnExactSealDeed", fn := fun _ => fun
  | [d1, d2, d3] => { results := [.lit (.bool true)], args := [d1, d2, d3] }
  | _ => none }
def fnExactSealDeedRow : OpenClaim := { program := "ytlkjdlimahhmjaa", sum := "ce238be58d6c779aadd455864b10084fe9220fc65d801bd7724526993fa91ea8", func := "loop.example/g03001/laws.FnExactSealDeed", spec := "fnExactSealDeed", apart := false }
def FnExactSealDeedSaid : Prop := fnExactSealDeedRow.holds Try.pinned (OpenSpec.ofChange fnExactSealDeedSpec)

/-- ITS FALSE NEIGHBOUR: 'it returns false'. Refute it at one input. -/
def fnExactSealDeedWrong : ChangeSpec := { name := "fnExactSealDeed", fn := fun _ => fun
  | [d1, d2, d3] => { results := [.lit (.bool false)], args := [d1, d2, d3] }
  | _ => none }
def FnExactSealDeedWrongFalsely : Prop := fnExactSealDeedRow.holds Try.pinned (OpenSpec.ofChange fnExactSealDeedWrong)

/-- 'laws.FnExactFlowsWithin': WHATEVER THE INPUT: true; the input reads as it did. -/
def fnExactFlowsWithinSpec : ChangeSpec := { name := "fnExactFlowsWithin", fn := fun _ => fun
  | [d1, d2] => { results := [.lit (.bool true)], args := [d1, d2] }
  | _ => none }
def fnExactFlowsWithinRow : OpenClaim := { program := "ytlkjdlimahhmjaa", sum := "ce238be58d6c779aadd455864b10084fe9220fc65d801bd7724526993fa91ea8", func := "loop.example/g03001/laws.FnExactFlowsWithin", spec := "fnExactFlowsWithin", apart := false }
def FnExactFlowsWithinSaid : Prop := fnExactFlowsWithinRow.holds Try.pinned (OpenSpec.ofChange fnExactFlowsWithinSpec)

/-- ITS FALSE NEIGHBOUR: 'it returns false'. Refute it at one input. -/
def fnExactFlowsWithinWrong : ChangeSpec := { name := "fnExactFlowsWithin", fn := fun _ => fun
  | [d1, d2] => { results := [.lit (.bool false)], args := [d1, d2] }
  | _ => none }
def FnExactFlowsWithinWrongFalsely : Prop := fnExactFlowsWithinRow.holds Try.pinned (OpenSpec.ofChange fnExactFlowsWithinWrong)

/-- 'laws.FnExactFlowsOf': WHATEVER THE INPUT: true; the input reads as it did. -/
def fnExactFlowsOfSpec : ChangeSpec := { name := "fnExactFlowsOf", fn := fun _ => fun
  | [d1, d2] => { results := [.lit (.bool true)], args := [d1, d2] }
  | _ => none }
def fnExactFlowsOfRow : OpenClaim := { program := "ytlkjdlimahhmjaa", sum := "ce238be58d6c779aadd455864b10084fe9220fc65d801bd7724526993fa91ea8", func := "loop.example/g03001/laws.FnExactFlowsOf", spec := "fnExactFlowsOf", apart := false }
def FnExactFlowsOfSaid : Prop := fnExactFlowsOfRow.holds Try.pinned (OpenSpec.ofChange fnExactFlowsOfSpec)

/-- ITS FALSE NEIGHBOUR: 'it returns false'. Refute it at one input. -/
def fnExactFlowsOfWrong : ChangeSpec := { name := "fnExactFlowsOf", fn := fun _ => fun
  | [d1, d2] => { results := [.lit (.bool false)], args := [d1, d2] }
  | _ => none }
def FnExactFlowsOfWrongFalsely : Prop := fnExactFlowsOfRow.holds Try.pinned (OpenSpec.ofChange fnExactFlowsOfWrong)

/-- 'laws.FnExactAreOps': WHATEVER THE INPUT: true; the input reads as it did. -/
def fnExactAreOpsSpec : ChangeSpec := { name := "fnExactAreOps", fn := fun _ => fun
  | [d] => { results := [.lit (.bool true)], args := [d] }
  | _ => none }
def fnExactAreOpsRow : OpenClaim := { program := "ytlkjdlimahhmjaa", sum := "ce238be58d6c779aadd455864b10084fe9220fc65d801bd7724526993fa91ea8", func := "loop.example/g03001/laws.FnExactAreOps", spec := "fnExactAreOps", apart := false }
def FnExactAreOpsSaid : Prop := fnExactAreOpsRow.holds Try.pinned (OpenSpec.ofChange fnExactAreOpsSpec)

/-- ITS FALSE NEIGHBOUR: 'it returns false'. Refute it at one input. -/
def fnExactAreOpsWrong : ChangeSpec := { name := "fnExactAreOps", fn := fun _ => fun
  | [d] => { results := [.lit (.bool false)], args := [d] }
  | _ => none }
def FnExactAreOpsWrongFalsely : Prop := fnExactAreOpsRow.holds Try.pinned (OpenSpec.ofChange fnExactAreOpsWrong)

/-- 'laws.FnExactHasGrantFor': WHATEVER THE INPUT: true; the input reads as it did. -/
def fnExactHasGrantForSpec : ChangeSpec := { name := "fnExactHasGrantFor", fn := fun _ => fun
  | [d1, d2, d3] => { results := [.lit (.bool true)], args := [d1, d2, d3] }
  | _ => none }
def fnExactHasGrantForRow : OpenClaim := { program := "ytlkjdlimahhmjaa", sum := "ce238be58d6c779aadd455864b10084fe9220fc65d801bd7724526993fa91ea8", func := "loop.example/g03001/laws.FnExactHasGrantFor", spec := "fnExactHasGrantFor", apart := false }
def FnExactHasGrantForSaid : Prop := fnExactHasGrantForRow.holds Try.pinned (OpenSpec.ofChange fnExactHasGrantForSpec)

/-- ITS FALSE NEIGHBOUR: 'it returns false'. Refute it at one input. -/
def fnExactHasGrantForWrong : ChangeSpec := { name := "fnExactHasGrantFor", fn := fun _ => fun
  | [d1, d2, d3] => { results := [.lit (.bool false)], args := [d1, d2, d3] }
  | _ => none }
def FnExactHasGrantForWrongFalsely : Prop := fnExactHasGrantForRow.holds Try.pinned (OpenSpec.ofChange fnExactHasGrantForWrong)

/-- 'laws.FnExactDropStored': WHATEVER THE INPUT: true; the input reads as it did. -/
def fnExactDropStoredSpec : ChangeSpec := { name := "fnExactDropStored", fn := fun _ => fun
  | [d1, d2] => { results := [.lit (.bool true)], args := [d1, d2] }
  | _ => none }
def fnExactDropStoredRow : OpenClaim := { program := "ytlkjdlimahhmjaa", sum := "ce238be58d6c779aadd455864b10084fe9220fc65d801bd7724526993fa91ea8", func := "loop.example/g03001/laws.FnExactDropStored", spec := "fnExactDropStored", apart := false }
def FnExactDropStoredSaid : Prop := fnExactDropStoredRow.holds Try.pinned (OpenSpec.ofChange fnExactDropStoredSpec)

/-- ITS FALSE NEIGHBOUR: 'it returns false'. Refute it at one input. -/
def fnExactDropStoredWrong : ChangeSpec := { name := "fnExactDropStored", fn := fun _ => fun
  | [d1, d2] => { results := [.lit (.bool false)], args := [d1, d2] }
  | _ => none }
def FnExactDropStoredWrongFalsely : Prop := fnExactDropStoredRow.holds Try.pinned (OpenSpec.ofChange fnExactDropStoredWrong)

/-- 'laws.FnExactLettersFor': WHATEVER THE INPUT: true; the input reads as it did. -/
def fnExactLettersForSpec : ChangeSpec := { name := "fnExactLettersFor", fn := fun _ => fun
  | [d1, d2] => { results := [.lit (.bool true)], args := [d1, d2] }
  | _ => none }
def fnExactLettersForRow : OpenClaim := { program := "ytlkjdlimahhmjaa", sum := "ce238be58d6c779aadd455864b10084fe9220fc65d801bd7724526993fa91ea8", func := "loop.example/g03001/laws.FnExactLettersFor", spec := "fnExactLettersFor", apart := false }
def FnExactLettersForSaid : Prop := fnExactLettersForRow.holds Try.pinned (OpenSpec.ofChange fnExactLettersForSpec)

/-- ITS FALSE NEIGHBOUR: 'it returns false'. Refute it at one input. -/
def fnExactLettersForWrong : ChangeSpec := { name := "fnExactLettersFor", fn := fun _ => fun
  | [d1, d2] => { results := [.lit (.bool false)], args := [d1, d2] }
  | _ => none }
def FnExactLettersForWrongFalsely : Prop := fnExactLettersForRow.holds Try.pinned (OpenSpec.ofChange fnExactLettersForWrong)

/-- 'laws.FnExactIsStore': WHATEVER THE INPUT: true; the input reads as it did. -/
def fnExactIsStoreSpec : ChangeSpec := { name := "fnExactIsStore", fn := fun _ => fun
  | [d] => { results := [.lit (.bool true)], args := [d] }
  | _ => none }
def fnExactIsStoreRow : OpenClaim := { program := "ytlkjdlimahhmjaa", sum := "ce238be58d6c779aadd455864b10084fe9220fc65d801bd7724526993fa91ea8", func := "loop.example/g03001/laws.FnExactIsStore", spec := "fnExactIsStore", apart := false }
def FnExactIsStoreSaid : Prop := fnExactIsStoreRow.holds Try.pinned (OpenSpec.ofChange fnExactIsStoreSpec)

/-- ITS FALSE NEIGHBOUR: 'it returns false'. Refute it at one input. -/
def fnExactIsStoreWrong : ChangeSpec := { name := "fnExactIsStore", fn := fun _ => fun
  | [d] => { results := [.lit (.bool false)], args := [d] }
  | _ => none }
def FnExactIsStoreWrongFalsely : Prop := fnExactIsStoreRow.holds Try.pinned (OpenSpec.ofChange fnExactIsStoreWrong)

/- THE SECOND FORM. 'bulk': how many values and letters a reading holds, each counted each time it is reached (what is shared counts as often as it is met; a slice's spare places count too). A statement '..UptoSaid' is the law's where the arguments, and the package variables that the reading takes, are together of bulk at most 1048576: NARROWER than '..Said'. Prove '..Said' where nothing that the law and all that it calls make is longer than what came in: it says more and counts as full. Else prove '..UptoSaid'. A law counts once. -/
mutual
def uptoBulk {H : Type} : DataW H → Nat
  | .lit (.string bytes) => bytes.length + 1
  | .lit _ => 1
  | .nil => 1
  | .ptr d => uptoBulk d + 1
  | .slice elems spare => uptoBulkAll elems + uptoBulkAll spare + 1
  | .agg parts => uptoBulkAll parts + 1
  | .iface _ d => uptoBulk d + 1
  | .map entries => uptoBulkEntries entries + 1
  | .held _ => 1
def uptoBulkAll {H : Type} : List (DataW H) → Nat
  | [] => 0
  | d :: r => uptoBulk d + uptoBulkAll r
def uptoBulkEntries {H : Type} : List (Lit × DataW H) → Nat
  | [] => 0
  | x :: r => uptoBulkEntry x + uptoBulkEntries r
def uptoBulkEntry {H : Type} : Lit × DataW H → Nat
  | (.string bytes, d) => bytes.length + uptoBulk d + 1
  | (_, d) => uptoBulk d + 1
 end
def uptoSmall : (H : Type) → List (DataW H) → Bool := fun _ ds => decide (uptoBulkAll ds ≤ 1048576)
def OpenSpec.upto (s : _root_.Go.ChangeSpec) : _root_.Go.OpenSpec := { _root_.Go.OpenSpec.ofChange s with cond := some uptoSmall }

/-- 'laws.FnExactEqualStores', WHERE WHAT IT READS IS OF BULK AT MOST 1048576: true; the input reads as it did. -/
def fnExactEqualStoresUptoRow : OpenClaim := { program := "ytlkjdlimahhmjaa", sum := "ce238be58d6c779aadd455864b10084fe9220fc65d801bd7724526993fa91ea8", func := "loop.example/g03001/laws.FnExactEqualStores", spec := "fnExactEqualStores", apart := false, narrowed := true }
def FnExactEqualStoresUptoSaid : Prop := fnExactEqualStoresUptoRow.holds Try.pinned (OpenSpec.upto fnExactEqualStoresSpec)

/-- 'laws.FnExactIsDeed', WHERE WHAT IT READS IS OF BULK AT MOST 1048576: true; the input reads as it did. -/
def fnExactIsDeedUptoRow : OpenClaim := { program := "ytlkjdlimahhmjaa", sum := "ce238be58d6c779aadd455864b10084fe9220fc65d801bd7724526993fa91ea8", func := "loop.example/g03001/laws.FnExactIsDeed", spec := "fnExactIsDeed", apart := false, narrowed := true }
def FnExactIsDeedUptoSaid : Prop := fnExactIsDeedUptoRow.holds Try.pinned (OpenSpec.upto fnExactIsDeedSpec)

/-- 'laws.FnExactSealLetter', WHERE WHAT IT READS IS OF BULK AT MOST 1048576: true; the input reads as it did. -/
def fnExactSealLetterUptoRow : OpenClaim := { program := "ytlkjdlimahhmjaa", sum := "ce238be58d6c779aadd455864b10084fe9220fc65d801bd7724526993fa91ea8", func := "loop.example/g03001/laws.FnExactSealLetter", spec := "fnExactSealLetter", apart := false, narrowed := true }
def FnExactSealLetterUptoSaid : Prop := fnExactSealLetterUptoRow.holds Try.pinned (OpenSpec.upto fnExactSealLetterSpec)

/-- 'laws.FnExactGetStored', WHERE WHAT IT READS IS OF BULK AT MOST 1048576: true; the input reads as it did. -/
def fnExactGetStoredUptoRow : OpenClaim := { program := "ytlkjdlimahhmjaa", sum := "ce238be58d6c779aadd455864b10084fe9220fc65d801bd7724526993fa91ea8", func := "loop.example/g03001/laws.FnExactGetStored", spec := "fnExactGetStored", apart := false, narrowed := true }
def FnExactGetStoredUptoSaid : Prop := fnExactGetStoredUptoRow.holds Try.pinned (OpenSpec.upto fnExactGetStoredSpec)

/-- 'laws.FnExactSealDeed', WHERE WHAT IT READS IS OF BULK AT MOST 1048576: true; the input reads as it did. -/
def fnExactSealDeedUptoRow : OpenClaim := { program := "ytlkjdlimahhmjaa", sum := "ce238be58d6c779aadd455864b10084fe9220fc65d801bd7724526993fa91ea8", func := "loop.example/g03001/laws.FnExactSealDeed", spec := "fnExactSealDeed", apart := false, narrowed := true }
def FnExactSealDeedUptoSaid : Prop := fnExactSealDeedUptoRow.holds Try.pinned (OpenSpec.upto fnExactSealDeedSpec)

/-- 'laws.FnExactFlowsWithin', WHERE WHAT IT READS IS OF BULK AT MOST 1048576: true; the input reads as it did. -/
def fnExactFlowsWithinUptoRow : OpenClaim := { program := "ytlkjdlimahhmjaa", sum := "ce238be58d6c779aadd455864b10084fe9220fc65d801bd7724526993fa91ea8", func := "loop.example/g03001/laws.FnExactFlowsWithin", spec := "fnExactFlowsWithin", apart := false, narrowed := true }
def FnExactFlowsWithinUptoSaid : Prop := fnExactFlowsWithinUptoRow.holds Try.pinned (OpenSpec.upto fnExactFlowsWithinSpec)

/-- 'laws.FnExactFlowsOf', WHERE WHAT IT READS IS OF BULK AT MOST 1048576: true; the input reads as it did. -/
def fnExactFlowsOfUptoRow : OpenClaim := { program := "ytlkjdlimahhmjaa", sum := "ce238be58d6c779aadd455864b10084fe9220fc65d801bd7724526993fa91ea8", func := "loop.example/g03001/laws.FnExactFlowsOf", spec := "fnExactFlowsOf", apart := false, narrowed := true }
def FnExactFlowsOfUptoSaid : Prop := fnExactFlowsOfUptoRow.holds Try.pinned (OpenSpec.upto fnExactFlowsOfSpec)

/-- 'laws.FnExactAreOps', WHERE WHAT IT READS IS OF BULK AT MOST 1048576: true; the input reads as it did. -/
def fnExactAreOpsUptoRow : OpenClaim := { program := "ytlkjdlimahhmjaa", sum := "ce238be58d6c779aadd455864b10084fe9220fc65d801bd7724526993fa91ea8", func := "loop.example/g03001/laws.FnExactAreOps", spec := "fnExactAreOps", apart := false, narrowed := true }
def FnExactAreOpsUptoSaid : Prop := fnExactAreOpsUptoRow.holds Try.pinned (OpenSpec.upto fnExactAreOpsSpec)

/-- 'laws.FnExactHasGrantFor', WHERE WHAT IT READS IS OF BULK AT MOST 1048576: true; the input reads as it did. -/
def fnExactHasGrantForUptoRow : OpenClaim := { program := "ytlkjdlimahhmjaa", sum := "ce238be58d6c779aadd455864b10084fe9220fc65d801bd7724526993fa91ea8", func := "loop.example/g03001/laws.FnExactHasGrantFor", spec := "fnExactHasGrantFor", apart := false, narrowed := true }
def FnExactHasGrantForUptoSaid : Prop := fnExactHasGrantForUptoRow.holds Try.pinned (OpenSpec.upto fnExactHasGrantForSpec)

/-- 'laws.FnExactDropStored', WHERE WHAT IT READS IS OF BULK AT MOST 1048576: true; the input reads as it did. -/
def fnExactDropStoredUptoRow : OpenClaim := { program := "ytlkjdlimahhmjaa", sum := "ce238be58d6c779aadd455864b10084fe9220fc65d801bd7724526993fa91ea8", func := "loop.example/g03001/laws.FnExactDropStored", spec := "fnExactDropStored", apart := false, narrowed := true }
def FnExactDropStoredUptoSaid : Prop := fnExactDropStoredUptoRow.holds Try.pinned (OpenSpec.upto fnExactDropStoredSpec)

/-- 'laws.FnExactLettersFor', WHERE WHAT IT READS IS OF BULK AT MOST 1048576: true; the input reads as it did. -/
def fnExactLettersForUptoRow : OpenClaim := { program := "ytlkjdlimahhmjaa", sum := "ce238be58d6c779aadd455864b10084fe9220fc65d801bd7724526993fa91ea8", func := "loop.example/g03001/laws.FnExactLettersFor", spec := "fnExactLettersFor", apart := false, narrowed := true }
def FnExactLettersForUptoSaid : Prop := fnExactLettersForUptoRow.holds Try.pinned (OpenSpec.upto fnExactLettersForSpec)

/-- 'laws.FnExactIsStore', WHERE WHAT IT READS IS OF BULK AT MOST 1048576: true; the input reads as it did. -/
def fnExactIsStoreUptoRow : OpenClaim := { program := "ytlkjdlimahhmjaa", sum := "ce238be58d6c779aadd455864b10084fe9220fc65d801bd7724526993fa91ea8", func := "loop.example/g03001/laws.FnExactIsStore", spec := "fnExactIsStore", apart := false, narrowed := true }
def FnExactIsStoreUptoSaid : Prop := fnExactIsStoreUptoRow.holds Try.pinned (OpenSpec.upto fnExactIsStoreSpec)

end Rows
end Go.Proofs.Ytlkjdlimahhmjaa
