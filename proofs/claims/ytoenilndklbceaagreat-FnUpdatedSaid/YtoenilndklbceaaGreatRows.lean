/-
  No cell of these rows narrows 'for every input' (looked for: loops, veiled, ifaces, maps, wideKeys, modest, calm, conditions, laid).
  DERIVED. THE GIVEN ROWS OF THIS SEAT. 6 by the template 'for every input the law returns true; each argument reads behind the call as it read before'; 0 by the template 'total and deterministic' (their statements: YtoenilndklbceaaGreatTotals.lean).
  GIVEN WITH THE SEED: the statements are not yours to turn. If you find one false, say at which input.
  Laid BY PROGRAM, IN A SANDBOX (cutbox-rows.mjs): the forced cells as the released guide's own fill.sh prints them over the translation 2458aa00a47bef29… (all of the seat's roots in one cut). By AI agents, Wed Nov 11 2026. No macro, syntax, notation, axiom, sorry.
-/
import Derived.Test.YtoenilndklbceaaGreatChecked
import GoSem.Claim
import GoSem.ClaimJoined
import GoSem.ClaimMapViews
import Derived.JoinedTies
import Derived.KernelRfl
namespace Go.Proofs.YtoenilndklbceaaGreat
/- THE CELL 'sum', in the pinned program and in every row, IS THE sha256 OF THE DUMP (.gsa) THAT YtoenilndklbceaaGreatProg.lean LOADS. Nothing in Lean hashes anything: it is a label: what it is worth is what the hold of that sum in a sandbox is worth. -/
noncomputable def Tryz.pinned : Pinned := { name := "ytoenilndklbceaagreat", sum := "2458aa00a47bef29e2a292c83b1aab70eb7018a0deeb276a30060e20024241f5", checked := Tryz.checked }
namespace Rows
def none {H : Type} : Left H := { results := [], args := [] }

/-- 'laws.FnExactCanRollBack': WHATEVER THE INPUT: true; the input reads as it did. -/
def fnExactCanRollBackSpec : ChangeSpec := { name := "fnExactCanRollBack", fn := fun _ => fun
  | [d1, d2, d3] => { results := [.lit (.bool true)], args := [d1, d2, d3] }
  | _ => none }
def fnExactCanRollBackRow : OpenClaim := { program := "ytoenilndklbceaagreat", sum := "2458aa00a47bef29e2a292c83b1aab70eb7018a0deeb276a30060e20024241f5", func := "loop.example/g03001/laws.FnExactCanRollBack", spec := "fnExactCanRollBack", recurses := true, apart := false }
def FnExactCanRollBackSaid : Prop := fnExactCanRollBackRow.holds Tryz.pinned (OpenSpec.ofChange fnExactCanRollBackSpec)

/-- ITS FALSE NEIGHBOUR: 'it returns false'. Refute it at one input. -/
def fnExactCanRollBackWrong : ChangeSpec := { name := "fnExactCanRollBack", fn := fun _ => fun
  | [d1, d2, d3] => { results := [.lit (.bool false)], args := [d1, d2, d3] }
  | _ => none }
def FnExactCanRollBackWrongFalsely : Prop := fnExactCanRollBackRow.holds Tryz.pinned (OpenSpec.ofChange fnExactCanRollBackWrong)

/-- 'laws.FnExactUpdatePackage': WHATEVER THE INPUT: true; the input reads as it did. -/
def fnExactUpdatePackageSpec : ChangeSpec := { name := "fnExactUpdatePackage", fn := fun _ => fun
  | [d1, d2, d3, d4] => { results := [.lit (.bool true)], args := [d1, d2, d3, d4] }
  | _ => none }
def fnExactUpdatePackageRow : OpenClaim := { program := "ytoenilndklbceaagreat", sum := "2458aa00a47bef29e2a292c83b1aab70eb7018a0deeb276a30060e20024241f5", func := "loop.example/g03001/laws.FnExactUpdatePackage", spec := "fnExactUpdatePackage", recurses := true, apart := false }
def FnExactUpdatePackageSaid : Prop := fnExactUpdatePackageRow.holds Tryz.pinned (OpenSpec.ofChange fnExactUpdatePackageSpec)

/-- ITS FALSE NEIGHBOUR: 'it returns false'. Refute it at one input. -/
def fnExactUpdatePackageWrong : ChangeSpec := { name := "fnExactUpdatePackage", fn := fun _ => fun
  | [d1, d2, d3, d4] => { results := [.lit (.bool false)], args := [d1, d2, d3, d4] }
  | _ => none }
def FnExactUpdatePackageWrongFalsely : Prop := fnExactUpdatePackageRow.holds Tryz.pinned (OpenSpec.ofChange fnExactUpdatePackageWrong)

/-- 'laws.FnUpdated': WHATEVER THE INPUT: true; the input reads as it did. -/
def fnUpdatedSpec : ChangeSpec := { name := "fnUpdated", fn := fun _ => fun
  | [d] => { results := [.lit (.bool true)], args := [d] }
  | _ => none }
def fnUpdatedRow : OpenClaim := { program := "ytoenilndklbceaagreat", sum := "2458aa00a47bef29e2a292c83b1aab70eb7018a0deeb276a30060e20024241f5", func := "loop.example/g03001/laws.FnUpdated", spec := "fnUpdated", recurses := true, apart := false }
def FnUpdatedSaid : Prop := fnUpdatedRow.holds Tryz.pinned (OpenSpec.ofChange fnUpdatedSpec)

/-- ITS FALSE NEIGHBOUR: 'it returns false'. Refute it at one input. -/
def fnUpdatedWrong : ChangeSpec := { name := "fnUpdated", fn := fun _ => fun
  | [d] => { results := [.lit (.bool false)], args := [d] }
  | _ => none }
def FnUpdatedWrongFalsely : Prop := fnUpdatedRow.holds Tryz.pinned (OpenSpec.ofChange fnUpdatedWrong)

/-- 'laws.FnReviewed': WHATEVER THE INPUT: true; the input reads as it did. -/
def fnReviewedSpec : ChangeSpec := { name := "fnReviewed", fn := fun _ => fun
  | [d] => { results := [.lit (.bool true)], args := [d] }
  | _ => none }
def fnReviewedRow : OpenClaim := { program := "ytoenilndklbceaagreat", sum := "2458aa00a47bef29e2a292c83b1aab70eb7018a0deeb276a30060e20024241f5", func := "loop.example/g03001/laws.FnReviewed", spec := "fnReviewed", recurses := true, apart := false }
def FnReviewedSaid : Prop := fnReviewedRow.holds Tryz.pinned (OpenSpec.ofChange fnReviewedSpec)

/-- ITS FALSE NEIGHBOUR: 'it returns false'. Refute it at one input. -/
def fnReviewedWrong : ChangeSpec := { name := "fnReviewed", fn := fun _ => fun
  | [d] => { results := [.lit (.bool false)], args := [d] }
  | _ => none }
def FnReviewedWrongFalsely : Prop := fnReviewedRow.holds Tryz.pinned (OpenSpec.ofChange fnReviewedWrong)

/-- 'laws.FnExactReviewPackage': WHATEVER THE INPUT: true; the input reads as it did. -/
def fnExactReviewPackageSpec : ChangeSpec := { name := "fnExactReviewPackage", fn := fun _ => fun
  | [d1, d2] => { results := [.lit (.bool true)], args := [d1, d2] }
  | _ => none }
def fnExactReviewPackageRow : OpenClaim := { program := "ytoenilndklbceaagreat", sum := "2458aa00a47bef29e2a292c83b1aab70eb7018a0deeb276a30060e20024241f5", func := "loop.example/g03001/laws.FnExactReviewPackage", spec := "fnExactReviewPackage", recurses := true, apart := false }
def FnExactReviewPackageSaid : Prop := fnExactReviewPackageRow.holds Tryz.pinned (OpenSpec.ofChange fnExactReviewPackageSpec)

/-- ITS FALSE NEIGHBOUR: 'it returns false'. Refute it at one input. -/
def fnExactReviewPackageWrong : ChangeSpec := { name := "fnExactReviewPackage", fn := fun _ => fun
  | [d1, d2] => { results := [.lit (.bool false)], args := [d1, d2] }
  | _ => none }
def FnExactReviewPackageWrongFalsely : Prop := fnExactReviewPackageRow.holds Tryz.pinned (OpenSpec.ofChange fnExactReviewPackageWrong)

/-- 'laws.FnExactUpdateCode': WHATEVER THE INPUT: true; the input reads as it did. -/
def fnExactUpdateCodeSpec : ChangeSpec := { name := "fnExactUpdateCode", fn := fun _ => fun
  | [d1, d2, d3, d4] => { results := [.lit (.bool true)], args := [d1, d2, d3, d4] }
  | _ => none }
def fnExactUpdateCodeRow : OpenClaim := { program := "ytoenilndklbceaagreat", sum := "2458aa00a47bef29e2a292c83b1aab70eb7018a0deeb276a30060e20024241f5", func := "loop.example/g03001/laws.FnExactUpdateCode", spec := "fnExactUpdateCode", recurses := true, apart := false }
def FnExactUpdateCodeSaid : Prop := fnExactUpdateCodeRow.holds Tryz.pinned (OpenSpec.ofChange fnExactUpdateCodeSpec)

/-- ITS FALSE NEIGHBOUR: 'it returns false'. Refute it at one input. -/
def fnExactUpdateCodeWrong : ChangeSpec := { name := "fnExactUpdateCode", fn := fun _ => fun
  | [d1, d2, d3, d4] => { results := [.lit (.bool false)], args := [d1, d2, d3, d4] }
  | _ => none }
def FnExactUpdateCodeWrongFalsely : Prop := fnExactUpdateCodeRow.holds Tryz.pinned (OpenSpec.ofChange fnExactUpdateCodeWrong)

/- THE SECOND FORM. 'bulk': how many values and letters a reading holds, each counted each time it is reached (what is shared counts as often as it is met; a slice's spare places count too). A statement '..UptoSaid' is the law's where the arguments, and the package variables that the reading takes, are together of bulk at most 1048576: NARROWER than '..Said'. Prove '..Said' where nothing that the law and all that it calls make is longer than what came in: it says more and counts as full. Else prove '..UptoSaid'. A law counts once. -/
mutual
def uptoBulk {H : Type} : DataW H → Nat
  | .lit (.string bytes) => bytes.length + 1
  | .lit _ => 1
  | .nil => 1
  | .ptr d => uptoBulk d + 1
  | .slice elems spare => uptoBulkAll elems + uptoBulkAll spare + 1
  | .agg parts => uptoBulkAll parts + 1
  | .iface _ d => uptoBulk d + 1
  | .map entries => uptoBulkEntries entries + 1
  | .held _ => 1
def uptoBulkAll {H : Type} : List (DataW H) → Nat
  | [] => 0
  | d :: r => uptoBulk d + uptoBulkAll r
def uptoBulkEntries {H : Type} : List (Lit × DataW H) → Nat
  | [] => 0
  | x :: r => uptoBulkEntry x + uptoBulkEntries r
def uptoBulkEntry {H : Type} : Lit × DataW H → Nat
  | (.string bytes, d) => bytes.length + uptoBulk d + 1
  | (_, d) => uptoBulk d + 1
 end
def uptoSmall : (H : Type) → List (DataW H) → Bool := fun _ ds => decide (uptoBulkAll ds ≤ 1048576)
def OpenSpec.upto (s : _root_.Go.ChangeSpec) : _root_.Go.OpenSpec := { _root_.Go.OpenSpec.ofChange s with cond := some uptoSmall }

/-- 'laws.FnExactCanRollBack', WHERE WHAT IT READS IS OF BULK AT MOST 1048576: true; the input reads as it did. -/
def fnExactCanRollBackUptoRow : OpenClaim := { program := "ytoenilndklbceaagreat", sum := "2458aa00a47bef29e2a292c83b1aab70eb7018a0deeb276a30060e20024241f5", func := "loop.example/g03001/laws.FnExactCanRollBack", spec := "fnExactCanRollBack", recurses := true, apart := false, narrowed := true }
def FnExactCanRollBackUptoSaid : Prop := fnExactCanRollBackUptoRow.holds Tryz.pinned (OpenSpec.upto fnExactCanRollBackSpec)

/-- 'laws.FnExactUpdatePackage', WHERE WHAT IT READS IS OF BULK AT MOST 1048576: true; the input reads as it did. -/
def fnExactUpdatePackageUptoRow : OpenClaim := { program := "ytoenilndklbceaagreat", sum := "2458aa00a47bef29e2a292c83b1aab70eb7018a0deeb276a30060e20024241f5", func := "loop.example/g03001/laws.FnExactUpdatePackage", spec := "fnExactUpdatePackage", recurses := true, apart := false, narrowed := true }
def FnExactUpdatePackageUptoSaid : Prop := fnExactUpdatePackageUptoRow.holds Tryz.pinned (OpenSpec.upto fnExactUpdatePackageSpec)

/-- 'laws.FnUpdated', WHERE WHAT IT READS IS OF BULK AT MOST 1048576: true; the input reads as it did. -/
def fnUpdatedUptoRow : OpenClaim := { program := "ytoenilndklbceaagreat", sum := "2458aa00a47bef29e2a292c83b1aab70eb7018a0deeb276a30060e20024241f5", func := "loop.example/g03001/laws.FnUpdated", spec := "fnUpdated", recurses := true, apart := false, narrowed := true }
def FnUpdatedUptoSaid : Prop := fnUpdatedUptoRow.holds Tryz.pinned (OpenSpec.upto fnUpdatedSpec)

/-- 'laws.FnReviewed', WHERE WHAT IT READS IS OF BULK AT MOST 1048576: true; the input reads as it did. -/
def fnReviewedUptoRow : OpenClaim := { program := "ytoenilndklbceaagreat", sum := "2458aa00a47bef29e2a292c83b1aab70eb7018a0deeb276a30060e20024241f5", func := "loop.example/g03001/laws.FnReviewed", spec := "fnReviewed", recurses := true, apart := false, narrowed := true }
def FnReviewedUptoSaid : Prop := fnReviewedUptoRow.holds Tryz.pinned (OpenSpec.upto fnReviewedSpec)

/-- 'laws.FnExactReviewPackage', WHERE WHAT IT READS IS OF BULK AT MOST 1048576: true; the input reads as it did. -/
def fnExactReviewPackageUptoRow : OpenClaim := { program := "ytoenilndklbceaagreat", sum := "2458aa00a47bef29e2a292c83b1aab70eb7018a0deeb276a30060e20024241f5", func := "loop.example/g03001/laws.FnExactReviewPackage", spec := "fnExactReviewPackage", recurses := true, apart := false, narrowed := true }
def FnExactReviewPackageUptoSaid : Prop := fnExactReviewPackageUptoRow.holds Tryz.pinned (OpenSpec.upto fnExactReviewPackageSpec)

/-- 'laws.FnExactUpdateCode', WHERE WHAT IT READS IS OF BULK AT MOST 1048576: true; the input reads as it did. -/
def fnExactUpdateCodeUptoRow : OpenClaim := { program := "ytoenilndklbceaagreat", sum := "2458aa00a47bef29e2a292c83b1aab70eb7018a0deeb276a30060e20024241f5", func := "loop.example/g03001/laws.FnExactUpdateCode", spec := "fnExactUpdateCode", recurses := true, apart := false, narrowed := true }
def FnExactUpdateCodeUptoSaid : Prop := fnExactUpdateCodeUptoRow.holds Tryz.pinned (OpenSpec.upto fnExactUpdateCodeSpec)

end Rows
end Go.Proofs.YtoenilndklbceaaGreat
