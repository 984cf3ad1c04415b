/-
  No cell of these rows narrows 'for every input' (looked for: loops, veiled, ifaces, maps, wideKeys, modest, calm, conditions, laid).
  DERIVED. THE GIVEN ROWS OF THIS SEAT. 4 by the template 'for every input the law returns true; each argument reads behind the call as it read before'; 0 by the template 'total and deterministic' (their statements: YtmjflahlhgibnaaTotals.lean).
  GIVEN WITH THE SEED: the statements are not yours to turn. If you find one false, say at which input.
  Laid BY PROGRAM, IN A SANDBOX (cutbox-rows.mjs): the forced cells as the released guide's own fill.sh prints them over the translation 6dcee1a5e6882b96… (all of the seat's roots in one cut). By AI agents, Wed Nov 11 2026. No macro, syntax, notation, axiom, sorry.
-/
import Derived.Test.YtmjflahlhgibnaaChecked
import GoSem.Claim
import GoSem.ClaimJoined
import GoSem.ClaimMapViews
import Derived.JoinedTies
import Derived.KernelRfl
namespace Go.Proofs.Ytmjflahlhgibnaa
/- THE CELL 'sum', in the pinned program and in every row, IS THE sha256 OF THE DUMP (.gsa) THAT YtmjflahlhgibnaaProg.lean LOADS. Nothing in Lean hashes anything: it is a label: what it is worth is what the hold of that sum in a sandbox is worth. -/
noncomputable def Try.pinned : Pinned := { name := "ytmjflahlhgibnaa", sum := "6dcee1a5e6882b9663aaaee1af505471289a87f50fccf18098de6a751496410f", checked := Try.checked }
namespace Rows
def none {H : Type} : Left H := { results := [], args := [] }

/-- 'laws.FnPrivate': WHATEVER THE INPUT: true; the input reads as it did. -/
def fnPrivateSpec : ChangeSpec := { name := "fnPrivate", fn := fun _ => fun
  | [d] => { results := [.lit (.bool true)], args := [d] }
  | _ => none }
def fnPrivateRow : OpenClaim := { program := "ytmjflahlhgibnaa", sum := "6dcee1a5e6882b9663aaaee1af505471289a87f50fccf18098de6a751496410f", func := "loop.example/g03001/laws.FnPrivate", spec := "fnPrivate", inPlace := ["slices.overlaps[loop.example/g03001/impl.Stored]"], apart := false }
def FnPrivateSaid : Prop := fnPrivateRow.holds Try.pinned (OpenSpec.ofChange fnPrivateSpec)

/-- ITS FALSE NEIGHBOUR: 'it returns false'. Refute it at one input. -/
def fnPrivateWrong : ChangeSpec := { name := "fnPrivate", fn := fun _ => fun
  | [d] => { results := [.lit (.bool false)], args := [d] }
  | _ => none }
def FnPrivateWrongFalsely : Prop := fnPrivateRow.holds Try.pinned (OpenSpec.ofChange fnPrivateWrong)

/-- 'laws.FnExactMergeStores': WHATEVER THE INPUT: true; the input reads as it did. -/
def fnExactMergeStoresSpec : ChangeSpec := { name := "fnExactMergeStores", fn := fun _ => fun
  | [d1, d2] => { results := [.lit (.bool true)], args := [d1, d2] }
  | _ => none }
def fnExactMergeStoresRow : OpenClaim := { program := "ytmjflahlhgibnaa", sum := "6dcee1a5e6882b9663aaaee1af505471289a87f50fccf18098de6a751496410f", func := "loop.example/g03001/laws.FnExactMergeStores", spec := "fnExactMergeStores", unfollowed := true, recurses := true, apart := false }
def FnExactMergeStoresSaid : Prop := fnExactMergeStoresRow.holds Try.pinned (OpenSpec.ofChange fnExactMergeStoresSpec)

/-- ITS FALSE NEIGHBOUR: 'it returns false'. Refute it at one input. -/
def fnExactMergeStoresWrong : ChangeSpec := { name := "fnExactMergeStores", fn := fun _ => fun
  | [d1, d2] => { results := [.lit (.bool false)], args := [d1, d2] }
  | _ => none }
def FnExactMergeStoresWrongFalsely : Prop := fnExactMergeStoresRow.holds Try.pinned (OpenSpec.ofChange fnExactMergeStoresWrong)

/-- 'laws.FnStores': WHATEVER THE INPUT: true; the input reads as it did. -/
def fnStoresSpec : ChangeSpec := { name := "fnStores", fn := fun _ => fun
  | [d] => { results := [.lit (.bool true)], args := [d] }
  | _ => none }
def fnStoresRow : OpenClaim := { program := "ytmjflahlhgibnaa", sum := "6dcee1a5e6882b9663aaaee1af505471289a87f50fccf18098de6a751496410f", func := "loop.example/g03001/laws.FnStores", spec := "fnStores", inPlace := ["slices.overlaps[loop.example/g03001/impl.Stored]"], unfollowed := true, recurses := true, apart := false }
def FnStoresSaid : Prop := fnStoresRow.holds Try.pinned (OpenSpec.ofChange fnStoresSpec)

/-- ITS FALSE NEIGHBOUR: 'it returns false'. Refute it at one input. -/
def fnStoresWrong : ChangeSpec := { name := "fnStores", fn := fun _ => fun
  | [d] => { results := [.lit (.bool false)], args := [d] }
  | _ => none }
def FnStoresWrongFalsely : Prop := fnStoresRow.holds Try.pinned (OpenSpec.ofChange fnStoresWrong)

/-- 'laws.FnExactRestoreStore': WHATEVER THE INPUT: true; the input reads as it did. -/
def fnExactRestoreStoreSpec : ChangeSpec := { name := "fnExactRestoreStore", fn := fun _ => fun
  | [d1, d2] => { results := [.lit (.bool true)], args := [d1, d2] }
  | _ => none }
def fnExactRestoreStoreRow : OpenClaim := { program := "ytmjflahlhgibnaa", sum := "6dcee1a5e6882b9663aaaee1af505471289a87f50fccf18098de6a751496410f", func := "loop.example/g03001/laws.FnExactRestoreStore", spec := "fnExactRestoreStore", unfollowed := true, recurses := true, apart := false }
def FnExactRestoreStoreSaid : Prop := fnExactRestoreStoreRow.holds Try.pinned (OpenSpec.ofChange fnExactRestoreStoreSpec)

/-- ITS FALSE NEIGHBOUR: 'it returns false'. Refute it at one input. -/
def fnExactRestoreStoreWrong : ChangeSpec := { name := "fnExactRestoreStore", fn := fun _ => fun
  | [d1, d2] => { results := [.lit (.bool false)], args := [d1, d2] }
  | _ => none }
def FnExactRestoreStoreWrongFalsely : Prop := fnExactRestoreStoreRow.holds Try.pinned (OpenSpec.ofChange fnExactRestoreStoreWrong)

/- THE SECOND FORM. 'bulk': how many values and letters a reading holds, each counted each time it is reached (what is shared counts as often as it is met; a slice's spare places count too). A statement '..UptoSaid' is the law's where the arguments, and the package variables that the reading takes, are together of bulk at most 1048576: NARROWER than '..Said'. Prove '..Said' where nothing that the law and all that it calls make is longer than what came in: it says more and counts as full. Else prove '..UptoSaid'. A law counts once. -/
mutual
def uptoBulk {H : Type} : DataW H → Nat
  | .lit (.string bytes) => bytes.length + 1
  | .lit _ => 1
  | .nil => 1
  | .ptr d => uptoBulk d + 1
  | .slice elems spare => uptoBulkAll elems + uptoBulkAll spare + 1
  | .agg parts => uptoBulkAll parts + 1
  | .iface _ d => uptoBulk d + 1
  | .map entries => uptoBulkEntries entries + 1
  | .held _ => 1
def uptoBulkAll {H : Type} : List (DataW H) → Nat
  | [] => 0
  | d :: r => uptoBulk d + uptoBulkAll r
def uptoBulkEntries {H : Type} : List (Lit × DataW H) → Nat
  | [] => 0
  | x :: r => uptoBulkEntry x + uptoBulkEntries r
def uptoBulkEntry {H : Type} : Lit × DataW H → Nat
  | (.string bytes, d) => bytes.length + uptoBulk d + 1
  | (_, d) => uptoBulk d + 1
 end
def uptoSmall : (H : Type) → List (DataW H) → Bool := fun _ ds => decide (uptoBulkAll ds ≤ 1048576)
def OpenSpec.upto (s : _root_.Go.ChangeSpec) : _root_.Go.OpenSpec := { _root_.Go.OpenSpec.ofChange s with cond := some uptoSmall }

/-- 'laws.FnPrivate', WHERE WHAT IT READS IS OF BULK AT MOST 1048576: true; the input reads as it did. -/
def fnPrivateUptoRow : OpenClaim := { program := "ytmjflahlhgibnaa", sum := "6dcee1a5e6882b9663aaaee1af505471289a87f50fccf18098de6a751496410f", func := "loop.example/g03001/laws.FnPrivate", spec := "fnPrivate", inPlace := ["slices.overlaps[loop.example/g03001/impl.Stored]"], apart := false, narrowed := true }
def FnPrivateUptoSaid : Prop := fnPrivateUptoRow.holds Try.pinned (OpenSpec.upto fnPrivateSpec)

/-- 'laws.FnExactMergeStores', WHERE WHAT IT READS IS OF BULK AT MOST 1048576: true; the input reads as it did. -/
def fnExactMergeStoresUptoRow : OpenClaim := { program := "ytmjflahlhgibnaa", sum := "6dcee1a5e6882b9663aaaee1af505471289a87f50fccf18098de6a751496410f", func := "loop.example/g03001/laws.FnExactMergeStores", spec := "fnExactMergeStores", unfollowed := true, recurses := true, apart := false, narrowed := true }
def FnExactMergeStoresUptoSaid : Prop := fnExactMergeStoresUptoRow.holds Try.pinned (OpenSpec.upto fnExactMergeStoresSpec)

/-- 'laws.FnStores', WHERE WHAT IT READS IS OF BULK AT MOST 1048576: true; the input reads as it did. -/
def fnStoresUptoRow : OpenClaim := { program := "ytmjflahlhgibnaa", sum := "6dcee1a5e6882b9663aaaee1af505471289a87f50fccf18098de6a751496410f", func := "loop.example/g03001/laws.FnStores", spec := "fnStores", inPlace := ["slices.overlaps[loop.example/g03001/impl.Stored]"], unfollowed := true, recurses := true, apart := false, narrowed := true }
def FnStoresUptoSaid : Prop := fnStoresUptoRow.holds Try.pinned (OpenSpec.upto fnStoresSpec)

/-- 'laws.FnExactRestoreStore', WHERE WHAT IT READS IS OF BULK AT MOST 1048576: true; the input reads as it did. -/
def fnExactRestoreStoreUptoRow : OpenClaim := { program := "ytmjflahlhgibnaa", sum := "6dcee1a5e6882b9663aaaee1af505471289a87f50fccf18098de6a751496410f", func := "loop.example/g03001/laws.FnExactRestoreStore", spec := "fnExactRestoreStore", unfollowed := true, recurses := true, apart := false, narrowed := true }
def FnExactRestoreStoreUptoSaid : Prop := fnExactRestoreStoreUptoRow.holds Try.pinned (OpenSpec.upto fnExactRestoreStoreSpec)

end Rows
end Go.Proofs.Ytmjflahlhgibnaa
