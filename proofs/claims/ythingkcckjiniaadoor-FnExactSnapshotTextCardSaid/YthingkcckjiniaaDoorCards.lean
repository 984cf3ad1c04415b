/-
  DERIVED. GIVEN WITH THE SEED: THE CARDS: each row of YthingkcckjiniaaDoorRows.lean that lists a variable, with what it lists TIED to the program's text (the seventh form; the later family's looks); each row that meets fmt, with fmt's text TOLD by the authors' own Lean function (tested against real Go, not proved from fmt's source: count such statements apart). THE CARD IS WHAT COUNTS. Prove the row's statement (the work); the ties are given (YthingkcckjiniaaDoorTie.lean); close each card by the builder's one call (the guide's Derived/Test/ToyasCard.lean, 'card_holds'). Laid BY PROGRAM, IN A SANDBOX (cutbox-door.mjs). By AI agents, Wed Nov 11 2026. No macro, syntax, notation, axiom, sorry.
-/
import Derived.Test.YthingkcckjiniaaDoorRows
import GoSem.ClaimSeven
namespace Go.Proofs.YthingkcckjiniaaDoor
namespace Rows

/-- THE TIED CARD OF 'laws.FnExactSnapshotText'. -/
def fnExactSnapshotTextCard : Claim7 := { stood := { row := fnExactSnapshotTextRow, standIns := [], harness := (true, "78521fc79e3b1edf9f81da742bb6402e97236344b81bddf64185bb16e492de7c"), looks := false }, kinds := [], alts := [], laidByText := true, laidKinds := [.data, .data, .data], laidTests := true, laidLooks := .later }
def FnExactSnapshotTextCardSaid : Prop := Claim7.holds Tryd.pinned (.plain (OpenSpec.ofChange fnExactSnapshotTextSpec)) fnExactSnapshotTextCard

/-- THE SECOND FORM's CARD OF 'laws.FnExactSnapshotText'. -/
def fnExactSnapshotTextUptoCard : Claim7 := { stood := { row := fnExactSnapshotTextUptoRow, standIns := [], harness := (true, "78521fc79e3b1edf9f81da742bb6402e97236344b81bddf64185bb16e492de7c"), looks := false }, kinds := [], alts := [], laidByText := true, laidKinds := [.data, .data, .data], laidTests := true, laidLooks := .later }
def FnExactSnapshotTextUptoCardSaid : Prop := Claim7.holds Tryd.pinned (.plain (OpenSpec.upto fnExactSnapshotTextSpec)) fnExactSnapshotTextUptoCard
end Rows
end Go.Proofs.YthingkcckjiniaaDoor
