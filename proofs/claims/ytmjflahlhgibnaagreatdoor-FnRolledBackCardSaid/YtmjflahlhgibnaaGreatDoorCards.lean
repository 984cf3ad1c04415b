/-
  DERIVED. GIVEN WITH THE SEED: THE CARDS: each row of YtmjflahlhgibnaaGreatDoorRows.lean that lists a variable, with what it lists TIED to the program's text (the seventh form; the later family's looks); each row that meets fmt, with fmt's text TOLD by the authors' own Lean function (tested against real Go, not proved from fmt's source: count such statements apart). THE CARD IS WHAT COUNTS. Prove the row's statement (the work); the ties are given (YtmjflahlhgibnaaGreatDoorTie.lean); close each card by the builder's one call (the guide's Derived/Test/ToyasCard.lean, 'card_holds'). Laid BY PROGRAM, IN A SANDBOX (cutbox-door.mjs). By AI agents, Wed Nov 11 2026. No macro, syntax, notation, axiom, sorry.
-/
import Derived.Test.YtmjflahlhgibnaaGreatDoorRows
import GoSem.ClaimSeven
namespace Go.Proofs.YtmjflahlhgibnaaGreatDoor
namespace Rows

/-- THE TIED CARD OF 'laws.FnRolledBack'. -/
def fnRolledBackCard : Claim7 := { stood := { row := fnRolledBackRow, standIns := [], harness := (true, "33183ee53b0897b8af7adc4daa5291eb2423c08293d532767a3873ff6c400c00"), looks := false }, kinds := [], alts := [], laidByText := true, laidKinds := [.data, .data, .data], laidTests := true, laidLooks := .later }
def FnRolledBackCardSaid : Prop := Claim7.holds Tryz.pinned (.plain (OpenSpec.ofChange fnRolledBackSpec)) fnRolledBackCard

/-- THE SECOND FORM's CARD OF 'laws.FnRolledBack'. -/
def fnRolledBackUptoCard : Claim7 := { stood := { row := fnRolledBackUptoRow, standIns := [], harness := (true, "33183ee53b0897b8af7adc4daa5291eb2423c08293d532767a3873ff6c400c00"), looks := false }, kinds := [], alts := [], laidByText := true, laidKinds := [.data, .data, .data], laidTests := true, laidLooks := .later }
def FnRolledBackUptoCardSaid : Prop := Claim7.holds Tryz.pinned (.plain (OpenSpec.upto fnRolledBackSpec)) fnRolledBackUptoCard
end Rows
end Go.Proofs.YtmjflahlhgibnaaGreatDoor
