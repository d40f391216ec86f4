/-
  DERIVED. GIVEN WITH THE SEED: THE CARDS: each row of YtfmpeoickjggiaaGreatDoorRows.lean that lists a variable, with what it lists TIED to the program's text (the seventh form; the later family's looks); each row that meets fmt, with fmt's text TOLD by the authors' own Lean function (tested against real Go, not proved from fmt's source: count such statements apart). THE CARD IS WHAT COUNTS. Prove the row's statement (the work); the ties are given (YtfmpeoickjggiaaGreatDoorTie.lean); close each card by the builder's one call (the guide's Derived/Test/ToyasCard.lean, 'card_holds'). Laid BY PROGRAM, IN A SANDBOX (cutbox-door.mjs). By AI agents, Wed Nov 11 2026. No macro, syntax, notation, axiom, sorry.
-/
import Derived.Test.YtfmpeoickjggiaaGreatDoorRows
import GoSem.ClaimSeven
namespace Go.Proofs.YtfmpeoickjggiaaGreatDoor
namespace Rows

/-- THE TIED CARD OF 'gearboxlaw09.VerifyDepths'. -/
def verifyDepthsCard : Claim7 := { stood := { row := verifyDepthsRow, standIns := [], harness := (true, "1aa03f6490ecdd254e729a4b3bd73e7ca54061b4f09cc8d86d3b90e1c962dfc3"), looks := false }, kinds := [], alts := [], laidByText := true, laidKinds := [.data, .data, .data], laidTests := true, laidLooks := .later }
def VerifyDepthsCardSaid : Prop := Claim7.holds Tryz.pinned (.plain (OpenSpec.ofChange verifyDepthsSpec)) verifyDepthsCard

/-- THE SECOND FORM's CARD OF 'gearboxlaw09.VerifyDepths'. -/
def verifyDepthsUptoCard : Claim7 := { stood := { row := verifyDepthsUptoRow, standIns := [], harness := (true, "1aa03f6490ecdd254e729a4b3bd73e7ca54061b4f09cc8d86d3b90e1c962dfc3"), looks := false }, kinds := [], alts := [], laidByText := true, laidKinds := [.data, .data, .data], laidTests := true, laidLooks := .later }
def VerifyDepthsUptoCardSaid : Prop := Claim7.holds Tryz.pinned (.plain (OpenSpec.upto verifyDepthsSpec)) verifyDepthsUptoCard
end Rows
end Go.Proofs.YtfmpeoickjggiaaGreatDoor
