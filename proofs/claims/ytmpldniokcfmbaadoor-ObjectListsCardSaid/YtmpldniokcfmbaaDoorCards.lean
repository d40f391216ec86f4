/-
  DERIVED. GIVEN WITH THE SEED: THE CARDS: each row of YtmpldniokcfmbaaDoorRows.lean that lists a variable, with what it lists TIED to the program's text (the seventh form; the later family's looks); each row that meets fmt, with fmt's text TOLD by the authors' own Lean function (tested against real Go, not proved from fmt's source: count such statements apart). THE CARD IS WHAT COUNTS. Prove the row's statement (the work); the ties are given (YtmpldniokcfmbaaDoorTie.lean); close each card by the builder's one call (the guide's Derived/Test/ToyasCard.lean, 'card_holds'). Laid BY PROGRAM, IN A SANDBOX (cutbox-door.mjs). By AI agents, Wed Nov 11 2026. No macro, syntax, notation, axiom, sorry.
-/
import Derived.Test.YtmpldniokcfmbaaDoorRows
import GoSem.ClaimSeven
namespace Go.Proofs.YtmpldniokcfmbaaDoor
namespace Rows

/-- THE TIED CARD OF 'gearboxlaw03.ObjectLists'. -/
def objectListsCard : Claim7 := { stood := { row := objectListsRow, standIns := [], harness := (true, "e703704e05faf75320b2adba6185fa70640449f669a3b8b20a329c7c9b925dac"), looks := false }, kinds := [], alts := [], laidByText := true, laidKinds := [.data], laidTests := true, laidLooks := .later }
def ObjectListsCardSaid : Prop := Claim7.holds Tryd.pinned (.plain (OpenSpec.ofChange objectListsSpec)) objectListsCard

/-- THE SECOND FORM's CARD OF 'gearboxlaw03.ObjectLists'. -/
def objectListsUptoCard : Claim7 := { stood := { row := objectListsUptoRow, standIns := [], harness := (true, "e703704e05faf75320b2adba6185fa70640449f669a3b8b20a329c7c9b925dac"), looks := false }, kinds := [], alts := [], laidByText := true, laidKinds := [.data], laidTests := true, laidLooks := .later }
def ObjectListsUptoCardSaid : Prop := Claim7.holds Tryd.pinned (.plain (OpenSpec.upto objectListsSpec)) objectListsUptoCard
end Rows
end Go.Proofs.YtmpldniokcfmbaaDoor
