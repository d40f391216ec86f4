/-
  DERIVED. GIVEN WITH THE SEED: THE CARDS: each row of YtjdfihnmpmckjaaGreatDoorRows.lean that lists a variable, with what it lists TIED to the program's text (the seventh form; the later family's looks); each row that meets fmt, with fmt's text TOLD by the authors' own Lean function (tested against real Go, not proved from fmt's source: count such statements apart). THE CARD IS WHAT COUNTS. Prove the row's statement (the work); the ties are given (YtjdfihnmpmckjaaGreatDoorTie.lean); close each card by the builder's one call (the guide's Derived/Test/ToyasCard.lean, 'card_holds'). Laid BY PROGRAM, IN A SANDBOX (cutbox-door.mjs). By AI agents, Wed Nov 11 2026. No macro, syntax, notation, axiom, sorry.
-/
import Derived.Test.YtjdfihnmpmckjaaGreatDoorRows
import GoSem.ClaimSeven
namespace Go.Proofs.YtjdfihnmpmckjaaGreatDoor
namespace Rows

/-- THE TIED CARD OF 'gearboxlaw11.PrimBins'. -/
def primBinsCard : Claim7 := { stood := { row := primBinsRow, standIns := [], harness := (true, "ac4378993aea961aadb552e2a3552c619b3b6b650adf71b7639448a453dd9b1d"), looks := false }, kinds := [], alts := [], laidByText := true, laidKinds := [.data, .data, .data], laidTests := true, laidLooks := .later }
def PrimBinsCardSaid : Prop := Claim7.holds Tryz.pinned (.plain (OpenSpec.ofChange primBinsSpec)) primBinsCard

/-- THE TIED CARD OF 'gearboxlaw11.PrimKeys'. -/
def primKeysCard : Claim7 := { stood := { row := primKeysRow, standIns := [], harness := (true, "ac4378993aea961aadb552e2a3552c619b3b6b650adf71b7639448a453dd9b1d"), looks := false }, kinds := [], alts := [], laidByText := true, laidKinds := [.data, .data, .data], laidTests := true, laidLooks := .later }
def PrimKeysCardSaid : Prop := Claim7.holds Tryz.pinned (.plain (OpenSpec.ofChange primKeysSpec)) primKeysCard

/-- THE TIED CARD OF 'gearboxlaw11.PrimMakes'. -/
def primMakesCard : Claim7 := { stood := { row := primMakesRow, standIns := [], harness := (true, "ac4378993aea961aadb552e2a3552c619b3b6b650adf71b7639448a453dd9b1d"), looks := false }, kinds := [], alts := [], laidByText := true, laidKinds := [.data, .data, .data], laidTests := true, laidLooks := .later }
def PrimMakesCardSaid : Prop := Claim7.holds Tryz.pinned (.plain (OpenSpec.ofChange primMakesSpec)) primMakesCard

/-- THE SECOND FORM's CARD OF 'gearboxlaw11.PrimBins'. -/
def primBinsUptoCard : Claim7 := { stood := { row := primBinsUptoRow, standIns := [], harness := (true, "ac4378993aea961aadb552e2a3552c619b3b6b650adf71b7639448a453dd9b1d"), looks := false }, kinds := [], alts := [], laidByText := true, laidKinds := [.data, .data, .data], laidTests := true, laidLooks := .later }
def PrimBinsUptoCardSaid : Prop := Claim7.holds Tryz.pinned (.plain (OpenSpec.upto primBinsSpec)) primBinsUptoCard

/-- THE SECOND FORM's CARD OF 'gearboxlaw11.PrimKeys'. -/
def primKeysUptoCard : Claim7 := { stood := { row := primKeysUptoRow, standIns := [], harness := (true, "ac4378993aea961aadb552e2a3552c619b3b6b650adf71b7639448a453dd9b1d"), looks := false }, kinds := [], alts := [], laidByText := true, laidKinds := [.data, .data, .data], laidTests := true, laidLooks := .later }
def PrimKeysUptoCardSaid : Prop := Claim7.holds Tryz.pinned (.plain (OpenSpec.upto primKeysSpec)) primKeysUptoCard

/-- THE SECOND FORM's CARD OF 'gearboxlaw11.PrimMakes'. -/
def primMakesUptoCard : Claim7 := { stood := { row := primMakesUptoRow, standIns := [], harness := (true, "ac4378993aea961aadb552e2a3552c619b3b6b650adf71b7639448a453dd9b1d"), looks := false }, kinds := [], alts := [], laidByText := true, laidKinds := [.data, .data, .data], laidTests := true, laidLooks := .later }
def PrimMakesUptoCardSaid : Prop := Claim7.holds Tryz.pinned (.plain (OpenSpec.upto primMakesSpec)) primMakesUptoCard
end Rows
end Go.Proofs.YtjdfihnmpmckjaaGreatDoor
