/-
  DERIVED. GIVEN WITH THE SEED: THE CARDS: each row of YtnmhohfmonlfoaaGreatDoorRows.lean that lists a variable, with what it lists TIED to the program's text (the seventh form; the later family's looks); each row that meets fmt, with fmt's text TOLD by the authors' own Lean function (tested against real Go, not proved from fmt's source: count such statements apart). THE CARD IS WHAT COUNTS. Prove the row's statement (the work); the ties are given (YtnmhohfmonlfoaaGreatDoorTie.lean); close each card by the builder's one call (the guide's Derived/Test/ToyasCard.lean, 'card_holds'). Laid BY PROGRAM, IN A SANDBOX (cutbox-door.mjs). By AI agents, Wed Nov 11 2026. No macro, syntax, notation, axiom, sorry.
-/
import Derived.Test.YtnmhohfmonlfoaaGreatDoorRows
import GoSem.ClaimSeven
namespace Go.Proofs.YtnmhohfmonlfoaaGreatDoor
namespace Rows

/-- THE TIED CARD OF 'gearboxlaw11.PrimBins'. -/
def primBinsCard : Claim7 := { stood := { row := primBinsRow, standIns := [], harness := (true, "9366f35d2321fe84c8e20a89f173fff2b7272aa926de1856f9b88b5a82c6e724"), looks := false }, kinds := [], alts := [], laidByText := true, laidKinds := [.data, .data, .data], laidTests := true, laidLooks := .later }
def PrimBinsCardSaid : Prop := Claim7.holds Tryz.pinned (.plain (OpenSpec.ofChange primBinsSpec)) primBinsCard

/-- THE TIED CARD OF 'gearboxlaw11.PrimKeys'. -/
def primKeysCard : Claim7 := { stood := { row := primKeysRow, standIns := [], harness := (true, "9366f35d2321fe84c8e20a89f173fff2b7272aa926de1856f9b88b5a82c6e724"), looks := false }, kinds := [], alts := [], laidByText := true, laidKinds := [.data, .data, .data], laidTests := true, laidLooks := .later }
def PrimKeysCardSaid : Prop := Claim7.holds Tryz.pinned (.plain (OpenSpec.ofChange primKeysSpec)) primKeysCard

/-- THE TIED CARD OF 'gearboxlaw11.PrimOnes'. -/
def primOnesCard : Claim7 := { stood := { row := primOnesRow, standIns := [], harness := (true, "9366f35d2321fe84c8e20a89f173fff2b7272aa926de1856f9b88b5a82c6e724"), looks := false }, kinds := [], alts := [], laidByText := true, laidKinds := [.data, .data, .data], laidTests := true, laidLooks := .later }
def PrimOnesCardSaid : Prop := Claim7.holds Tryz.pinned (.plain (OpenSpec.ofChange primOnesSpec)) primOnesCard

/-- THE TIED CARD OF 'gearboxlaw11.PrimMakes'. -/
def primMakesCard : Claim7 := { stood := { row := primMakesRow, standIns := [], harness := (true, "9366f35d2321fe84c8e20a89f173fff2b7272aa926de1856f9b88b5a82c6e724"), looks := false }, kinds := [], alts := [], laidByText := true, laidKinds := [.data, .data, .data], laidTests := true, laidLooks := .later }
def PrimMakesCardSaid : Prop := Claim7.holds Tryz.pinned (.plain (OpenSpec.ofChange primMakesSpec)) primMakesCard

/-- THE SECOND FORM's CARD OF 'gearboxlaw11.PrimBins'. -/
def primBinsUptoCard : Claim7 := { stood := { row := primBinsUptoRow, standIns := [], harness := (true, "9366f35d2321fe84c8e20a89f173fff2b7272aa926de1856f9b88b5a82c6e724"), looks := false }, kinds := [], alts := [], laidByText := true, laidKinds := [.data, .data, .data], laidTests := true, laidLooks := .later }
def PrimBinsUptoCardSaid : Prop := Claim7.holds Tryz.pinned (.plain (OpenSpec.upto primBinsSpec)) primBinsUptoCard

/-- THE SECOND FORM's CARD OF 'gearboxlaw11.PrimKeys'. -/
def primKeysUptoCard : Claim7 := { stood := { row := primKeysUptoRow, standIns := [], harness := (true, "9366f35d2321fe84c8e20a89f173fff2b7272aa926de1856f9b88b5a82c6e724"), looks := false }, kinds := [], alts := [], laidByText := true, laidKinds := [.data, .data, .data], laidTests := true, laidLooks := .later }
def PrimKeysUptoCardSaid : Prop := Claim7.holds Tryz.pinned (.plain (OpenSpec.upto primKeysSpec)) primKeysUptoCard

/-- THE SECOND FORM's CARD OF 'gearboxlaw11.PrimOnes'. -/
def primOnesUptoCard : Claim7 := { stood := { row := primOnesUptoRow, standIns := [], harness := (true, "9366f35d2321fe84c8e20a89f173fff2b7272aa926de1856f9b88b5a82c6e724"), looks := false }, kinds := [], alts := [], laidByText := true, laidKinds := [.data, .data, .data], laidTests := true, laidLooks := .later }
def PrimOnesUptoCardSaid : Prop := Claim7.holds Tryz.pinned (.plain (OpenSpec.upto primOnesSpec)) primOnesUptoCard

/-- THE SECOND FORM's CARD OF 'gearboxlaw11.PrimMakes'. -/
def primMakesUptoCard : Claim7 := { stood := { row := primMakesUptoRow, standIns := [], harness := (true, "9366f35d2321fe84c8e20a89f173fff2b7272aa926de1856f9b88b5a82c6e724"), looks := false }, kinds := [], alts := [], laidByText := true, laidKinds := [.data, .data, .data], laidTests := true, laidLooks := .later }
def PrimMakesUptoCardSaid : Prop := Claim7.holds Tryz.pinned (.plain (OpenSpec.upto primMakesSpec)) primMakesUptoCard
end Rows
end Go.Proofs.YtnmhohfmonlfoaaGreatDoor
