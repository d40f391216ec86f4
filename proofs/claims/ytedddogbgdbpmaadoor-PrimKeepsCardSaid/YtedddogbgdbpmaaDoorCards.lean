/-
  DERIVED. GIVEN WITH THE SEED: THE CARDS: each row of YtedddogbgdbpmaaDoorRows.lean that lists a variable, with what it lists TIED to the program's text (the seventh form; the later family's looks); each row that meets fmt, with fmt's text TOLD by the authors' own Lean function (tested against real Go, not proved from fmt's source: count such statements apart). THE CARD IS WHAT COUNTS. Prove the row's statement (the work); the ties are given (YtedddogbgdbpmaaDoorTie.lean); close each card by the builder's one call (the guide's Derived/Test/ToyasCard.lean, 'card_holds'). Laid BY PROGRAM, IN A SANDBOX (cutbox-door.mjs). By AI agents, Wed Nov 11 2026. No macro, syntax, notation, axiom, sorry.
-/
import Derived.Test.YtedddogbgdbpmaaDoorRows
import GoSem.ClaimSeven
namespace Go.Proofs.YtedddogbgdbpmaaDoor
namespace Rows

/-- THE TIED CARD OF 'gearboxlaw11.PrimMaps'. -/
def primMapsCard : Claim7 := { stood := { row := primMapsRow, standIns := [], harness := (true, "82e1a04a533cce72eca55e4692a70d534ca31942205c9a459704e4a3a2400854"), looks := false }, kinds := [], alts := [], laidByText := true, laidKinds := [.data, .data, .data], laidTests := true, laidLooks := .later }
def PrimMapsCardSaid : Prop := Claim7.holds Tryd.pinned (.plain (OpenSpec.ofChange primMapsSpec)) primMapsCard

/-- THE TIED CARD OF 'gearboxlaw11.PrimKeeps'. -/
def primKeepsCard : Claim7 := { stood := { row := primKeepsRow, standIns := [], harness := (true, "82e1a04a533cce72eca55e4692a70d534ca31942205c9a459704e4a3a2400854"), looks := false }, kinds := [], alts := [], laidByText := true, laidKinds := [.data, .data, .data], laidTests := true, laidLooks := .later }
def PrimKeepsCardSaid : Prop := Claim7.holds Tryd.pinned (.plain (OpenSpec.ofChange primKeepsSpec)) primKeepsCard

/-- THE SECOND FORM's CARD OF 'gearboxlaw11.PrimMaps'. -/
def primMapsUptoCard : Claim7 := { stood := { row := primMapsUptoRow, standIns := [], harness := (true, "82e1a04a533cce72eca55e4692a70d534ca31942205c9a459704e4a3a2400854"), looks := false }, kinds := [], alts := [], laidByText := true, laidKinds := [.data, .data, .data], laidTests := true, laidLooks := .later }
def PrimMapsUptoCardSaid : Prop := Claim7.holds Tryd.pinned (.plain (OpenSpec.upto primMapsSpec)) primMapsUptoCard

/-- THE SECOND FORM's CARD OF 'gearboxlaw11.PrimKeeps'. -/
def primKeepsUptoCard : Claim7 := { stood := { row := primKeepsUptoRow, standIns := [], harness := (true, "82e1a04a533cce72eca55e4692a70d534ca31942205c9a459704e4a3a2400854"), looks := false }, kinds := [], alts := [], laidByText := true, laidKinds := [.data, .data, .data], laidTests := true, laidLooks := .later }
def PrimKeepsUptoCardSaid : Prop := Claim7.holds Tryd.pinned (.plain (OpenSpec.upto primKeepsSpec)) primKeepsUptoCard
end Rows
end Go.Proofs.YtedddogbgdbpmaaDoor
