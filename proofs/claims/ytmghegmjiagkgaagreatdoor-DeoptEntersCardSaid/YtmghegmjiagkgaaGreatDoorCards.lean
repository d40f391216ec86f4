/-
  DERIVED. GIVEN WITH THE SEED: THE CARDS: each row of YtmghegmjiagkgaaGreatDoorRows.lean that lists a variable, with what it lists TIED to the program's text (the seventh form; the later family's looks); each row that meets fmt, with fmt's text TOLD by the authors' own Lean function (tested against real Go, not proved from fmt's source: count such statements apart). THE CARD IS WHAT COUNTS. Prove the row's statement (the work); the ties are given (YtmghegmjiagkgaaGreatDoorTie.lean); close each card by the builder's one call (the guide's Derived/Test/ToyasCard.lean, 'card_holds'). Laid BY PROGRAM, IN A SANDBOX (cutbox-door.mjs). By AI agents, Wed Nov 11 2026. No macro, syntax, notation, axiom, sorry.
-/
import Derived.Test.YtmghegmjiagkgaaGreatDoorRows
import GoSem.ClaimSeven
namespace Go.Proofs.YtmghegmjiagkgaaGreatDoor
namespace Rows

/-- THE TIED CARD OF 'gearboxlaw23.DeoptFrames'. -/
def deoptFramesCard : Claim7 := { stood := { row := deoptFramesRow, standIns := [], harness := (true, "35e4d72cf1dfa68d26851a3722092f17c0381fe85cc51ab596fede4e6eab2fc7"), looks := false }, kinds := [], alts := [], laidByText := true, laidKinds := [.data, .data, .data], laidTests := true, laidLooks := .later }
def DeoptFramesCardSaid : Prop := Claim7.holds Tryz.pinned (.plain (OpenSpec.ofChange deoptFramesSpec)) deoptFramesCard

/-- THE TIED CARD OF 'gearboxlaw23.DeoptEnters'. -/
def deoptEntersCard : Claim7 := { stood := { row := deoptEntersRow, standIns := [], harness := (true, "35e4d72cf1dfa68d26851a3722092f17c0381fe85cc51ab596fede4e6eab2fc7"), looks := false }, kinds := [], alts := [], laidByText := true, laidKinds := [.data, .data, .data], laidTests := true, laidLooks := .later }
def DeoptEntersCardSaid : Prop := Claim7.holds Tryz.pinned (.plain (OpenSpec.ofChange deoptEntersSpec)) deoptEntersCard

/-- THE SECOND FORM's CARD OF 'gearboxlaw23.DeoptFrames'. -/
def deoptFramesUptoCard : Claim7 := { stood := { row := deoptFramesUptoRow, standIns := [], harness := (true, "35e4d72cf1dfa68d26851a3722092f17c0381fe85cc51ab596fede4e6eab2fc7"), looks := false }, kinds := [], alts := [], laidByText := true, laidKinds := [.data, .data, .data], laidTests := true, laidLooks := .later }
def DeoptFramesUptoCardSaid : Prop := Claim7.holds Tryz.pinned (.plain (OpenSpec.upto deoptFramesSpec)) deoptFramesUptoCard

/-- THE SECOND FORM's CARD OF 'gearboxlaw23.DeoptEnters'. -/
def deoptEntersUptoCard : Claim7 := { stood := { row := deoptEntersUptoRow, standIns := [], harness := (true, "35e4d72cf1dfa68d26851a3722092f17c0381fe85cc51ab596fede4e6eab2fc7"), looks := false }, kinds := [], alts := [], laidByText := true, laidKinds := [.data, .data, .data], laidTests := true, laidLooks := .later }
def DeoptEntersUptoCardSaid : Prop := Claim7.holds Tryz.pinned (.plain (OpenSpec.upto deoptEntersSpec)) deoptEntersUptoCard
end Rows
end Go.Proofs.YtmghegmjiagkgaaGreatDoor
