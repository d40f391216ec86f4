/-
  DERIVED. GIVEN WITH THE SEED: THE CARDS: each row of YtbomedbbgfcncaaDoorRows.lean that lists a variable, with what it lists TIED to the program's text (the seventh form; the later family's looks); each row that meets fmt, with fmt's text TOLD by the authors' own Lean function (tested against real Go, not proved from fmt's source: count such statements apart). THE CARD IS WHAT COUNTS. Prove the row's statement (the work); the ties are given (YtbomedbbgfcncaaDoorTie.lean); close each card by the builder's one call (the guide's Derived/Test/ToyasCard.lean, 'card_holds'). Laid BY PROGRAM, IN A SANDBOX (cutbox-door.mjs). By AI agents, Wed Nov 11 2026. No macro, syntax, notation, axiom, sorry.
-/
import Derived.Test.YtbomedbbgfcncaaDoorRows
import GoSem.ClaimSeven
namespace Go.Proofs.YtbomedbbgfcncaaDoor
namespace Rows

/-- THE TIED CARD OF 'gearboxlaw04.ShowTexts'. -/
def showTextsCard : Claim7 := { stood := { row := showTextsRow, standIns := [], harness := (true, "2eb34e6d5c59d0a9edccd4288ff7429279507d17fa164d7bd947a60890f9f70e"), looks := false }, kinds := [], alts := [], laidByText := true, laidKinds := [.data, .data, .data], laidTests := true, laidLooks := .later }
def ShowTextsCardSaid : Prop := Claim7.holds Tryd.pinned (.plain (OpenSpec.ofChange showTextsSpec)) showTextsCard

/-- THE TIED CARD OF 'gearboxlaw04.ShowPlaces'. -/
def showPlacesCard : Claim7 := { stood := { row := showPlacesRow, standIns := [], harness := (true, "2eb34e6d5c59d0a9edccd4288ff7429279507d17fa164d7bd947a60890f9f70e"), looks := false }, kinds := [], alts := [], laidByText := true, laidKinds := [.data, .data, .data], laidTests := true, laidLooks := .later }
def ShowPlacesCardSaid : Prop := Claim7.holds Tryd.pinned (.plain (OpenSpec.ofChange showPlacesSpec)) showPlacesCard

/-- THE TIED CARD OF 'gearboxlaw04.ShowLong'. -/
def showLongCard : Claim7 := { stood := { row := showLongRow, standIns := [], harness := (true, "2eb34e6d5c59d0a9edccd4288ff7429279507d17fa164d7bd947a60890f9f70e"), looks := false }, kinds := [], alts := [], laidByText := true, laidKinds := [.data, .data, .data], laidTests := true, laidLooks := .later }
def ShowLongCardSaid : Prop := Claim7.holds Tryd.pinned (.plain (OpenSpec.ofChange showLongSpec)) showLongCard

/-- THE TIED CARD OF 'gearboxlaw04.ShowAdds'. -/
def showAddsCard : Claim7 := { stood := { row := showAddsRow, standIns := [], harness := (true, "2eb34e6d5c59d0a9edccd4288ff7429279507d17fa164d7bd947a60890f9f70e"), looks := false }, kinds := [], alts := [], laidByText := true, laidKinds := [.data, .data, .data], laidTests := true, laidLooks := .later }
def ShowAddsCardSaid : Prop := Claim7.holds Tryd.pinned (.plain (OpenSpec.ofChange showAddsSpec)) showAddsCard

/-- THE SECOND FORM's CARD OF 'gearboxlaw04.ShowTexts'. -/
def showTextsUptoCard : Claim7 := { stood := { row := showTextsUptoRow, standIns := [], harness := (true, "2eb34e6d5c59d0a9edccd4288ff7429279507d17fa164d7bd947a60890f9f70e"), looks := false }, kinds := [], alts := [], laidByText := true, laidKinds := [.data, .data, .data], laidTests := true, laidLooks := .later }
def ShowTextsUptoCardSaid : Prop := Claim7.holds Tryd.pinned (.plain (OpenSpec.upto showTextsSpec)) showTextsUptoCard

/-- THE SECOND FORM's CARD OF 'gearboxlaw04.ShowPlaces'. -/
def showPlacesUptoCard : Claim7 := { stood := { row := showPlacesUptoRow, standIns := [], harness := (true, "2eb34e6d5c59d0a9edccd4288ff7429279507d17fa164d7bd947a60890f9f70e"), looks := false }, kinds := [], alts := [], laidByText := true, laidKinds := [.data, .data, .data], laidTests := true, laidLooks := .later }
def ShowPlacesUptoCardSaid : Prop := Claim7.holds Tryd.pinned (.plain (OpenSpec.upto showPlacesSpec)) showPlacesUptoCard

/-- THE SECOND FORM's CARD OF 'gearboxlaw04.ShowLong'. -/
def showLongUptoCard : Claim7 := { stood := { row := showLongUptoRow, standIns := [], harness := (true, "2eb34e6d5c59d0a9edccd4288ff7429279507d17fa164d7bd947a60890f9f70e"), looks := false }, kinds := [], alts := [], laidByText := true, laidKinds := [.data, .data, .data], laidTests := true, laidLooks := .later }
def ShowLongUptoCardSaid : Prop := Claim7.holds Tryd.pinned (.plain (OpenSpec.upto showLongSpec)) showLongUptoCard

/-- THE SECOND FORM's CARD OF 'gearboxlaw04.ShowAdds'. -/
def showAddsUptoCard : Claim7 := { stood := { row := showAddsUptoRow, standIns := [], harness := (true, "2eb34e6d5c59d0a9edccd4288ff7429279507d17fa164d7bd947a60890f9f70e"), looks := false }, kinds := [], alts := [], laidByText := true, laidKinds := [.data, .data, .data], laidTests := true, laidLooks := .later }
def ShowAddsUptoCardSaid : Prop := Claim7.holds Tryd.pinned (.plain (OpenSpec.upto showAddsSpec)) showAddsUptoCard
end Rows
end Go.Proofs.YtbomedbbgfcncaaDoor
