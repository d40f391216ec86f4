/-
  DERIVED. GIVEN WITH THE SEED: THE CARDS: each row of YtgidfebccdfjgaaDoorRows.lean that lists a variable, with what it lists TIED to the program's text (the seventh form; the later family's looks); each row that meets fmt, with fmt's text TOLD by the authors' own Lean function (tested against real Go, not proved from fmt's source: count such statements apart). THE CARD IS WHAT COUNTS. Prove the row's statement (the work); the ties are given (YtgidfebccdfjgaaDoorTie.lean); close each card by the builder's one call (the guide's Derived/Test/ToyasCard.lean, 'card_holds'). Laid BY PROGRAM, IN A SANDBOX (cutbox-door.mjs). By AI agents, Wed Nov 11 2026. No macro, syntax, notation, axiom, sorry.
-/
import Derived.Test.YtgidfebccdfjgaaDoorRows
import GoSem.ClaimSeven
namespace Go.Proofs.YtgidfebccdfjgaaDoor
namespace Rows

/-- THE TIED CARD OF 'gearboxlaw01.HeapFills'. -/
def heapFillsCard : Claim7 := { stood := { row := heapFillsRow, standIns := [], harness := (true, "3a4bb534919f61df7af516d43b350b571ff5321ccfbad891bb1358d00cf1f045"), looks := false }, kinds := [], alts := [], laidByText := true, laidKinds := [.data], laidTests := true, laidLooks := .later }
def HeapFillsCardSaid : Prop := Claim7.holds Tryd.pinned (.plain (OpenSpec.ofChange heapFillsSpec)) heapFillsCard

/-- THE TIED CARD OF 'gearboxlaw01.HeapKeeps'. -/
def heapKeepsCard : Claim7 := { stood := { row := heapKeepsRow, standIns := [], harness := (true, "3a4bb534919f61df7af516d43b350b571ff5321ccfbad891bb1358d00cf1f045"), looks := false }, kinds := [], alts := [], laidByText := true, laidKinds := [.data], laidTests := true, laidLooks := .later }
def HeapKeepsCardSaid : Prop := Claim7.holds Tryd.pinned (.plain (OpenSpec.ofChange heapKeepsSpec)) heapKeepsCard

/-- THE TIED CARD OF 'gearboxlaw01.HeapApart'. -/
def heapApartCard : Claim7 := { stood := { row := heapApartRow, standIns := [], harness := (true, "3a4bb534919f61df7af516d43b350b571ff5321ccfbad891bb1358d00cf1f045"), looks := false }, kinds := [], alts := [], laidByText := true, laidKinds := [.data], laidTests := true, laidLooks := .later }
def HeapApartCardSaid : Prop := Claim7.holds Tryd.pinned (.plain (OpenSpec.ofChange heapApartSpec)) heapApartCard

/-- THE SECOND FORM's CARD OF 'gearboxlaw01.HeapFills'. -/
def heapFillsUptoCard : Claim7 := { stood := { row := heapFillsUptoRow, standIns := [], harness := (true, "3a4bb534919f61df7af516d43b350b571ff5321ccfbad891bb1358d00cf1f045"), looks := false }, kinds := [], alts := [], laidByText := true, laidKinds := [.data], laidTests := true, laidLooks := .later }
def HeapFillsUptoCardSaid : Prop := Claim7.holds Tryd.pinned (.plain (OpenSpec.upto heapFillsSpec)) heapFillsUptoCard

/-- THE SECOND FORM's CARD OF 'gearboxlaw01.HeapKeeps'. -/
def heapKeepsUptoCard : Claim7 := { stood := { row := heapKeepsUptoRow, standIns := [], harness := (true, "3a4bb534919f61df7af516d43b350b571ff5321ccfbad891bb1358d00cf1f045"), looks := false }, kinds := [], alts := [], laidByText := true, laidKinds := [.data], laidTests := true, laidLooks := .later }
def HeapKeepsUptoCardSaid : Prop := Claim7.holds Tryd.pinned (.plain (OpenSpec.upto heapKeepsSpec)) heapKeepsUptoCard

/-- THE SECOND FORM's CARD OF 'gearboxlaw01.HeapApart'. -/
def heapApartUptoCard : Claim7 := { stood := { row := heapApartUptoRow, standIns := [], harness := (true, "3a4bb534919f61df7af516d43b350b571ff5321ccfbad891bb1358d00cf1f045"), looks := false }, kinds := [], alts := [], laidByText := true, laidKinds := [.data], laidTests := true, laidLooks := .later }
def HeapApartUptoCardSaid : Prop := Claim7.holds Tryd.pinned (.plain (OpenSpec.upto heapApartSpec)) heapApartUptoCard
end Rows
end Go.Proofs.YtgidfebccdfjgaaDoor
