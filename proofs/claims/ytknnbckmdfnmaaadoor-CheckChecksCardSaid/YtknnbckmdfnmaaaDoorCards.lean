/-
  DERIVED. GIVEN WITH THE SEED: THE CARDS: each row of YtknnbckmdfnmaaaDoorRows.lean that lists a variable, with what it lists TIED to the program's text (the seventh form; the later family's looks); each row that meets fmt, with fmt's text TOLD by the authors' own Lean function (tested against real Go, not proved from fmt's source: count such statements apart). THE CARD IS WHAT COUNTS. Prove the row's statement (the work); the ties are given (YtknnbckmdfnmaaaDoorTie.lean); close each card by the builder's one call (the guide's Derived/Test/ToyasCard.lean, 'card_holds'). Laid BY PROGRAM, IN A SANDBOX (cutbox-door.mjs). By AI agents, Wed Nov 11 2026. No macro, syntax, notation, axiom, sorry.
-/
import Derived.Test.YtknnbckmdfnmaaaDoorRows
import GoSem.ClaimSeven
namespace Go.Proofs.YtknnbckmdfnmaaaDoor
namespace Rows

/-- THE TIED CARD OF 'abreastlaw11.CheckChecks'. -/
def checkChecksCard : Claim7 := { stood := { row := checkChecksRow, standIns := [], harness := (true, "c1db7c045d6aed0a3631eca4e0d397d80639d082b7500a3a02b24c7dc2f512a0"), looks := true }, kinds := [], alts := [], laidByText := true, laidKinds := [.data, .data, .data, .sentinel, .sentinel], laidTests := true, laidLooks := .later }
def CheckChecksCardSaid : Prop := Claim7.holds Tryd.pinned (.plain (OpenSpec.ofChange checkChecksSpec)) checkChecksCard

/-- THE TIED CARD OF 'abreastlaw11.CheckShapes'. -/
def checkShapesCard : Claim7 := { stood := { row := checkShapesRow, standIns := [], harness := (true, "c1db7c045d6aed0a3631eca4e0d397d80639d082b7500a3a02b24c7dc2f512a0"), looks := true }, kinds := [], alts := [], laidByText := true, laidKinds := [.data, .data, .data, .sentinel, .sentinel], laidTests := true, laidLooks := .later }
def CheckShapesCardSaid : Prop := Claim7.holds Tryd.pinned (.plain (OpenSpec.ofChange checkShapesSpec)) checkShapesCard

/-- THE TIED CARD OF 'abreastlaw11.CheckStays'. -/
def checkStaysCard : Claim7 := { stood := { row := checkStaysRow, standIns := [], harness := (true, "c1db7c045d6aed0a3631eca4e0d397d80639d082b7500a3a02b24c7dc2f512a0"), looks := true }, kinds := [], alts := [], laidByText := true, laidKinds := [.data, .data, .data, .sentinel, .sentinel], laidTests := true, laidLooks := .later }
def CheckStaysCardSaid : Prop := Claim7.holds Tryd.pinned (.plain (OpenSpec.ofChange checkStaysSpec)) checkStaysCard

/-- THE TIED CARD OF 'abreastlaw11.CheckNames'. -/
def checkNamesCard : Claim7 := { stood := { row := checkNamesRow, standIns := [], harness := (true, "c1db7c045d6aed0a3631eca4e0d397d80639d082b7500a3a02b24c7dc2f512a0"), looks := true }, kinds := [], alts := [], laidByText := true, laidKinds := [.data, .data, .data, .sentinel, .sentinel], laidTests := true, laidLooks := .later }
def CheckNamesCardSaid : Prop := Claim7.holds Tryd.pinned (.plain (OpenSpec.ofChange checkNamesSpec)) checkNamesCard

/-- THE SECOND FORM's CARD OF 'abreastlaw11.CheckChecks'. -/
def checkChecksUptoCard : Claim7 := { stood := { row := checkChecksUptoRow, standIns := [], harness := (true, "c1db7c045d6aed0a3631eca4e0d397d80639d082b7500a3a02b24c7dc2f512a0"), looks := true }, kinds := [], alts := [], laidByText := true, laidKinds := [.data, .data, .data, .sentinel, .sentinel], laidTests := true, laidLooks := .later }
def CheckChecksUptoCardSaid : Prop := Claim7.holds Tryd.pinned (.plain (OpenSpec.upto checkChecksSpec)) checkChecksUptoCard

/-- THE SECOND FORM's CARD OF 'abreastlaw11.CheckShapes'. -/
def checkShapesUptoCard : Claim7 := { stood := { row := checkShapesUptoRow, standIns := [], harness := (true, "c1db7c045d6aed0a3631eca4e0d397d80639d082b7500a3a02b24c7dc2f512a0"), looks := true }, kinds := [], alts := [], laidByText := true, laidKinds := [.data, .data, .data, .sentinel, .sentinel], laidTests := true, laidLooks := .later }
def CheckShapesUptoCardSaid : Prop := Claim7.holds Tryd.pinned (.plain (OpenSpec.upto checkShapesSpec)) checkShapesUptoCard

/-- THE SECOND FORM's CARD OF 'abreastlaw11.CheckStays'. -/
def checkStaysUptoCard : Claim7 := { stood := { row := checkStaysUptoRow, standIns := [], harness := (true, "c1db7c045d6aed0a3631eca4e0d397d80639d082b7500a3a02b24c7dc2f512a0"), looks := true }, kinds := [], alts := [], laidByText := true, laidKinds := [.data, .data, .data, .sentinel, .sentinel], laidTests := true, laidLooks := .later }
def CheckStaysUptoCardSaid : Prop := Claim7.holds Tryd.pinned (.plain (OpenSpec.upto checkStaysSpec)) checkStaysUptoCard

/-- THE SECOND FORM's CARD OF 'abreastlaw11.CheckNames'. -/
def checkNamesUptoCard : Claim7 := { stood := { row := checkNamesUptoRow, standIns := [], harness := (true, "c1db7c045d6aed0a3631eca4e0d397d80639d082b7500a3a02b24c7dc2f512a0"), looks := true }, kinds := [], alts := [], laidByText := true, laidKinds := [.data, .data, .data, .sentinel, .sentinel], laidTests := true, laidLooks := .later }
def CheckNamesUptoCardSaid : Prop := Claim7.holds Tryd.pinned (.plain (OpenSpec.upto checkNamesSpec)) checkNamesUptoCard
end Rows
end Go.Proofs.YtknnbckmdfnmaaaDoor
