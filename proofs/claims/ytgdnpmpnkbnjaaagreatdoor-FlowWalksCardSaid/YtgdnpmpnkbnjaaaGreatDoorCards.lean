/-
  DERIVED. GIVEN WITH THE SEED: THE CARDS: each row of YtgdnpmpnkbnjaaaGreatDoorRows.lean that lists a variable, with what it lists TIED to the program's text (the seventh form; the later family's looks); each row that meets fmt, with fmt's text TOLD by the authors' own Lean function (tested against real Go, not proved from fmt's source: count such statements apart). THE CARD IS WHAT COUNTS. Prove the row's statement (the work); the ties are given (YtgdnpmpnkbnjaaaGreatDoorTie.lean); close each card by the builder's one call (the guide's Derived/Test/ToyasCard.lean, 'card_holds'). Laid BY PROGRAM, IN A SANDBOX (cutbox-door.mjs). By AI agents, Wed Nov 11 2026. No macro, syntax, notation, axiom, sorry.
-/
import Derived.Test.YtgdnpmpnkbnjaaaGreatDoorRows
import GoSem.ClaimSeven
namespace Go.Proofs.YtgdnpmpnkbnjaaaGreatDoor
namespace Rows

/-- THE TIED CARD OF 'abreastlaw13.FlowAlone'. -/
def flowAloneCard : Claim7 := { stood := { row := flowAloneRow, standIns := [], harness := (true, "f856d35eaaed625b8f8f2ec574a9618c7bf010573ae516c77d2330c93e79b9f7"), looks := true }, kinds := [], alts := [], laidByText := true, laidKinds := [.data, .data, .data, .sentinel, .sentinel], laidTests := true, laidLooks := .later }
def FlowAloneCardSaid : Prop := Claim7.holds Tryz.pinned (.plain (OpenSpec.ofChange flowAloneSpec)) flowAloneCard

/-- THE TIED CARD OF 'abreastlaw13.FlowWalks'. -/
def flowWalksCard : Claim7 := { stood := { row := flowWalksRow, standIns := [], harness := (true, "f856d35eaaed625b8f8f2ec574a9618c7bf010573ae516c77d2330c93e79b9f7"), looks := true }, kinds := [], alts := [], laidByText := true, laidKinds := [.data, .data, .data, .sentinel, .sentinel], laidTests := true, laidLooks := .later }
def FlowWalksCardSaid : Prop := Claim7.holds Tryz.pinned (.plain (OpenSpec.ofChange flowWalksSpec)) flowWalksCard

/-- THE SECOND FORM's CARD OF 'abreastlaw13.FlowAlone'. -/
def flowAloneUptoCard : Claim7 := { stood := { row := flowAloneUptoRow, standIns := [], harness := (true, "f856d35eaaed625b8f8f2ec574a9618c7bf010573ae516c77d2330c93e79b9f7"), looks := true }, kinds := [], alts := [], laidByText := true, laidKinds := [.data, .data, .data, .sentinel, .sentinel], laidTests := true, laidLooks := .later }
def FlowAloneUptoCardSaid : Prop := Claim7.holds Tryz.pinned (.plain (OpenSpec.upto flowAloneSpec)) flowAloneUptoCard

/-- THE SECOND FORM's CARD OF 'abreastlaw13.FlowWalks'. -/
def flowWalksUptoCard : Claim7 := { stood := { row := flowWalksUptoRow, standIns := [], harness := (true, "f856d35eaaed625b8f8f2ec574a9618c7bf010573ae516c77d2330c93e79b9f7"), looks := true }, kinds := [], alts := [], laidByText := true, laidKinds := [.data, .data, .data, .sentinel, .sentinel], laidTests := true, laidLooks := .later }
def FlowWalksUptoCardSaid : Prop := Claim7.holds Tryz.pinned (.plain (OpenSpec.upto flowWalksSpec)) flowWalksUptoCard
end Rows
end Go.Proofs.YtgdnpmpnkbnjaaaGreatDoor
