/-
  DERIVED. GIVEN WITH THE SEED: THE CARDS: each row of YtnlaakmglhjjmaaGreatDoorRows.lean that lists a variable, with what it lists TIED to the program's text (the seventh form; the later family's looks); each row that meets fmt, with fmt's text TOLD by the authors' own Lean function (tested against real Go, not proved from fmt's source: count such statements apart). THE CARD IS WHAT COUNTS. Prove the row's statement (the work); the ties are given (YtnlaakmglhjjmaaGreatDoorTie.lean); close each card by the builder's one call (the guide's Derived/Test/ToyasCard.lean, 'card_holds'). Laid BY PROGRAM, IN A SANDBOX (cutbox-door.mjs). By AI agents, Wed Nov 11 2026. No macro, syntax, notation, axiom, sorry.
-/
import Derived.Test.YtnlaakmglhjjmaaGreatDoorRows
import GoSem.ClaimSeven
namespace Go.Proofs.YtnlaakmglhjjmaaGreatDoor
namespace Rows

/-- THE TIED CARD OF 'censuslaw45.HashFree'. -/
def hashFreeCard : Claim7 := { stood := { row := hashFreeRow, standIns := [], harness := (true, "8e765df1d6c3d76c51dcffed01fbc5249fbac2688f069d9648aa34aa8b620046"), looks := true }, kinds := [], alts := [], laidByText := true, laidKinds := [.data, .data, .data], laidTests := true, laidLooks := .later }
def HashFreeCardSaid : Prop := Claim7.holds Tryz.pinned (.plain (OpenSpec.ofChange hashFreeSpec)) hashFreeCard

/-- THE TIED CARD OF 'censuslaw45.HashCells'. -/
def hashCellsCard : Claim7 := { stood := { row := hashCellsRow, standIns := [], harness := (true, "8e765df1d6c3d76c51dcffed01fbc5249fbac2688f069d9648aa34aa8b620046"), looks := true }, kinds := [], alts := [], laidByText := true, laidKinds := [.data, .data, .data], laidTests := true, laidLooks := .later }
def HashCellsCardSaid : Prop := Claim7.holds Tryz.pinned (.plain (OpenSpec.ofChange hashCellsSpec)) hashCellsCard

/-- THE TIED CARD OF 'censuslaw45.HashEstimates'. -/
def hashEstimatesCard : Claim7 := { stood := { row := hashEstimatesRow, standIns := [], harness := (true, "8e765df1d6c3d76c51dcffed01fbc5249fbac2688f069d9648aa34aa8b620046"), looks := true }, kinds := [], alts := [], laidByText := true, laidKinds := [.data, .data, .data], laidTests := true, laidLooks := .later }
def HashEstimatesCardSaid : Prop := Claim7.holds Tryz.pinned (.plain (OpenSpec.ofChange hashEstimatesSpec)) hashEstimatesCard

/-- THE TIED CARD OF 'censuslaw45.HashMedians'. -/
def hashMediansCard : Claim7 := { stood := { row := hashMediansRow, standIns := [], harness := (true, "8e765df1d6c3d76c51dcffed01fbc5249fbac2688f069d9648aa34aa8b620046"), looks := true }, kinds := [], alts := [], laidByText := true, laidKinds := [.data, .data, .data], laidTests := true, laidLooks := .later }
def HashMediansCardSaid : Prop := Claim7.holds Tryz.pinned (.plain (OpenSpec.ofChange hashMediansSpec)) hashMediansCard

/-- THE SECOND FORM's CARD OF 'censuslaw45.HashFree'. -/
def hashFreeUptoCard : Claim7 := { stood := { row := hashFreeUptoRow, standIns := [], harness := (true, "8e765df1d6c3d76c51dcffed01fbc5249fbac2688f069d9648aa34aa8b620046"), looks := true }, kinds := [], alts := [], laidByText := true, laidKinds := [.data, .data, .data], laidTests := true, laidLooks := .later }
def HashFreeUptoCardSaid : Prop := Claim7.holds Tryz.pinned (.plain (OpenSpec.upto hashFreeSpec)) hashFreeUptoCard

/-- THE SECOND FORM's CARD OF 'censuslaw45.HashCells'. -/
def hashCellsUptoCard : Claim7 := { stood := { row := hashCellsUptoRow, standIns := [], harness := (true, "8e765df1d6c3d76c51dcffed01fbc5249fbac2688f069d9648aa34aa8b620046"), looks := true }, kinds := [], alts := [], laidByText := true, laidKinds := [.data, .data, .data], laidTests := true, laidLooks := .later }
def HashCellsUptoCardSaid : Prop := Claim7.holds Tryz.pinned (.plain (OpenSpec.upto hashCellsSpec)) hashCellsUptoCard

/-- THE SECOND FORM's CARD OF 'censuslaw45.HashEstimates'. -/
def hashEstimatesUptoCard : Claim7 := { stood := { row := hashEstimatesUptoRow, standIns := [], harness := (true, "8e765df1d6c3d76c51dcffed01fbc5249fbac2688f069d9648aa34aa8b620046"), looks := true }, kinds := [], alts := [], laidByText := true, laidKinds := [.data, .data, .data], laidTests := true, laidLooks := .later }
def HashEstimatesUptoCardSaid : Prop := Claim7.holds Tryz.pinned (.plain (OpenSpec.upto hashEstimatesSpec)) hashEstimatesUptoCard

/-- THE SECOND FORM's CARD OF 'censuslaw45.HashMedians'. -/
def hashMediansUptoCard : Claim7 := { stood := { row := hashMediansUptoRow, standIns := [], harness := (true, "8e765df1d6c3d76c51dcffed01fbc5249fbac2688f069d9648aa34aa8b620046"), looks := true }, kinds := [], alts := [], laidByText := true, laidKinds := [.data, .data, .data], laidTests := true, laidLooks := .later }
def HashMediansUptoCardSaid : Prop := Claim7.holds Tryz.pinned (.plain (OpenSpec.upto hashMediansSpec)) hashMediansUptoCard
end Rows
end Go.Proofs.YtnlaakmglhjjmaaGreatDoor
