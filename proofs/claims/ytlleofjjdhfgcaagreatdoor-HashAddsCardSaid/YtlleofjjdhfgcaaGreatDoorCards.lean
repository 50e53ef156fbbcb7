/-
  DERIVED. GIVEN WITH THE SEED: THE CARDS: each row of YtlleofjjdhfgcaaGreatDoorRows.lean that lists a variable, with what it lists TIED to the program's text (the seventh form; the later family's looks); each row that meets fmt, with fmt's text TOLD by the authors' own Lean function (tested against real Go, not proved from fmt's source: count such statements apart). THE CARD IS WHAT COUNTS. Prove the row's statement (the work); the ties are given (YtlleofjjdhfgcaaGreatDoorTie.lean); close each card by the builder's one call (the guide's Derived/Test/ToyasCard.lean, 'card_holds'). Laid BY PROGRAM, IN A SANDBOX (cutbox-door.mjs). By AI agents, Wed Nov 11 2026. No macro, syntax, notation, axiom, sorry.
-/
import Derived.Test.YtlleofjjdhfgcaaGreatDoorRows
import GoSem.ClaimSeven
namespace Go.Proofs.YtlleofjjdhfgcaaGreatDoor
namespace Rows

/-- THE TIED CARD OF 'censuslaw45.HashMeans'. -/
def hashMeansCard : Claim7 := { stood := { row := hashMeansRow, standIns := [], harness := (true, "e10f979341d911ce589d7d278f4a5550de3dbc2f3dbb7a1f2b4b1265b2a7beb5"), looks := true }, kinds := [], alts := [], laidByText := true, laidKinds := [.data, .data, .data, .data], laidTests := true, laidLooks := .later }
def HashMeansCardSaid : Prop := Claim7.holds Tryz.pinned (.plain (OpenSpec.ofChange hashMeansSpec)) hashMeansCard

/-- THE TIED CARD OF 'censuslaw45.HashBounds'. -/
def hashBoundsCard : Claim7 := { stood := { row := hashBoundsRow, standIns := [], harness := (true, "e10f979341d911ce589d7d278f4a5550de3dbc2f3dbb7a1f2b4b1265b2a7beb5"), looks := true }, kinds := [], alts := [], laidByText := true, laidKinds := [.data, .data, .data, .data], laidTests := true, laidLooks := .later }
def HashBoundsCardSaid : Prop := Claim7.holds Tryz.pinned (.plain (OpenSpec.ofChange hashBoundsSpec)) hashBoundsCard

/-- THE TIED CARD OF 'censuslaw45.HashAdds'. -/
def hashAddsCard : Claim7 := { stood := { row := hashAddsRow, standIns := [], harness := (true, "e10f979341d911ce589d7d278f4a5550de3dbc2f3dbb7a1f2b4b1265b2a7beb5"), looks := true }, kinds := [], alts := [], laidByText := true, laidKinds := [.data, .data, .data], laidTests := true, laidLooks := .later }
def HashAddsCardSaid : Prop := Claim7.holds Tryz.pinned (.plain (OpenSpec.ofChange hashAddsSpec)) hashAddsCard

/-- THE TIED CARD OF 'censuslaw45.HashCells'. -/
def hashCellsCard : Claim7 := { stood := { row := hashCellsRow, standIns := [], harness := (true, "e10f979341d911ce589d7d278f4a5550de3dbc2f3dbb7a1f2b4b1265b2a7beb5"), looks := true }, kinds := [], alts := [], laidByText := true, laidKinds := [.data, .data, .data], laidTests := true, laidLooks := .later }
def HashCellsCardSaid : Prop := Claim7.holds Tryz.pinned (.plain (OpenSpec.ofChange hashCellsSpec)) hashCellsCard

/-- THE TIED CARD OF 'censuslaw45.HashEstimates'. -/
def hashEstimatesCard : Claim7 := { stood := { row := hashEstimatesRow, standIns := [], harness := (true, "e10f979341d911ce589d7d278f4a5550de3dbc2f3dbb7a1f2b4b1265b2a7beb5"), looks := true }, kinds := [], alts := [], laidByText := true, laidKinds := [.data, .data, .data], laidTests := true, laidLooks := .later }
def HashEstimatesCardSaid : Prop := Claim7.holds Tryz.pinned (.plain (OpenSpec.ofChange hashEstimatesSpec)) hashEstimatesCard

/-- THE TIED CARD OF 'censuslaw45.HashMedians'. -/
def hashMediansCard : Claim7 := { stood := { row := hashMediansRow, standIns := [], harness := (true, "e10f979341d911ce589d7d278f4a5550de3dbc2f3dbb7a1f2b4b1265b2a7beb5"), looks := true }, kinds := [], alts := [], laidByText := true, laidKinds := [.data, .data, .data], laidTests := true, laidLooks := .later }
def HashMediansCardSaid : Prop := Claim7.holds Tryz.pinned (.plain (OpenSpec.ofChange hashMediansSpec)) hashMediansCard

/-- THE SECOND FORM's CARD OF 'censuslaw45.HashMeans'. -/
def hashMeansUptoCard : Claim7 := { stood := { row := hashMeansUptoRow, standIns := [], harness := (true, "e10f979341d911ce589d7d278f4a5550de3dbc2f3dbb7a1f2b4b1265b2a7beb5"), looks := true }, kinds := [], alts := [], laidByText := true, laidKinds := [.data, .data, .data, .data], laidTests := true, laidLooks := .later }
def HashMeansUptoCardSaid : Prop := Claim7.holds Tryz.pinned (.plain (OpenSpec.upto hashMeansSpec)) hashMeansUptoCard

/-- THE SECOND FORM's CARD OF 'censuslaw45.HashBounds'. -/
def hashBoundsUptoCard : Claim7 := { stood := { row := hashBoundsUptoRow, standIns := [], harness := (true, "e10f979341d911ce589d7d278f4a5550de3dbc2f3dbb7a1f2b4b1265b2a7beb5"), looks := true }, kinds := [], alts := [], laidByText := true, laidKinds := [.data, .data, .data, .data], laidTests := true, laidLooks := .later }
def HashBoundsUptoCardSaid : Prop := Claim7.holds Tryz.pinned (.plain (OpenSpec.upto hashBoundsSpec)) hashBoundsUptoCard

/-- THE SECOND FORM's CARD OF 'censuslaw45.HashAdds'. -/
def hashAddsUptoCard : Claim7 := { stood := { row := hashAddsUptoRow, standIns := [], harness := (true, "e10f979341d911ce589d7d278f4a5550de3dbc2f3dbb7a1f2b4b1265b2a7beb5"), looks := true }, kinds := [], alts := [], laidByText := true, laidKinds := [.data, .data, .data], laidTests := true, laidLooks := .later }
def HashAddsUptoCardSaid : Prop := Claim7.holds Tryz.pinned (.plain (OpenSpec.upto hashAddsSpec)) hashAddsUptoCard

/-- THE SECOND FORM's CARD OF 'censuslaw45.HashCells'. -/
def hashCellsUptoCard : Claim7 := { stood := { row := hashCellsUptoRow, standIns := [], harness := (true, "e10f979341d911ce589d7d278f4a5550de3dbc2f3dbb7a1f2b4b1265b2a7beb5"), looks := true }, kinds := [], alts := [], laidByText := true, laidKinds := [.data, .data, .data], laidTests := true, laidLooks := .later }
def HashCellsUptoCardSaid : Prop := Claim7.holds Tryz.pinned (.plain (OpenSpec.upto hashCellsSpec)) hashCellsUptoCard

/-- THE SECOND FORM's CARD OF 'censuslaw45.HashEstimates'. -/
def hashEstimatesUptoCard : Claim7 := { stood := { row := hashEstimatesUptoRow, standIns := [], harness := (true, "e10f979341d911ce589d7d278f4a5550de3dbc2f3dbb7a1f2b4b1265b2a7beb5"), looks := true }, kinds := [], alts := [], laidByText := true, laidKinds := [.data, .data, .data], laidTests := true, laidLooks := .later }
def HashEstimatesUptoCardSaid : Prop := Claim7.holds Tryz.pinned (.plain (OpenSpec.upto hashEstimatesSpec)) hashEstimatesUptoCard

/-- THE SECOND FORM's CARD OF 'censuslaw45.HashMedians'. -/
def hashMediansUptoCard : Claim7 := { stood := { row := hashMediansUptoRow, standIns := [], harness := (true, "e10f979341d911ce589d7d278f4a5550de3dbc2f3dbb7a1f2b4b1265b2a7beb5"), looks := true }, kinds := [], alts := [], laidByText := true, laidKinds := [.data, .data, .data], laidTests := true, laidLooks := .later }
def HashMediansUptoCardSaid : Prop := Claim7.holds Tryz.pinned (.plain (OpenSpec.upto hashMediansSpec)) hashMediansUptoCard
end Rows
end Go.Proofs.YtlleofjjdhfgcaaGreatDoor
