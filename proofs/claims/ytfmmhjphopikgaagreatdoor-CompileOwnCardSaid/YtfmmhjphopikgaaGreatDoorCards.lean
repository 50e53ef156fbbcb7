/-
  DERIVED. GIVEN WITH THE SEED: THE CARDS: each row of YtfmmhjphopikgaaGreatDoorRows.lean that lists a variable, with what it lists TIED to the program's text (the seventh form; the later family's looks); each row that meets fmt, with fmt's text TOLD by the authors' own Lean function (tested against real Go, not proved from fmt's source: count such statements apart). THE CARD IS WHAT COUNTS. Prove the row's statement (the work); the ties are given (YtfmmhjphopikgaaGreatDoorTie.lean); close each card by the builder's one call (the guide's Derived/Test/ToyasCard.lean, 'card_holds'). Laid BY PROGRAM, IN A SANDBOX (cutbox-door.mjs). By AI agents, Wed Nov 11 2026. No macro, syntax, notation, axiom, sorry.
-/
import Derived.Test.YtfmmhjphopikgaaGreatDoorRows
import GoSem.ClaimSeven
namespace Go.Proofs.YtfmmhjphopikgaaGreatDoor
namespace Rows

/-- THE TIED CARD OF 'censuslaw24.CompileShares'. -/
def compileSharesCard : Claim7 := { stood := { row := compileSharesRow, standIns := [], harness := (true, "ba2eb3437c7b4b13415f666f0983e7e9aede4a4a0e3a6973e7710dc20aae05e4"), looks := true }, kinds := [], alts := [], laidByText := true, laidKinds := [.data, .data, .data], laidTests := true, laidLooks := .later }
def CompileSharesCardSaid : Prop := Claim7.holds Tryz.pinned (.plain (OpenSpec.ofChange compileSharesSpec)) compileSharesCard

/-- THE TIED CARD OF 'censuslaw24.CompileOwn'. -/
def compileOwnCard : Claim7 := { stood := { row := compileOwnRow, standIns := [], harness := (true, "ba2eb3437c7b4b13415f666f0983e7e9aede4a4a0e3a6973e7710dc20aae05e4"), looks := true }, kinds := [], alts := [], laidByText := true, laidKinds := [.data, .data, .data], laidTests := true, laidLooks := .later }
def CompileOwnCardSaid : Prop := Claim7.holds Tryz.pinned (.plain (OpenSpec.ofChange compileOwnSpec)) compileOwnCard

/-- THE TIED CARD OF 'censuslaw24.CompileOrders'. -/
def compileOrdersCard : Claim7 := { stood := { row := compileOrdersRow, standIns := [], harness := (true, "ba2eb3437c7b4b13415f666f0983e7e9aede4a4a0e3a6973e7710dc20aae05e4"), looks := true }, kinds := [], alts := [], laidByText := true, laidKinds := [.data, .data, .data], laidTests := true, laidLooks := .later }
def CompileOrdersCardSaid : Prop := Claim7.holds Tryz.pinned (.plain (OpenSpec.ofChange compileOrdersSpec)) compileOrdersCard

/-- THE TIED CARD OF 'censuslaw24.CompileOptions'. -/
def compileOptionsCard : Claim7 := { stood := { row := compileOptionsRow, standIns := [], harness := (true, "ba2eb3437c7b4b13415f666f0983e7e9aede4a4a0e3a6973e7710dc20aae05e4"), looks := true }, kinds := [], alts := [], laidByText := true, laidKinds := [.data, .data, .data], laidTests := true, laidLooks := .later }
def CompileOptionsCardSaid : Prop := Claim7.holds Tryz.pinned (.plain (OpenSpec.ofChange compileOptionsSpec)) compileOptionsCard

/-- THE TIED CARD OF 'censuslaw24.CompileShapes'. -/
def compileShapesCard : Claim7 := { stood := { row := compileShapesRow, standIns := [], harness := (true, "ba2eb3437c7b4b13415f666f0983e7e9aede4a4a0e3a6973e7710dc20aae05e4"), looks := true }, kinds := [], alts := [], laidByText := true, laidKinds := [.data, .data, .data], laidTests := true, laidLooks := .later }
def CompileShapesCardSaid : Prop := Claim7.holds Tryz.pinned (.plain (OpenSpec.ofChange compileShapesSpec)) compileShapesCard

/-- THE SECOND FORM's CARD OF 'censuslaw24.CompileShares'. -/
def compileSharesUptoCard : Claim7 := { stood := { row := compileSharesUptoRow, standIns := [], harness := (true, "ba2eb3437c7b4b13415f666f0983e7e9aede4a4a0e3a6973e7710dc20aae05e4"), looks := true }, kinds := [], alts := [], laidByText := true, laidKinds := [.data, .data, .data], laidTests := true, laidLooks := .later }
def CompileSharesUptoCardSaid : Prop := Claim7.holds Tryz.pinned (.plain (OpenSpec.upto compileSharesSpec)) compileSharesUptoCard

/-- THE SECOND FORM's CARD OF 'censuslaw24.CompileOwn'. -/
def compileOwnUptoCard : Claim7 := { stood := { row := compileOwnUptoRow, standIns := [], harness := (true, "ba2eb3437c7b4b13415f666f0983e7e9aede4a4a0e3a6973e7710dc20aae05e4"), looks := true }, kinds := [], alts := [], laidByText := true, laidKinds := [.data, .data, .data], laidTests := true, laidLooks := .later }
def CompileOwnUptoCardSaid : Prop := Claim7.holds Tryz.pinned (.plain (OpenSpec.upto compileOwnSpec)) compileOwnUptoCard

/-- THE SECOND FORM's CARD OF 'censuslaw24.CompileOrders'. -/
def compileOrdersUptoCard : Claim7 := { stood := { row := compileOrdersUptoRow, standIns := [], harness := (true, "ba2eb3437c7b4b13415f666f0983e7e9aede4a4a0e3a6973e7710dc20aae05e4"), looks := true }, kinds := [], alts := [], laidByText := true, laidKinds := [.data, .data, .data], laidTests := true, laidLooks := .later }
def CompileOrdersUptoCardSaid : Prop := Claim7.holds Tryz.pinned (.plain (OpenSpec.upto compileOrdersSpec)) compileOrdersUptoCard

/-- THE SECOND FORM's CARD OF 'censuslaw24.CompileOptions'. -/
def compileOptionsUptoCard : Claim7 := { stood := { row := compileOptionsUptoRow, standIns := [], harness := (true, "ba2eb3437c7b4b13415f666f0983e7e9aede4a4a0e3a6973e7710dc20aae05e4"), looks := true }, kinds := [], alts := [], laidByText := true, laidKinds := [.data, .data, .data], laidTests := true, laidLooks := .later }
def CompileOptionsUptoCardSaid : Prop := Claim7.holds Tryz.pinned (.plain (OpenSpec.upto compileOptionsSpec)) compileOptionsUptoCard

/-- THE SECOND FORM's CARD OF 'censuslaw24.CompileShapes'. -/
def compileShapesUptoCard : Claim7 := { stood := { row := compileShapesUptoRow, standIns := [], harness := (true, "ba2eb3437c7b4b13415f666f0983e7e9aede4a4a0e3a6973e7710dc20aae05e4"), looks := true }, kinds := [], alts := [], laidByText := true, laidKinds := [.data, .data, .data], laidTests := true, laidLooks := .later }
def CompileShapesUptoCardSaid : Prop := Claim7.holds Tryz.pinned (.plain (OpenSpec.upto compileShapesSpec)) compileShapesUptoCard
end Rows
end Go.Proofs.YtfmmhjphopikgaaGreatDoor
