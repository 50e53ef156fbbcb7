/-
  DERIVED. GIVEN WITH THE SEED: THE CARDS: each row of YtkaojolofaanfaaGreatDoorRows.lean that lists a variable, with what it lists TIED to the program's text (the seventh form; the later family's looks); each row that meets fmt, with fmt's text TOLD by the authors' own Lean function (tested against real Go, not proved from fmt's source: count such statements apart). THE CARD IS WHAT COUNTS. Prove the row's statement (the work); the ties are given (YtkaojolofaanfaaGreatDoorTie.lean); close each card by the builder's one call (the guide's Derived/Test/ToyasCard.lean, 'card_holds'). Laid BY PROGRAM, IN A SANDBOX (cutbox-door.mjs). By AI agents, Wed Nov 11 2026. No macro, syntax, notation, axiom, sorry.
-/
import Derived.Test.YtkaojolofaanfaaGreatDoorRows
import GoSem.ClaimSeven
namespace Go.Proofs.YtkaojolofaanfaaGreatDoor
namespace Rows

/-- THE TIED CARD OF 'censuslaw38.QueryCounts'. -/
def queryCountsCard : Claim7 := { stood := { row := queryCountsRow, standIns := [], harness := (true, "e81533f6c986c1ab1d0b6e2161312ec05acb7ce0efe5b85dd1cadb70c795efc0"), looks := true }, kinds := [], alts := [], laidByText := true, laidKinds := [.data, .data, .data], laidTests := true, laidLooks := .later }
def QueryCountsCardSaid : Prop := Claim7.holds Tryz.pinned (.plain (OpenSpec.ofChange queryCountsSpec)) queryCountsCard

/-- THE TIED CARD OF 'censuslaw24.CompileErrors'. -/
def compileErrorsCard : Claim7 := { stood := { row := compileErrorsRow, standIns := [], harness := (true, "e81533f6c986c1ab1d0b6e2161312ec05acb7ce0efe5b85dd1cadb70c795efc0"), looks := true }, kinds := [], alts := [], laidByText := true, laidKinds := [.data, .data, .data], laidTests := true, laidLooks := .later }
def CompileErrorsCardSaid : Prop := Claim7.holds Tryz.pinned (.plain (OpenSpec.ofChange compileErrorsSpec)) compileErrorsCard

/-- THE TIED CARD OF 'censuslaw24.CompileModels'. -/
def compileModelsCard : Claim7 := { stood := { row := compileModelsRow, standIns := [], harness := (true, "e81533f6c986c1ab1d0b6e2161312ec05acb7ce0efe5b85dd1cadb70c795efc0"), looks := true }, kinds := [], alts := [], laidByText := true, laidKinds := [.data, .data, .data], laidTests := true, laidLooks := .later }
def CompileModelsCardSaid : Prop := Claim7.holds Tryz.pinned (.plain (OpenSpec.ofChange compileModelsSpec)) compileModelsCard

/-- THE TIED CARD OF 'censuslaw24.CompileProves'. -/
def compileProvesCard : Claim7 := { stood := { row := compileProvesRow, standIns := [], harness := (true, "e81533f6c986c1ab1d0b6e2161312ec05acb7ce0efe5b85dd1cadb70c795efc0"), looks := true }, kinds := [], alts := [], laidByText := true, laidKinds := [.data, .data, .data], laidTests := true, laidLooks := .later }
def CompileProvesCardSaid : Prop := Claim7.holds Tryz.pinned (.plain (OpenSpec.ofChange compileProvesSpec)) compileProvesCard

/-- THE TIED CARD OF 'censuslaw24.CompileShares'. -/
def compileSharesCard : Claim7 := { stood := { row := compileSharesRow, standIns := [], harness := (true, "e81533f6c986c1ab1d0b6e2161312ec05acb7ce0efe5b85dd1cadb70c795efc0"), looks := true }, kinds := [], alts := [], laidByText := true, laidKinds := [.data, .data, .data], laidTests := true, laidLooks := .later }
def CompileSharesCardSaid : Prop := Claim7.holds Tryz.pinned (.plain (OpenSpec.ofChange compileSharesSpec)) compileSharesCard

/-- THE TIED CARD OF 'censuslaw24.CompileOwn'. -/
def compileOwnCard : Claim7 := { stood := { row := compileOwnRow, standIns := [], harness := (true, "e81533f6c986c1ab1d0b6e2161312ec05acb7ce0efe5b85dd1cadb70c795efc0"), looks := true }, kinds := [], alts := [], laidByText := true, laidKinds := [.data, .data, .data], laidTests := true, laidLooks := .later }
def CompileOwnCardSaid : Prop := Claim7.holds Tryz.pinned (.plain (OpenSpec.ofChange compileOwnSpec)) compileOwnCard

/-- THE TIED CARD OF 'censuslaw24.CompileKnown'. -/
def compileKnownCard : Claim7 := { stood := { row := compileKnownRow, standIns := [], harness := (true, "e81533f6c986c1ab1d0b6e2161312ec05acb7ce0efe5b85dd1cadb70c795efc0"), looks := true }, kinds := [], alts := [], laidByText := true, laidKinds := [.data, .data, .data], laidTests := true, laidLooks := .later }
def CompileKnownCardSaid : Prop := Claim7.holds Tryz.pinned (.plain (OpenSpec.ofChange compileKnownSpec)) compileKnownCard

/-- THE TIED CARD OF 'censuslaw24.CompileOrders'. -/
def compileOrdersCard : Claim7 := { stood := { row := compileOrdersRow, standIns := [], harness := (true, "e81533f6c986c1ab1d0b6e2161312ec05acb7ce0efe5b85dd1cadb70c795efc0"), looks := true }, kinds := [], alts := [], laidByText := true, laidKinds := [.data, .data, .data], laidTests := true, laidLooks := .later }
def CompileOrdersCardSaid : Prop := Claim7.holds Tryz.pinned (.plain (OpenSpec.ofChange compileOrdersSpec)) compileOrdersCard

/-- THE TIED CARD OF 'censuslaw24.CompileOptions'. -/
def compileOptionsCard : Claim7 := { stood := { row := compileOptionsRow, standIns := [], harness := (true, "e81533f6c986c1ab1d0b6e2161312ec05acb7ce0efe5b85dd1cadb70c795efc0"), looks := true }, kinds := [], alts := [], laidByText := true, laidKinds := [.data, .data, .data], laidTests := true, laidLooks := .later }
def CompileOptionsCardSaid : Prop := Claim7.holds Tryz.pinned (.plain (OpenSpec.ofChange compileOptionsSpec)) compileOptionsCard

/-- THE TIED CARD OF 'censuslaw24.CompileWide'. -/
def compileWideCard : Claim7 := { stood := { row := compileWideRow, standIns := [], harness := (true, "e81533f6c986c1ab1d0b6e2161312ec05acb7ce0efe5b85dd1cadb70c795efc0"), looks := true }, kinds := [], alts := [], laidByText := true, laidKinds := [.data, .data, .data], laidTests := true, laidLooks := .later }
def CompileWideCardSaid : Prop := Claim7.holds Tryz.pinned (.plain (OpenSpec.ofChange compileWideSpec)) compileWideCard

/-- THE TIED CARD OF 'censuslaw24.CompileShapes'. -/
def compileShapesCard : Claim7 := { stood := { row := compileShapesRow, standIns := [], harness := (true, "e81533f6c986c1ab1d0b6e2161312ec05acb7ce0efe5b85dd1cadb70c795efc0"), looks := true }, kinds := [], alts := [], laidByText := true, laidKinds := [.data, .data, .data], laidTests := true, laidLooks := .later }
def CompileShapesCardSaid : Prop := Claim7.holds Tryz.pinned (.plain (OpenSpec.ofChange compileShapesSpec)) compileShapesCard

/-- THE TIED CARD OF 'censuslaw24.CompileFull'. -/
def compileFullCard : Claim7 := { stood := { row := compileFullRow, standIns := [], harness := (true, "e81533f6c986c1ab1d0b6e2161312ec05acb7ce0efe5b85dd1cadb70c795efc0"), looks := true }, kinds := [], alts := [], laidByText := true, laidKinds := [.data, .data, .data], laidTests := true, laidLooks := .later }
def CompileFullCardSaid : Prop := Claim7.holds Tryz.pinned (.plain (OpenSpec.ofChange compileFullSpec)) compileFullCard

/-- THE SECOND FORM's CARD OF 'censuslaw38.QueryCounts'. -/
def queryCountsUptoCard : Claim7 := { stood := { row := queryCountsUptoRow, standIns := [], harness := (true, "e81533f6c986c1ab1d0b6e2161312ec05acb7ce0efe5b85dd1cadb70c795efc0"), looks := true }, kinds := [], alts := [], laidByText := true, laidKinds := [.data, .data, .data], laidTests := true, laidLooks := .later }
def QueryCountsUptoCardSaid : Prop := Claim7.holds Tryz.pinned (.plain (OpenSpec.upto queryCountsSpec)) queryCountsUptoCard

/-- THE SECOND FORM's CARD OF 'censuslaw24.CompileErrors'. -/
def compileErrorsUptoCard : Claim7 := { stood := { row := compileErrorsUptoRow, standIns := [], harness := (true, "e81533f6c986c1ab1d0b6e2161312ec05acb7ce0efe5b85dd1cadb70c795efc0"), looks := true }, kinds := [], alts := [], laidByText := true, laidKinds := [.data, .data, .data], laidTests := true, laidLooks := .later }
def CompileErrorsUptoCardSaid : Prop := Claim7.holds Tryz.pinned (.plain (OpenSpec.upto compileErrorsSpec)) compileErrorsUptoCard

/-- THE SECOND FORM's CARD OF 'censuslaw24.CompileModels'. -/
def compileModelsUptoCard : Claim7 := { stood := { row := compileModelsUptoRow, standIns := [], harness := (true, "e81533f6c986c1ab1d0b6e2161312ec05acb7ce0efe5b85dd1cadb70c795efc0"), looks := true }, kinds := [], alts := [], laidByText := true, laidKinds := [.data, .data, .data], laidTests := true, laidLooks := .later }
def CompileModelsUptoCardSaid : Prop := Claim7.holds Tryz.pinned (.plain (OpenSpec.upto compileModelsSpec)) compileModelsUptoCard

/-- THE SECOND FORM's CARD OF 'censuslaw24.CompileProves'. -/
def compileProvesUptoCard : Claim7 := { stood := { row := compileProvesUptoRow, standIns := [], harness := (true, "e81533f6c986c1ab1d0b6e2161312ec05acb7ce0efe5b85dd1cadb70c795efc0"), looks := true }, kinds := [], alts := [], laidByText := true, laidKinds := [.data, .data, .data], laidTests := true, laidLooks := .later }
def CompileProvesUptoCardSaid : Prop := Claim7.holds Tryz.pinned (.plain (OpenSpec.upto compileProvesSpec)) compileProvesUptoCard

/-- THE SECOND FORM's CARD OF 'censuslaw24.CompileShares'. -/
def compileSharesUptoCard : Claim7 := { stood := { row := compileSharesUptoRow, standIns := [], harness := (true, "e81533f6c986c1ab1d0b6e2161312ec05acb7ce0efe5b85dd1cadb70c795efc0"), looks := true }, kinds := [], alts := [], laidByText := true, laidKinds := [.data, .data, .data], laidTests := true, laidLooks := .later }
def CompileSharesUptoCardSaid : Prop := Claim7.holds Tryz.pinned (.plain (OpenSpec.upto compileSharesSpec)) compileSharesUptoCard

/-- THE SECOND FORM's CARD OF 'censuslaw24.CompileOwn'. -/
def compileOwnUptoCard : Claim7 := { stood := { row := compileOwnUptoRow, standIns := [], harness := (true, "e81533f6c986c1ab1d0b6e2161312ec05acb7ce0efe5b85dd1cadb70c795efc0"), looks := true }, kinds := [], alts := [], laidByText := true, laidKinds := [.data, .data, .data], laidTests := true, laidLooks := .later }
def CompileOwnUptoCardSaid : Prop := Claim7.holds Tryz.pinned (.plain (OpenSpec.upto compileOwnSpec)) compileOwnUptoCard

/-- THE SECOND FORM's CARD OF 'censuslaw24.CompileKnown'. -/
def compileKnownUptoCard : Claim7 := { stood := { row := compileKnownUptoRow, standIns := [], harness := (true, "e81533f6c986c1ab1d0b6e2161312ec05acb7ce0efe5b85dd1cadb70c795efc0"), looks := true }, kinds := [], alts := [], laidByText := true, laidKinds := [.data, .data, .data], laidTests := true, laidLooks := .later }
def CompileKnownUptoCardSaid : Prop := Claim7.holds Tryz.pinned (.plain (OpenSpec.upto compileKnownSpec)) compileKnownUptoCard

/-- THE SECOND FORM's CARD OF 'censuslaw24.CompileOrders'. -/
def compileOrdersUptoCard : Claim7 := { stood := { row := compileOrdersUptoRow, standIns := [], harness := (true, "e81533f6c986c1ab1d0b6e2161312ec05acb7ce0efe5b85dd1cadb70c795efc0"), looks := true }, kinds := [], alts := [], laidByText := true, laidKinds := [.data, .data, .data], laidTests := true, laidLooks := .later }
def CompileOrdersUptoCardSaid : Prop := Claim7.holds Tryz.pinned (.plain (OpenSpec.upto compileOrdersSpec)) compileOrdersUptoCard

/-- THE SECOND FORM's CARD OF 'censuslaw24.CompileOptions'. -/
def compileOptionsUptoCard : Claim7 := { stood := { row := compileOptionsUptoRow, standIns := [], harness := (true, "e81533f6c986c1ab1d0b6e2161312ec05acb7ce0efe5b85dd1cadb70c795efc0"), looks := true }, kinds := [], alts := [], laidByText := true, laidKinds := [.data, .data, .data], laidTests := true, laidLooks := .later }
def CompileOptionsUptoCardSaid : Prop := Claim7.holds Tryz.pinned (.plain (OpenSpec.upto compileOptionsSpec)) compileOptionsUptoCard

/-- THE SECOND FORM's CARD OF 'censuslaw24.CompileWide'. -/
def compileWideUptoCard : Claim7 := { stood := { row := compileWideUptoRow, standIns := [], harness := (true, "e81533f6c986c1ab1d0b6e2161312ec05acb7ce0efe5b85dd1cadb70c795efc0"), looks := true }, kinds := [], alts := [], laidByText := true, laidKinds := [.data, .data, .data], laidTests := true, laidLooks := .later }
def CompileWideUptoCardSaid : Prop := Claim7.holds Tryz.pinned (.plain (OpenSpec.upto compileWideSpec)) compileWideUptoCard

/-- THE SECOND FORM's CARD OF 'censuslaw24.CompileShapes'. -/
def compileShapesUptoCard : Claim7 := { stood := { row := compileShapesUptoRow, standIns := [], harness := (true, "e81533f6c986c1ab1d0b6e2161312ec05acb7ce0efe5b85dd1cadb70c795efc0"), looks := true }, kinds := [], alts := [], laidByText := true, laidKinds := [.data, .data, .data], laidTests := true, laidLooks := .later }
def CompileShapesUptoCardSaid : Prop := Claim7.holds Tryz.pinned (.plain (OpenSpec.upto compileShapesSpec)) compileShapesUptoCard

/-- THE SECOND FORM's CARD OF 'censuslaw24.CompileFull'. -/
def compileFullUptoCard : Claim7 := { stood := { row := compileFullUptoRow, standIns := [], harness := (true, "e81533f6c986c1ab1d0b6e2161312ec05acb7ce0efe5b85dd1cadb70c795efc0"), looks := true }, kinds := [], alts := [], laidByText := true, laidKinds := [.data, .data, .data], laidTests := true, laidLooks := .later }
def CompileFullUptoCardSaid : Prop := Claim7.holds Tryz.pinned (.plain (OpenSpec.upto compileFullSpec)) compileFullUptoCard
end Rows
end Go.Proofs.YtkaojolofaanfaaGreatDoor
