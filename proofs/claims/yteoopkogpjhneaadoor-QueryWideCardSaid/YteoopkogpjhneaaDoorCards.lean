/-
  DERIVED. GIVEN WITH THE SEED: THE CARDS: each row of YteoopkogpjhneaaDoorRows.lean that lists a variable, with what it lists TIED to the program's text (the seventh form; the later family's looks); each row that meets fmt, with fmt's text TOLD by the authors' own Lean function (tested against real Go, not proved from fmt's source: count such statements apart). THE CARD IS WHAT COUNTS. Prove the row's statement (the work); the ties are given (YteoopkogpjhneaaDoorTie.lean); close each card by the builder's one call (the guide's Derived/Test/ToyasCard.lean, 'card_holds'). Laid BY PROGRAM, IN A SANDBOX (cutbox-door.mjs). By AI agents, Wed Nov 11 2026. No macro, syntax, notation, axiom, sorry.
-/
import Derived.Test.YteoopkogpjhneaaDoorRows
import GoSem.ClaimSeven
namespace Go.Proofs.YteoopkogpjhneaaDoor
namespace Rows

/-- THE TIED CARD OF 'censuslaw38.QueryWide'. -/
def queryWideCard : Claim7 := { stood := { row := queryWideRow, standIns := [], harness := (true, "76ac70cf165dd1226335417d098b14675593aae8b7c2421168703bcb30518bd2"), looks := false }, kinds := [], alts := [], laidByText := true, laidKinds := [.data, .data, .data], laidTests := true, laidLooks := .later }
def QueryWideCardSaid : Prop := Claim7.holds Tryd.pinned (.plain (OpenSpec.ofChange queryWideSpec)) queryWideCard

/-- THE TIED CARD OF 'censuslaw38.QueryKnown'. -/
def queryKnownCard : Claim7 := { stood := { row := queryKnownRow, standIns := [], harness := (true, "76ac70cf165dd1226335417d098b14675593aae8b7c2421168703bcb30518bd2"), looks := false }, kinds := [], alts := [], laidByText := true, laidKinds := [.data, .data, .data], laidTests := true, laidLooks := .later }
def QueryKnownCardSaid : Prop := Claim7.holds Tryd.pinned (.plain (OpenSpec.ofChange queryKnownSpec)) queryKnownCard

/-- THE SECOND FORM's CARD OF 'censuslaw38.QueryWide'. -/
def queryWideUptoCard : Claim7 := { stood := { row := queryWideUptoRow, standIns := [], harness := (true, "76ac70cf165dd1226335417d098b14675593aae8b7c2421168703bcb30518bd2"), looks := false }, kinds := [], alts := [], laidByText := true, laidKinds := [.data, .data, .data], laidTests := true, laidLooks := .later }
def QueryWideUptoCardSaid : Prop := Claim7.holds Tryd.pinned (.plain (OpenSpec.upto queryWideSpec)) queryWideUptoCard

/-- THE SECOND FORM's CARD OF 'censuslaw38.QueryKnown'. -/
def queryKnownUptoCard : Claim7 := { stood := { row := queryKnownUptoRow, standIns := [], harness := (true, "76ac70cf165dd1226335417d098b14675593aae8b7c2421168703bcb30518bd2"), looks := false }, kinds := [], alts := [], laidByText := true, laidKinds := [.data, .data, .data], laidTests := true, laidLooks := .later }
def QueryKnownUptoCardSaid : Prop := Claim7.holds Tryd.pinned (.plain (OpenSpec.upto queryKnownSpec)) queryKnownUptoCard
end Rows
end Go.Proofs.YteoopkogpjhneaaDoor
