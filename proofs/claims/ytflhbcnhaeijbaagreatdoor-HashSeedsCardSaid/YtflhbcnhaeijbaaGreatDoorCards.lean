/-
  DERIVED. GIVEN WITH THE SEED: THE CARDS: each row of YtflhbcnhaeijbaaGreatDoorRows.lean that lists a variable, with what it lists TIED to the program's text (the seventh form; the later family's looks); each row that meets fmt, with fmt's text TOLD by the authors' own Lean function (tested against real Go, not proved from fmt's source: count such statements apart). THE CARD IS WHAT COUNTS. Prove the row's statement (the work); the ties are given (YtflhbcnhaeijbaaGreatDoorTie.lean); close each card by the builder's one call (the guide's Derived/Test/ToyasCard.lean, 'card_holds'). Laid BY PROGRAM, IN A SANDBOX (cutbox-door.mjs). By AI agents, Wed Nov 11 2026. No macro, syntax, notation, axiom, sorry.
-/
import Derived.Test.YtflhbcnhaeijbaaGreatDoorRows
import GoSem.ClaimSeven
namespace Go.Proofs.YtflhbcnhaeijbaaGreatDoor
namespace Rows

/-- THE TIED CARD OF 'censuslaw45.HashSeeds'. -/
def hashSeedsCard : Claim7 := { stood := { row := hashSeedsRow, standIns := [], harness := (true, "2275053241a6e81a13d0700730c9d32eec1fe74bf0b1373ab9206dc3f2d14bf8"), looks := true }, kinds := [], alts := [], laidByText := true, laidKinds := [.data, .data, .data], laidTests := true, laidLooks := .later }
def HashSeedsCardSaid : Prop := Claim7.holds Tryz.pinned (.plain (OpenSpec.ofChange hashSeedsSpec)) hashSeedsCard

/-- THE TIED CARD OF 'censuslaw45.HashKnown'. -/
def hashKnownCard : Claim7 := { stood := { row := hashKnownRow, standIns := [], harness := (true, "2275053241a6e81a13d0700730c9d32eec1fe74bf0b1373ab9206dc3f2d14bf8"), looks := true }, kinds := [], alts := [], laidByText := true, laidKinds := [.data, .data, .data], laidTests := true, laidLooks := .later }
def HashKnownCardSaid : Prop := Claim7.holds Tryz.pinned (.plain (OpenSpec.ofChange hashKnownSpec)) hashKnownCard

/-- THE SECOND FORM's CARD OF 'censuslaw45.HashSeeds'. -/
def hashSeedsUptoCard : Claim7 := { stood := { row := hashSeedsUptoRow, standIns := [], harness := (true, "2275053241a6e81a13d0700730c9d32eec1fe74bf0b1373ab9206dc3f2d14bf8"), looks := true }, kinds := [], alts := [], laidByText := true, laidKinds := [.data, .data, .data], laidTests := true, laidLooks := .later }
def HashSeedsUptoCardSaid : Prop := Claim7.holds Tryz.pinned (.plain (OpenSpec.upto hashSeedsSpec)) hashSeedsUptoCard

/-- THE SECOND FORM's CARD OF 'censuslaw45.HashKnown'. -/
def hashKnownUptoCard : Claim7 := { stood := { row := hashKnownUptoRow, standIns := [], harness := (true, "2275053241a6e81a13d0700730c9d32eec1fe74bf0b1373ab9206dc3f2d14bf8"), looks := true }, kinds := [], alts := [], laidByText := true, laidKinds := [.data, .data, .data], laidTests := true, laidLooks := .later }
def HashKnownUptoCardSaid : Prop := Claim7.holds Tryz.pinned (.plain (OpenSpec.upto hashKnownSpec)) hashKnownUptoCard
end Rows
end Go.Proofs.YtflhbcnhaeijbaaGreatDoor
