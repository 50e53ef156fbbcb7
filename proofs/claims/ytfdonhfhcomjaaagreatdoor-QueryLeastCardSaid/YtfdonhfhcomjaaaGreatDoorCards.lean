/-
  DERIVED. GIVEN WITH THE SEED: THE CARDS: each row of YtfdonhfhcomjaaaGreatDoorRows.lean that lists a variable, with what it lists TIED to the program's text (the seventh form; the later family's looks); each row that meets fmt, with fmt's text TOLD by the authors' own Lean function (tested against real Go, not proved from fmt's source: count such statements apart). THE CARD IS WHAT COUNTS. Prove the row's statement (the work); the ties are given (YtfdonhfhcomjaaaGreatDoorTie.lean); close each card by the builder's one call (the guide's Derived/Test/ToyasCard.lean, 'card_holds'). Laid BY PROGRAM, IN A SANDBOX (cutbox-door.mjs). By AI agents, Wed Nov 11 2026. No macro, syntax, notation, axiom, sorry.
-/
import Derived.Test.YtfdonhfhcomjaaaGreatDoorRows
import GoSem.ClaimSeven
namespace Go.Proofs.YtfdonhfhcomjaaaGreatDoor
namespace Rows

/-- THE TIED CARD OF 'censuslaw38.QueryFacts'. -/
def queryFactsCard : Claim7 := { stood := { row := queryFactsRow, standIns := [], harness := (true, "a9f43706c970987c0e069c91bef144d424fd05d38f22d54a2eb9f887ae7060a2"), looks := true }, kinds := [], alts := [], laidByText := true, laidKinds := [.data, .data, .data], laidTests := true, laidLooks := .later }
def QueryFactsCardSaid : Prop := Claim7.holds Tryz.pinned (.plain (OpenSpec.ofChange queryFactsSpec)) queryFactsCard

/-- THE TIED CARD OF 'censuslaw38.QueryLists'. -/
def queryListsCard : Claim7 := { stood := { row := queryListsRow, standIns := [], harness := (true, "a9f43706c970987c0e069c91bef144d424fd05d38f22d54a2eb9f887ae7060a2"), looks := true }, kinds := [], alts := [], laidByText := true, laidKinds := [.data, .data, .data], laidTests := true, laidLooks := .later }
def QueryListsCardSaid : Prop := Claim7.holds Tryz.pinned (.plain (OpenSpec.ofChange queryListsSpec)) queryListsCard

/-- THE TIED CARD OF 'censuslaw38.QueryMore'. -/
def queryMoreCard : Claim7 := { stood := { row := queryMoreRow, standIns := [], harness := (true, "a9f43706c970987c0e069c91bef144d424fd05d38f22d54a2eb9f887ae7060a2"), looks := true }, kinds := [], alts := [], laidByText := true, laidKinds := [.data, .data, .data], laidTests := true, laidLooks := .later }
def QueryMoreCardSaid : Prop := Claim7.holds Tryz.pinned (.plain (OpenSpec.ofChange queryMoreSpec)) queryMoreCard

/-- THE TIED CARD OF 'censuslaw38.QueryPairs'. -/
def queryPairsCard : Claim7 := { stood := { row := queryPairsRow, standIns := [], harness := (true, "a9f43706c970987c0e069c91bef144d424fd05d38f22d54a2eb9f887ae7060a2"), looks := true }, kinds := [], alts := [], laidByText := true, laidKinds := [.data, .data, .data], laidTests := true, laidLooks := .later }
def QueryPairsCardSaid : Prop := Claim7.holds Tryz.pinned (.plain (OpenSpec.ofChange queryPairsSpec)) queryPairsCard

/-- THE TIED CARD OF 'censuslaw38.QuerySides'. -/
def querySidesCard : Claim7 := { stood := { row := querySidesRow, standIns := [], harness := (true, "a9f43706c970987c0e069c91bef144d424fd05d38f22d54a2eb9f887ae7060a2"), looks := true }, kinds := [], alts := [], laidByText := true, laidKinds := [.data, .data, .data], laidTests := true, laidLooks := .later }
def QuerySidesCardSaid : Prop := Claim7.holds Tryz.pinned (.plain (OpenSpec.ofChange querySidesSpec)) querySidesCard

/-- THE TIED CARD OF 'censuslaw38.QueryLeast'. -/
def queryLeastCard : Claim7 := { stood := { row := queryLeastRow, standIns := [], harness := (true, "a9f43706c970987c0e069c91bef144d424fd05d38f22d54a2eb9f887ae7060a2"), looks := true }, kinds := [], alts := [], laidByText := true, laidKinds := [.data, .data, .data], laidTests := true, laidLooks := .later }
def QueryLeastCardSaid : Prop := Claim7.holds Tryz.pinned (.plain (OpenSpec.ofChange queryLeastSpec)) queryLeastCard

/-- THE TIED CARD OF 'censuslaw38.QueryCounts'. -/
def queryCountsCard : Claim7 := { stood := { row := queryCountsRow, standIns := [], harness := (true, "a9f43706c970987c0e069c91bef144d424fd05d38f22d54a2eb9f887ae7060a2"), looks := true }, kinds := [], alts := [], laidByText := true, laidKinds := [.data, .data, .data], laidTests := true, laidLooks := .later }
def QueryCountsCardSaid : Prop := Claim7.holds Tryz.pinned (.plain (OpenSpec.ofChange queryCountsSpec)) queryCountsCard

/-- THE TIED CARD OF 'censuslaw38.QueryTheories'. -/
def queryTheoriesCard : Claim7 := { stood := { row := queryTheoriesRow, standIns := [], harness := (true, "a9f43706c970987c0e069c91bef144d424fd05d38f22d54a2eb9f887ae7060a2"), looks := true }, kinds := [], alts := [], laidByText := true, laidKinds := [.data, .data, .data], laidTests := true, laidLooks := .later }
def QueryTheoriesCardSaid : Prop := Claim7.holds Tryz.pinned (.plain (OpenSpec.ofChange queryTheoriesSpec)) queryTheoriesCard

/-- THE SECOND FORM's CARD OF 'censuslaw38.QueryFacts'. -/
def queryFactsUptoCard : Claim7 := { stood := { row := queryFactsUptoRow, standIns := [], harness := (true, "a9f43706c970987c0e069c91bef144d424fd05d38f22d54a2eb9f887ae7060a2"), looks := true }, kinds := [], alts := [], laidByText := true, laidKinds := [.data, .data, .data], laidTests := true, laidLooks := .later }
def QueryFactsUptoCardSaid : Prop := Claim7.holds Tryz.pinned (.plain (OpenSpec.upto queryFactsSpec)) queryFactsUptoCard

/-- THE SECOND FORM's CARD OF 'censuslaw38.QueryLists'. -/
def queryListsUptoCard : Claim7 := { stood := { row := queryListsUptoRow, standIns := [], harness := (true, "a9f43706c970987c0e069c91bef144d424fd05d38f22d54a2eb9f887ae7060a2"), looks := true }, kinds := [], alts := [], laidByText := true, laidKinds := [.data, .data, .data], laidTests := true, laidLooks := .later }
def QueryListsUptoCardSaid : Prop := Claim7.holds Tryz.pinned (.plain (OpenSpec.upto queryListsSpec)) queryListsUptoCard

/-- THE SECOND FORM's CARD OF 'censuslaw38.QueryMore'. -/
def queryMoreUptoCard : Claim7 := { stood := { row := queryMoreUptoRow, standIns := [], harness := (true, "a9f43706c970987c0e069c91bef144d424fd05d38f22d54a2eb9f887ae7060a2"), looks := true }, kinds := [], alts := [], laidByText := true, laidKinds := [.data, .data, .data], laidTests := true, laidLooks := .later }
def QueryMoreUptoCardSaid : Prop := Claim7.holds Tryz.pinned (.plain (OpenSpec.upto queryMoreSpec)) queryMoreUptoCard

/-- THE SECOND FORM's CARD OF 'censuslaw38.QueryPairs'. -/
def queryPairsUptoCard : Claim7 := { stood := { row := queryPairsUptoRow, standIns := [], harness := (true, "a9f43706c970987c0e069c91bef144d424fd05d38f22d54a2eb9f887ae7060a2"), looks := true }, kinds := [], alts := [], laidByText := true, laidKinds := [.data, .data, .data], laidTests := true, laidLooks := .later }
def QueryPairsUptoCardSaid : Prop := Claim7.holds Tryz.pinned (.plain (OpenSpec.upto queryPairsSpec)) queryPairsUptoCard

/-- THE SECOND FORM's CARD OF 'censuslaw38.QuerySides'. -/
def querySidesUptoCard : Claim7 := { stood := { row := querySidesUptoRow, standIns := [], harness := (true, "a9f43706c970987c0e069c91bef144d424fd05d38f22d54a2eb9f887ae7060a2"), looks := true }, kinds := [], alts := [], laidByText := true, laidKinds := [.data, .data, .data], laidTests := true, laidLooks := .later }
def QuerySidesUptoCardSaid : Prop := Claim7.holds Tryz.pinned (.plain (OpenSpec.upto querySidesSpec)) querySidesUptoCard

/-- THE SECOND FORM's CARD OF 'censuslaw38.QueryLeast'. -/
def queryLeastUptoCard : Claim7 := { stood := { row := queryLeastUptoRow, standIns := [], harness := (true, "a9f43706c970987c0e069c91bef144d424fd05d38f22d54a2eb9f887ae7060a2"), looks := true }, kinds := [], alts := [], laidByText := true, laidKinds := [.data, .data, .data], laidTests := true, laidLooks := .later }
def QueryLeastUptoCardSaid : Prop := Claim7.holds Tryz.pinned (.plain (OpenSpec.upto queryLeastSpec)) queryLeastUptoCard

/-- THE SECOND FORM's CARD OF 'censuslaw38.QueryCounts'. -/
def queryCountsUptoCard : Claim7 := { stood := { row := queryCountsUptoRow, standIns := [], harness := (true, "a9f43706c970987c0e069c91bef144d424fd05d38f22d54a2eb9f887ae7060a2"), looks := true }, kinds := [], alts := [], laidByText := true, laidKinds := [.data, .data, .data], laidTests := true, laidLooks := .later }
def QueryCountsUptoCardSaid : Prop := Claim7.holds Tryz.pinned (.plain (OpenSpec.upto queryCountsSpec)) queryCountsUptoCard

/-- THE SECOND FORM's CARD OF 'censuslaw38.QueryTheories'. -/
def queryTheoriesUptoCard : Claim7 := { stood := { row := queryTheoriesUptoRow, standIns := [], harness := (true, "a9f43706c970987c0e069c91bef144d424fd05d38f22d54a2eb9f887ae7060a2"), looks := true }, kinds := [], alts := [], laidByText := true, laidKinds := [.data, .data, .data], laidTests := true, laidLooks := .later }
def QueryTheoriesUptoCardSaid : Prop := Claim7.holds Tryz.pinned (.plain (OpenSpec.upto queryTheoriesSpec)) queryTheoriesUptoCard
end Rows
end Go.Proofs.YtfdonhfhcomjaaaGreatDoor
