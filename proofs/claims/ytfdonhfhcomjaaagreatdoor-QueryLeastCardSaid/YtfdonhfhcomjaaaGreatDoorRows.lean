/-
  NARROWER THAN 'FOR EVERY INPUT', by the rows' own cells (each row's printed sentence says how): QueryFacts: laid · QueryLists: laid · QueryMore: laid · QueryPairs: laid · QuerySides: laid · QueryLeast: laid · QueryCounts: laid · QueryTheories: laid.
  DERIVED. THE GIVEN ROWS OF THIS SEAT. 8 by the template 'for every input the law returns true; each argument reads behind the call as it read before'; 0 by the template 'total and deterministic' (their statements: YtfdonhfhcomjaaaGreatDoorTotals.lean).
  GIVEN WITH THE SEED: the statements are not yours to turn. If you find one false, say at which input.
  Laid BY PROGRAM, IN A SANDBOX (cutbox-rows.mjs): the forced cells as the released guide's own fill.sh prints them over the translation 4a0893a2177ec407… (all of the seat's roots in one cut). By AI agents, Wed Nov 11 2026. No macro, syntax, notation, axiom, sorry.
-/
import Derived.Test.YtfdonhfhcomjaaaGreatDoorChecked
import GoSem.Claim
import GoSem.ClaimJoined
import GoSem.ClaimMapViews
import Derived.JoinedTies
import Derived.KernelRfl
namespace Go.Proofs.YtfdonhfhcomjaaaGreatDoor
/- THE CELL 'sum', in the pinned program and in every row, IS THE sha256 OF THE DUMP (.gsa) THAT YtfdonhfhcomjaaaGreatDoorProg.lean LOADS. Nothing in Lean hashes anything: it is a label: what it is worth is what the hold of that sum in a sandbox is worth. -/
noncomputable def Tryz.pinned : Pinned := { name := "ytfdonhfhcomjaaagreatdoor", sum := "4a0893a2177ec407c122def8367570b845c16b3789a9b3e5f122fb0ef1a2173b", checked := Tryz.checked }
namespace Rows
def none {H : Type} : Left H := { results := [], args := [] }

/- WHAT THE LISTED PACKAGE-LEVEL VARIABLES READ AS WHEN THE CALL BEGINS. Each datum BY PROGRAM (the guide's laid-datum.mjs) off the statement by which the dump's own 'gosem.cut.vars' lays the variable. In a bare row this is a premise. The card (YtfdonhfhcomjaaaGreatDoorCards.lean) ties it to the program's text. -/
def laid_math_bits_deBruijn32tab {H : Type} : DataW H := .agg [.lit (.int .u8 0), .lit (.int .u8 1), .lit (.int .u8 28), .lit (.int .u8 2), .lit (.int .u8 29), .lit (.int .u8 14), .lit (.int .u8 24), .lit (.int .u8 3), .lit (.int .u8 30), .lit (.int .u8 22), .lit (.int .u8 20), .lit (.int .u8 15), .lit (.int .u8 25), .lit (.int .u8 17), .lit (.int .u8 4), .lit (.int .u8 8), .lit (.int .u8 31), .lit (.int .u8 27), .lit (.int .u8 13), .lit (.int .u8 23), .lit (.int .u8 21), .lit (.int .u8 19), .lit (.int .u8 16), .lit (.int .u8 7), .lit (.int .u8 26), .lit (.int .u8 12), .lit (.int .u8 18), .lit (.int .u8 6), .lit (.int .u8 11), .lit (.int .u8 5), .lit (.int .u8 10), .lit (.int .u8 9)]
def laid_math_bits_deBruijn64tab {H : Type} : DataW H := .agg [.lit (.int .u8 0), .lit (.int .u8 1), .lit (.int .u8 56), .lit (.int .u8 2), .lit (.int .u8 57), .lit (.int .u8 49), .lit (.int .u8 28), .lit (.int .u8 3), .lit (.int .u8 61), .lit (.int .u8 58), .lit (.int .u8 42), .lit (.int .u8 50), .lit (.int .u8 38), .lit (.int .u8 29), .lit (.int .u8 17), .lit (.int .u8 4), .lit (.int .u8 62), .lit (.int .u8 47), .lit (.int .u8 59), .lit (.int .u8 36), .lit (.int .u8 45), .lit (.int .u8 43), .lit (.int .u8 51), .lit (.int .u8 22), .lit (.int .u8 53), .lit (.int .u8 39), .lit (.int .u8 33), .lit (.int .u8 30), .lit (.int .u8 24), .lit (.int .u8 18), .lit (.int .u8 12), .lit (.int .u8 5), .lit (.int .u8 63), .lit (.int .u8 55), .lit (.int .u8 48), .lit (.int .u8 27), .lit (.int .u8 60), .lit (.int .u8 41), .lit (.int .u8 37), .lit (.int .u8 16), .lit (.int .u8 46), .lit (.int .u8 35), .lit (.int .u8 44), .lit (.int .u8 21), .lit (.int .u8 52), .lit (.int .u8 32), .lit (.int .u8 23), .lit (.int .u8 11), .lit (.int .u8 54), .lit (.int .u8 26), .lit (.int .u8 40), .lit (.int .u8 15), .lit (.int .u8 34), .lit (.int .u8 20), .lit (.int .u8 31), .lit (.int .u8 10), .lit (.int .u8 25), .lit (.int .u8 14), .lit (.int .u8 19), .lit (.int .u8 9), .lit (.int .u8 13), .lit (.int .u8 8), .lit (.int .u8 7), .lit (.int .u8 6)]
def laid_internal_strconv_uint64pow10 {H : Type} : DataW H := .agg [.lit (.int .u64 1), .lit (.int .u64 10), .lit (.int .u64 100), .lit (.int .u64 1000), .lit (.int .u64 10000), .lit (.int .u64 100000), .lit (.int .u64 1000000), .lit (.int .u64 10000000), .lit (.int .u64 100000000), .lit (.int .u64 1000000000), .lit (.int .u64 10000000000), .lit (.int .u64 100000000000), .lit (.int .u64 1000000000000), .lit (.int .u64 10000000000000), .lit (.int .u64 100000000000000), .lit (.int .u64 1000000000000000), .lit (.int .u64 10000000000000000), .lit (.int .u64 100000000000000000), .lit (.int .u64 1000000000000000000), .lit (.int .u64 10000000000000000000)]

/-- 'censuslaw38.QueryFacts': WHATEVER THE INPUT: true; the input reads as it did. -/
def queryFactsSpec : ChangeSpec := { name := "queryFacts", fn := fun _ => fun
  | [d] => { results := [.lit (.bool true)], args := [d] }
  | _ => none }
def queryFactsRow : OpenClaim := { program := "ytfdonhfhcomjaaagreatdoor", sum := "4a0893a2177ec407c122def8367570b845c16b3789a9b3e5f122fb0ef1a2173b", func := "census/censuslaw38.QueryFacts", spec := "queryFacts", inPlace := ["internal/abi.NoEscape"], unfollowed := true, recurses := true, named := ["internal/strconv.uint64pow10", "math/bits.deBruijn32tab", "math/bits.deBruijn64tab"], apart := false, laid := [("math/bits.deBruijn32tab", laid_math_bits_deBruijn32tab), ("math/bits.deBruijn64tab", laid_math_bits_deBruijn64tab), ("internal/strconv.uint64pow10", laid_internal_strconv_uint64pow10)] }
def QueryFactsSaid : Prop := queryFactsRow.holds Tryz.pinned (OpenSpec.ofChange queryFactsSpec)

/-- ITS FALSE NEIGHBOUR: 'it returns false'. Refute it at one input. -/
def queryFactsWrong : ChangeSpec := { name := "queryFacts", fn := fun _ => fun
  | [d] => { results := [.lit (.bool false)], args := [d] }
  | _ => none }
def QueryFactsWrongFalsely : Prop := queryFactsRow.holds Tryz.pinned (OpenSpec.ofChange queryFactsWrong)

/-- 'censuslaw38.QueryLists': WHATEVER THE INPUT: true; the input reads as it did. -/
def queryListsSpec : ChangeSpec := { name := "queryLists", fn := fun _ => fun
  | [d1, d2] => { results := [.lit (.bool true)], args := [d1, d2] }
  | _ => none }
def queryListsRow : OpenClaim := { program := "ytfdonhfhcomjaaagreatdoor", sum := "4a0893a2177ec407c122def8367570b845c16b3789a9b3e5f122fb0ef1a2173b", func := "census/censuslaw38.QueryLists", spec := "queryLists", inPlace := ["internal/abi.NoEscape"], unfollowed := true, recurses := true, named := ["internal/strconv.uint64pow10", "math/bits.deBruijn32tab", "math/bits.deBruijn64tab"], apart := false, laid := [("math/bits.deBruijn32tab", laid_math_bits_deBruijn32tab), ("math/bits.deBruijn64tab", laid_math_bits_deBruijn64tab), ("internal/strconv.uint64pow10", laid_internal_strconv_uint64pow10)] }
def QueryListsSaid : Prop := queryListsRow.holds Tryz.pinned (OpenSpec.ofChange queryListsSpec)

/-- ITS FALSE NEIGHBOUR: 'it returns false'. Refute it at one input. -/
def queryListsWrong : ChangeSpec := { name := "queryLists", fn := fun _ => fun
  | [d1, d2] => { results := [.lit (.bool false)], args := [d1, d2] }
  | _ => none }
def QueryListsWrongFalsely : Prop := queryListsRow.holds Tryz.pinned (OpenSpec.ofChange queryListsWrong)

/-- 'censuslaw38.QueryMore': WHATEVER THE INPUT: true; the input reads as it did. -/
def queryMoreSpec : ChangeSpec := { name := "queryMore", fn := fun _ => fun
  | [d1, d2, d3] => { results := [.lit (.bool true)], args := [d1, d2, d3] }
  | _ => none }
def queryMoreRow : OpenClaim := { program := "ytfdonhfhcomjaaagreatdoor", sum := "4a0893a2177ec407c122def8367570b845c16b3789a9b3e5f122fb0ef1a2173b", func := "census/censuslaw38.QueryMore", spec := "queryMore", inPlace := ["internal/abi.NoEscape"], unfollowed := true, recurses := true, named := ["internal/strconv.uint64pow10", "math/bits.deBruijn32tab", "math/bits.deBruijn64tab"], apart := false, laid := [("math/bits.deBruijn32tab", laid_math_bits_deBruijn32tab), ("math/bits.deBruijn64tab", laid_math_bits_deBruijn64tab), ("internal/strconv.uint64pow10", laid_internal_strconv_uint64pow10)] }
def QueryMoreSaid : Prop := queryMoreRow.holds Tryz.pinned (OpenSpec.ofChange queryMoreSpec)

/-- ITS FALSE NEIGHBOUR: 'it returns false'. Refute it at one input. -/
def queryMoreWrong : ChangeSpec := { name := "queryMore", fn := fun _ => fun
  | [d1, d2, d3] => { results := [.lit (.bool false)], args := [d1, d2, d3] }
  | _ => none }
def QueryMoreWrongFalsely : Prop := queryMoreRow.holds Tryz.pinned (OpenSpec.ofChange queryMoreWrong)

/-- 'censuslaw38.QueryPairs': WHATEVER THE INPUT: true; the input reads as it did. -/
def queryPairsSpec : ChangeSpec := { name := "queryPairs", fn := fun _ => fun
  | [d1, d2] => { results := [.lit (.bool true)], args := [d1, d2] }
  | _ => none }
def queryPairsRow : OpenClaim := { program := "ytfdonhfhcomjaaagreatdoor", sum := "4a0893a2177ec407c122def8367570b845c16b3789a9b3e5f122fb0ef1a2173b", func := "census/censuslaw38.QueryPairs", spec := "queryPairs", inPlace := ["internal/abi.NoEscape"], unfollowed := true, recurses := true, named := ["internal/strconv.uint64pow10", "math/bits.deBruijn32tab", "math/bits.deBruijn64tab"], apart := false, laid := [("math/bits.deBruijn32tab", laid_math_bits_deBruijn32tab), ("math/bits.deBruijn64tab", laid_math_bits_deBruijn64tab), ("internal/strconv.uint64pow10", laid_internal_strconv_uint64pow10)] }
def QueryPairsSaid : Prop := queryPairsRow.holds Tryz.pinned (OpenSpec.ofChange queryPairsSpec)

/-- ITS FALSE NEIGHBOUR: 'it returns false'. Refute it at one input. -/
def queryPairsWrong : ChangeSpec := { name := "queryPairs", fn := fun _ => fun
  | [d1, d2] => { results := [.lit (.bool false)], args := [d1, d2] }
  | _ => none }
def QueryPairsWrongFalsely : Prop := queryPairsRow.holds Tryz.pinned (OpenSpec.ofChange queryPairsWrong)

/-- 'censuslaw38.QuerySides': WHATEVER THE INPUT: true; the input reads as it did. -/
def querySidesSpec : ChangeSpec := { name := "querySides", fn := fun _ => fun
  | [d1, d2] => { results := [.lit (.bool true)], args := [d1, d2] }
  | _ => none }
def querySidesRow : OpenClaim := { program := "ytfdonhfhcomjaaagreatdoor", sum := "4a0893a2177ec407c122def8367570b845c16b3789a9b3e5f122fb0ef1a2173b", func := "census/censuslaw38.QuerySides", spec := "querySides", inPlace := ["internal/abi.NoEscape"], unfollowed := true, recurses := true, named := ["internal/strconv.uint64pow10", "math/bits.deBruijn32tab", "math/bits.deBruijn64tab"], apart := false, laid := [("math/bits.deBruijn32tab", laid_math_bits_deBruijn32tab), ("math/bits.deBruijn64tab", laid_math_bits_deBruijn64tab), ("internal/strconv.uint64pow10", laid_internal_strconv_uint64pow10)] }
def QuerySidesSaid : Prop := querySidesRow.holds Tryz.pinned (OpenSpec.ofChange querySidesSpec)

/-- ITS FALSE NEIGHBOUR: 'it returns false'. Refute it at one input. -/
def querySidesWrong : ChangeSpec := { name := "querySides", fn := fun _ => fun
  | [d1, d2] => { results := [.lit (.bool false)], args := [d1, d2] }
  | _ => none }
def QuerySidesWrongFalsely : Prop := querySidesRow.holds Tryz.pinned (OpenSpec.ofChange querySidesWrong)

/-- 'censuslaw38.QueryLeast': WHATEVER THE INPUT: true; the input reads as it did. -/
def queryLeastSpec : ChangeSpec := { name := "queryLeast", fn := fun _ => fun
  | [d1, d2, d3] => { results := [.lit (.bool true)], args := [d1, d2, d3] }
  | _ => none }
def queryLeastRow : OpenClaim := { program := "ytfdonhfhcomjaaagreatdoor", sum := "4a0893a2177ec407c122def8367570b845c16b3789a9b3e5f122fb0ef1a2173b", func := "census/censuslaw38.QueryLeast", spec := "queryLeast", inPlace := ["internal/abi.NoEscape"], unfollowed := true, recurses := true, named := ["internal/strconv.uint64pow10", "math/bits.deBruijn32tab", "math/bits.deBruijn64tab"], apart := false, laid := [("math/bits.deBruijn32tab", laid_math_bits_deBruijn32tab), ("math/bits.deBruijn64tab", laid_math_bits_deBruijn64tab), ("internal/strconv.uint64pow10", laid_internal_strconv_uint64pow10)] }
def QueryLeastSaid : Prop := queryLeastRow.holds Tryz.pinned (OpenSpec.ofChange queryLeastSpec)

/-- ITS FALSE NEIGHBOUR: 'it returns false'. Refute it at one input. -/
def queryLeastWrong : ChangeSpec := { name := "queryLeast", fn := fun _ => fun
  | [d1, d2, d3] => { results := [.lit (.bool false)], args := [d1, d2, d3] }
  | _ => none }
def QueryLeastWrongFalsely : Prop := queryLeastRow.holds Tryz.pinned (OpenSpec.ofChange queryLeastWrong)

/-- 'censuslaw38.QueryCounts': WHATEVER THE INPUT: true; the input reads as it did. -/
def queryCountsSpec : ChangeSpec := { name := "queryCounts", fn := fun _ => fun
  | [d] => { results := [.lit (.bool true)], args := [d] }
  | _ => none }
def queryCountsRow : OpenClaim := { program := "ytfdonhfhcomjaaagreatdoor", sum := "4a0893a2177ec407c122def8367570b845c16b3789a9b3e5f122fb0ef1a2173b", func := "census/censuslaw38.QueryCounts", spec := "queryCounts", inPlace := ["internal/abi.NoEscape"], unfollowed := true, recurses := true, named := ["internal/strconv.uint64pow10", "math/bits.deBruijn32tab", "math/bits.deBruijn64tab"], apart := false, laid := [("math/bits.deBruijn32tab", laid_math_bits_deBruijn32tab), ("math/bits.deBruijn64tab", laid_math_bits_deBruijn64tab), ("internal/strconv.uint64pow10", laid_internal_strconv_uint64pow10)] }
def QueryCountsSaid : Prop := queryCountsRow.holds Tryz.pinned (OpenSpec.ofChange queryCountsSpec)

/-- ITS FALSE NEIGHBOUR: 'it returns false'. Refute it at one input. -/
def queryCountsWrong : ChangeSpec := { name := "queryCounts", fn := fun _ => fun
  | [d] => { results := [.lit (.bool false)], args := [d] }
  | _ => none }
def QueryCountsWrongFalsely : Prop := queryCountsRow.holds Tryz.pinned (OpenSpec.ofChange queryCountsWrong)

/-- 'censuslaw38.QueryTheories': WHATEVER THE INPUT: true; the input reads as it did. -/
def queryTheoriesSpec : ChangeSpec := { name := "queryTheories", fn := fun _ => fun
  | [d1, d2] => { results := [.lit (.bool true)], args := [d1, d2] }
  | _ => none }
def queryTheoriesRow : OpenClaim := { program := "ytfdonhfhcomjaaagreatdoor", sum := "4a0893a2177ec407c122def8367570b845c16b3789a9b3e5f122fb0ef1a2173b", func := "census/censuslaw38.QueryTheories", spec := "queryTheories", inPlace := ["internal/abi.NoEscape"], unfollowed := true, recurses := true, named := ["internal/strconv.uint64pow10", "math/bits.deBruijn32tab", "math/bits.deBruijn64tab"], apart := false, laid := [("math/bits.deBruijn32tab", laid_math_bits_deBruijn32tab), ("math/bits.deBruijn64tab", laid_math_bits_deBruijn64tab), ("internal/strconv.uint64pow10", laid_internal_strconv_uint64pow10)] }
def QueryTheoriesSaid : Prop := queryTheoriesRow.holds Tryz.pinned (OpenSpec.ofChange queryTheoriesSpec)

/-- ITS FALSE NEIGHBOUR: 'it returns false'. Refute it at one input. -/
def queryTheoriesWrong : ChangeSpec := { name := "queryTheories", fn := fun _ => fun
  | [d1, d2] => { results := [.lit (.bool false)], args := [d1, d2] }
  | _ => none }
def QueryTheoriesWrongFalsely : Prop := queryTheoriesRow.holds Tryz.pinned (OpenSpec.ofChange queryTheoriesWrong)

/- THE SECOND FORM. 'bulk': how many values and letters a reading holds, each counted each time it is reached (what is shared counts as often as it is met; a slice's spare places count too). A statement '..UptoSaid' is the law's where the arguments, and the package variables that the reading takes, are together of bulk at most 1048576: NARROWER than '..Said'. Prove '..Said' where nothing that the law and all that it calls make is longer than what came in: it says more and counts as full. Else prove '..UptoSaid'. A law counts once. -/
mutual
def uptoBulk {H : Type} : DataW H → Nat
  | .lit (.string bytes) => bytes.length + 1
  | .lit _ => 1
  | .nil => 1
  | .ptr d => uptoBulk d + 1
  | .slice elems spare => uptoBulkAll elems + uptoBulkAll spare + 1
  | .agg parts => uptoBulkAll parts + 1
  | .iface _ d => uptoBulk d + 1
  | .map entries => uptoBulkEntries entries + 1
  | .held _ => 1
def uptoBulkAll {H : Type} : List (DataW H) → Nat
  | [] => 0
  | d :: r => uptoBulk d + uptoBulkAll r
def uptoBulkEntries {H : Type} : List (Lit × DataW H) → Nat
  | [] => 0
  | x :: r => uptoBulkEntry x + uptoBulkEntries r
def uptoBulkEntry {H : Type} : Lit × DataW H → Nat
  | (.string bytes, d) => bytes.length + uptoBulk d + 1
  | (_, d) => uptoBulk d + 1
 end
def uptoSmall : (H : Type) → List (DataW H) → Bool := fun _ ds => decide (uptoBulkAll ds ≤ 1048576)
def OpenSpec.upto (s : _root_.Go.ChangeSpec) : _root_.Go.OpenSpec := { _root_.Go.OpenSpec.ofChange s with cond := some uptoSmall }

/-- 'censuslaw38.QueryFacts', WHERE WHAT IT READS IS OF BULK AT MOST 1048576: true; the input reads as it did. -/
def queryFactsUptoRow : OpenClaim := { program := "ytfdonhfhcomjaaagreatdoor", sum := "4a0893a2177ec407c122def8367570b845c16b3789a9b3e5f122fb0ef1a2173b", func := "census/censuslaw38.QueryFacts", spec := "queryFacts", inPlace := ["internal/abi.NoEscape"], unfollowed := true, recurses := true, named := ["internal/strconv.uint64pow10", "math/bits.deBruijn32tab", "math/bits.deBruijn64tab"], apart := false, laid := [("math/bits.deBruijn32tab", laid_math_bits_deBruijn32tab), ("math/bits.deBruijn64tab", laid_math_bits_deBruijn64tab), ("internal/strconv.uint64pow10", laid_internal_strconv_uint64pow10)], narrowed := true }
def QueryFactsUptoSaid : Prop := queryFactsUptoRow.holds Tryz.pinned (OpenSpec.upto queryFactsSpec)

/-- 'censuslaw38.QueryLists', WHERE WHAT IT READS IS OF BULK AT MOST 1048576: true; the input reads as it did. -/
def queryListsUptoRow : OpenClaim := { program := "ytfdonhfhcomjaaagreatdoor", sum := "4a0893a2177ec407c122def8367570b845c16b3789a9b3e5f122fb0ef1a2173b", func := "census/censuslaw38.QueryLists", spec := "queryLists", inPlace := ["internal/abi.NoEscape"], unfollowed := true, recurses := true, named := ["internal/strconv.uint64pow10", "math/bits.deBruijn32tab", "math/bits.deBruijn64tab"], apart := false, laid := [("math/bits.deBruijn32tab", laid_math_bits_deBruijn32tab), ("math/bits.deBruijn64tab", laid_math_bits_deBruijn64tab), ("internal/strconv.uint64pow10", laid_internal_strconv_uint64pow10)], narrowed := true }
def QueryListsUptoSaid : Prop := queryListsUptoRow.holds Tryz.pinned (OpenSpec.upto queryListsSpec)

/-- 'censuslaw38.QueryMore', WHERE WHAT IT READS IS OF BULK AT MOST 1048576: true; the input reads as it did. -/
def queryMoreUptoRow : OpenClaim := { program := "ytfdonhfhcomjaaagreatdoor", sum := "4a0893a2177ec407c122def8367570b845c16b3789a9b3e5f122fb0ef1a2173b", func := "census/censuslaw38.QueryMore", spec := "queryMore", inPlace := ["internal/abi.NoEscape"], unfollowed := true, recurses := true, named := ["internal/strconv.uint64pow10", "math/bits.deBruijn32tab", "math/bits.deBruijn64tab"], apart := false, laid := [("math/bits.deBruijn32tab", laid_math_bits_deBruijn32tab), ("math/bits.deBruijn64tab", laid_math_bits_deBruijn64tab), ("internal/strconv.uint64pow10", laid_internal_strconv_uint64pow10)], narrowed := true }
def QueryMoreUptoSaid : Prop := queryMoreUptoRow.holds Tryz.pinned (OpenSpec.upto queryMoreSpec)

/-- 'censuslaw38.QueryPairs', WHERE WHAT IT READS IS OF BULK AT MOST 1048576: true; the input reads as it did. -/
def queryPairsUptoRow : OpenClaim := { program := "ytfdonhfhcomjaaagreatdoor", sum := "4a0893a2177ec407c122def8367570b845c16b3789a9b3e5f122fb0ef1a2173b", func := "census/censuslaw38.QueryPairs", spec := "queryPairs", inPlace := ["internal/abi.NoEscape"], unfollowed := true, recurses := true, named := ["internal/strconv.uint64pow10", "math/bits.deBruijn32tab", "math/bits.deBruijn64tab"], apart := false, laid := [("math/bits.deBruijn32tab", laid_math_bits_deBruijn32tab), ("math/bits.deBruijn64tab", laid_math_bits_deBruijn64tab), ("internal/strconv.uint64pow10", laid_internal_strconv_uint64pow10)], narrowed := true }
def QueryPairsUptoSaid : Prop := queryPairsUptoRow.holds Tryz.pinned (OpenSpec.upto queryPairsSpec)

/-- 'censuslaw38.QuerySides', WHERE WHAT IT READS IS OF BULK AT MOST 1048576: true; the input reads as it did. -/
def querySidesUptoRow : OpenClaim := { program := "ytfdonhfhcomjaaagreatdoor", sum := "4a0893a2177ec407c122def8367570b845c16b3789a9b3e5f122fb0ef1a2173b", func := "census/censuslaw38.QuerySides", spec := "querySides", inPlace := ["internal/abi.NoEscape"], unfollowed := true, recurses := true, named := ["internal/strconv.uint64pow10", "math/bits.deBruijn32tab", "math/bits.deBruijn64tab"], apart := false, laid := [("math/bits.deBruijn32tab", laid_math_bits_deBruijn32tab), ("math/bits.deBruijn64tab", laid_math_bits_deBruijn64tab), ("internal/strconv.uint64pow10", laid_internal_strconv_uint64pow10)], narrowed := true }
def QuerySidesUptoSaid : Prop := querySidesUptoRow.holds Tryz.pinned (OpenSpec.upto querySidesSpec)

/-- 'censuslaw38.QueryLeast', WHERE WHAT IT READS IS OF BULK AT MOST 1048576: true; the input reads as it did. -/
def queryLeastUptoRow : OpenClaim := { program := "ytfdonhfhcomjaaagreatdoor", sum := "4a0893a2177ec407c122def8367570b845c16b3789a9b3e5f122fb0ef1a2173b", func := "census/censuslaw38.QueryLeast", spec := "queryLeast", inPlace := ["internal/abi.NoEscape"], unfollowed := true, recurses := true, named := ["internal/strconv.uint64pow10", "math/bits.deBruijn32tab", "math/bits.deBruijn64tab"], apart := false, laid := [("math/bits.deBruijn32tab", laid_math_bits_deBruijn32tab), ("math/bits.deBruijn64tab", laid_math_bits_deBruijn64tab), ("internal/strconv.uint64pow10", laid_internal_strconv_uint64pow10)], narrowed := true }
def QueryLeastUptoSaid : Prop := queryLeastUptoRow.holds Tryz.pinned (OpenSpec.upto queryLeastSpec)

/-- 'censuslaw38.QueryCounts', WHERE WHAT IT READS IS OF BULK AT MOST 1048576: true; the input reads as it did. -/
def queryCountsUptoRow : OpenClaim := { program := "ytfdonhfhcomjaaagreatdoor", sum := "4a0893a2177ec407c122def8367570b845c16b3789a9b3e5f122fb0ef1a2173b", func := "census/censuslaw38.QueryCounts", spec := "queryCounts", inPlace := ["internal/abi.NoEscape"], unfollowed := true, recurses := true, named := ["internal/strconv.uint64pow10", "math/bits.deBruijn32tab", "math/bits.deBruijn64tab"], apart := false, laid := [("math/bits.deBruijn32tab", laid_math_bits_deBruijn32tab), ("math/bits.deBruijn64tab", laid_math_bits_deBruijn64tab), ("internal/strconv.uint64pow10", laid_internal_strconv_uint64pow10)], narrowed := true }
def QueryCountsUptoSaid : Prop := queryCountsUptoRow.holds Tryz.pinned (OpenSpec.upto queryCountsSpec)

/-- 'censuslaw38.QueryTheories', WHERE WHAT IT READS IS OF BULK AT MOST 1048576: true; the input reads as it did. -/
def queryTheoriesUptoRow : OpenClaim := { program := "ytfdonhfhcomjaaagreatdoor", sum := "4a0893a2177ec407c122def8367570b845c16b3789a9b3e5f122fb0ef1a2173b", func := "census/censuslaw38.QueryTheories", spec := "queryTheories", inPlace := ["internal/abi.NoEscape"], unfollowed := true, recurses := true, named := ["internal/strconv.uint64pow10", "math/bits.deBruijn32tab", "math/bits.deBruijn64tab"], apart := false, laid := [("math/bits.deBruijn32tab", laid_math_bits_deBruijn32tab), ("math/bits.deBruijn64tab", laid_math_bits_deBruijn64tab), ("internal/strconv.uint64pow10", laid_internal_strconv_uint64pow10)], narrowed := true }
def QueryTheoriesUptoSaid : Prop := queryTheoriesUptoRow.holds Tryz.pinned (OpenSpec.upto queryTheoriesSpec)

end Rows
end Go.Proofs.YtfdonhfhcomjaaaGreatDoor
