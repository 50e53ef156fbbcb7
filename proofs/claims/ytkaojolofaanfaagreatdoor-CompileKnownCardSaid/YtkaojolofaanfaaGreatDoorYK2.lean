/- Part of the proofs that laws of censuslaw24 return true for every input, where the tables that the rows list are laid. Texts: Fn, Arg2. -/
import Derived.Test.YtkaojolofaanfaaGreatDoorYA44
import Derived.Test.YtkaojolofaanfaaGreatDoorYA43
import Derived.Test.YtkaojolofaanfaaGreatDoorYA30
import Derived.Test.YtkaojolofaanfaaGreatDoorYA1
import Derived.Deep.RegionHeld3
import Derived.BigRegion
import Derived.Lib.Hide
import Derived.RowKit
import Derived.Test.YtkaojolofaanfaaGreatDoorYA29
import Derived.Test.YtkaojolofaanfaaGreatDoorYA18
import Derived.Test.YtkaojolofaanfaaGreatDoorYA17
import Derived.Test.YtkaojolofaanfaaGreatDoorYA16
import Derived.Test.YtkaojolofaanfaaGreatDoorYA15
import Derived.Test.YtkaojolofaanfaaGreatDoorYA14
import Derived.Test.YtkaojolofaanfaaGreatDoorYA13
import Derived.Test.YtkaojolofaanfaaGreatDoorYA12
import Derived.Test.YtkaojolofaanfaaGreatDoorYA3
import Derived.Test.YtkaojolofaanfaaGreatDoorYA2
import Derived.Test.YtkaojolofaanfaaGreatDoorProg
import Derived.WalkKit
import Derived.WalkSpells
import Derived.WalkLawsBesides
import Derived.Deep.QuietTactic
import Derived.BigQuiet
import Derived.Laws.ResultCell
import Derived.Deep.RegionWith
import Derived.Deep.DeepCutAuto
import Derived.Deep.CutRange
import Derived.Lib.SliceRun
import Derived.Test.YtkaojolofaanfaaGreatDoorYA4
import Derived.Shelf.Strings.Builder1
import Derived.Shelf.Small.Bits
import Derived.Shelf.Strings.BuilderF
import Derived.Shelf.Strings.BuilderK
import Derived.Shelf.Strconv.Itoa0
import Derived.Shelf.Strconv.Itoa1
import Derived.Shelf.LaysM
import Derived.Shelf.Strconv.Itoa2
import Derived.Shelf.Strconv.Itoa3
import Derived.Shelf.Sort.Plain
import Derived.Shelf.Strconv.AppendUint10
import Derived.Shelf.Strconv.AppendInt10
import Derived.Shelf.Strconv.AppendIntPublic10
import Derived.Shelf.Slices.Equal
import Derived.Ground.Names2Prog
import Derived.Shelf.Slices.CompactI
import Derived.Maps.OwnOps
import Derived.Maps.OwnSet
import Derived.Lib.ItoaNum
import Derived.Lib.AppendStr
import Derived.Deep.AppendLies
import Derived.Deep.RegionLaw
import Derived.StillTailTactics
import Derived.Sort.OwnSortedInts
import Derived.Test.YtkaojolofaanfaaGreatDoorYA5
import Derived.Lib.SlicesCompact
import Derived.Lib.RowBridge
import Derived.Test.YtkaojolofaanfaaGreatDoorYA6
import Derived.Outline
import Derived.Defers
import Derived.Recover
import Derived.Test.YtkaojolofaanfaaGreatDoorYA25
import Derived.Test.YtkaojolofaanfaaGreatDoorYA22
import Derived.Test.YtkaojolofaanfaaGreatDoorYA19
import Derived.Test.YtkaojolofaanfaaGreatDoorYA7
import Derived.Test.YtkaojolofaanfaaGreatDoorYK1
import Derived.Deep.LoopGhost
import Derived.Test.YtkaojolofaanfaaGreatDoorYA21
import Derived.Test.YtkaojolofaanfaaGreatDoorYA20
import Derived.Lib.AppendIntMem
import Derived.Lib.OthersKept
import Derived.Lib.Slices
import Derived.Laws.IdiomStrings
import Derived.Test.YtkaojolofaanfaaGreatDoorYA8
import Derived.Test.YtkaojolofaanfaaGreatDoorYA11
import Derived.Test.YtkaojolofaanfaaGreatDoorYA10
import Derived.Test.YtkaojolofaanfaaGreatDoorYA9
import Derived.Test.YtkaojolofaanfaaGreatDoorYA24
import Derived.Test.YtkaojolofaanfaaGreatDoorYA23
import Derived.Test.YtkaojolofaanfaaGreatDoorYA28
import Derived.Test.YtkaojolofaanfaaGreatDoorYA27
import Derived.Test.YtkaojolofaanfaaGreatDoorYA26
import Derived.Test.YtkaojolofaanfaaGreatDoorYA42
import Derived.Test.YtkaojolofaanfaaGreatDoorYA41
import Derived.Test.YtkaojolofaanfaaGreatDoorYA40
import Derived.Test.YtkaojolofaanfaaGreatDoorYA39
import Derived.Test.YtkaojolofaanfaaGreatDoorYA38
import Derived.Test.YtkaojolofaanfaaGreatDoorYA37
import Derived.Test.YtkaojolofaanfaaGreatDoorYA36
import Derived.Test.YtkaojolofaanfaaGreatDoorYA35
import Derived.Test.YtkaojolofaanfaaGreatDoorYA34
import Derived.Test.YtkaojolofaanfaaGreatDoorYA33
import Derived.Test.YtkaojolofaanfaaGreatDoorYA32
import Derived.Test.YtkaojolofaanfaaGreatDoorYA31
import Derived.RangeFuncNested
import Derived.RangeFuncBound
import Derived.RangeFuncCalls
import Derived.RangeFuncLeaves
import Derived.Shelf.Abstract
import Derived.Shelf.RegionOpen
import Derived.OwnWalkIn
import Derived.TacticsInMore
import Derived.LoopNIn
import Derived.LoopIn
import Derived.Lib.TrailingZeros
import Derived.Laws.Bits64b
import Derived.Maps.AppendAt
import Derived.Test.YtkaojolofaanfaaGreatDoorRows
import Derived.ProofKit
import Derived.LaidMore
import Derived.LaidSub
import Derived.OpenShut
import Derived.Stop.Joined
import Derived.Deep.Slices
import Derived.Deep.Fields
import Derived.Lib.SmallJoins
import Derived.Lib.LaidTab
import Derived.Lay
set_option maxHeartbeats 8000000
set_option maxRecDepth 100000
set_option linter.unusedSimpArgs false
set_option linter.unusedVariables false
namespace Go.Proofs.YtkaojolofaanfaaGreatDoor
open Go.RowKit Cen
theorem ints_at {W : World} {b : Nat} {ty : TypeId} (vs : List Int) (h : Blk W b (vs.map (Value.int .i64)).toArray ty) : IntCells W (some ⟨b, 0, none⟩) vs := fun i hi => ⟨b, 0, rfl, by
 rw [Nat.zero_add, h.cell i]; simp [List.getD_eq_getElem?_getD, hi]⟩
theorem ls_at {W : World} {b : Nat} {ty : TypeId} (S : List Sl) (h : Blk W b (S.map fun e => Value.slice e.a e.xs.length e.c).toArray ty) (hi : ∀ e ∈ S, IntCells W e.a e.xs) : LsCells W (some ⟨b, 0, none⟩) (S.map fun e => e.xs) := fun i hil => by
 have hl : i < S.length := by simpa using hil
 have e : (S.map fun e => e.xs).getD i [] = S[i].xs := by simp [List.getD_eq_getElem?_getD, hl]
 rw [e];exact ⟨b, 0, S[i].a, S[i].c, rfl, by rw [Nat.zero_add, h.cell i]; simp [hl], hi _ (List.getElem_mem hl)⟩
theorem upA {w W w' : World} {o : Obj} (h : Below w.heap.size w W) (hb : Below (W.alloc o).heap.size (W.alloc o) w') : Below w.heap.size w w' := by
 have h2 := h.alloc h.size o;exact h2.trans (hb.mono h2.size)
def knT : List (Nat × List Cl) := [(0, []), (2, []), (1, [[1]]), (2, [[1], [2]]), (2, [[]]), (1, [[1], [(-1)]]), (4, [[1, 2], [3, 4]]), (2, [[1, 2], [1, (-2)], [(-1), 2], [(-1), (-2)]]), (1, [[1, (-1)]]), (2, [[2, 1], [1, 2, 1]])]
def knM : List Int := [1, 4, 1, 1, 0, 0, 9, 0, 2, 3]
theorem kn_all : ((List.range 10).all fun k => decide ((knT.getD k (0, [])).1 <= 9) && (decide ((knT.getD k (0, [])).2.length <= 40) && ((knT.getD k (0, [])).2.all (fun c => decide (c.length <= 10)) && (decide (za0 (knT.getD k (0, [])).1 (knT.getD k (0, [])).2 [] = 0) &&
 decide (((((List.range (2 ^ (knT.getD k (0, [])).1)).filter fun j => evL (nthL (knT.getD k (0, [])).1 j).mem (knT.getD k (0, [])).2).length : Nat) : Int) = knM.getD k 0))))) = true := by decide +kernel
theorem kn_gd {k : Nat} (hk : k < 10) : Gdt (knT.getD k (0, [])).1 (knT.getD k (0, [])).2 [] /\ ((((List.range (2 ^ (knT.getD k (0, [])).1)).filter fun j => evL (nthL (knT.getD k (0, [])).1 j).mem (knT.getD k (0, [])).2).length : Nat) : Int) = knM.getD k 0 := by
 have h := List.all_eq_true.1 kn_all k (List.mem_range.2 hk);simp only [Bool.and_eq_true, decide_eq_true_eq, List.all_eq_true] at h;exact ⟨⟨h.1, h.2.1, h.2.2.1, h.2.2.2.1⟩, h.2.2.2.2⟩
theorem chk12 : za0 3 zdg [1, 2] = 1 := by decide +kernel
theorem chk122 : za0 3 zdg [1, 2, 2] = 1 := by decide +kernel
theorem chkneg : za0 (-1) [] [1] = 6 := by decide +kernel
theorem chk312 : Gdt 3 zdg [3, 1, 2] := ⟨zkw.n9, zkw.tl, zkw.cl, by decide +kernel⟩
theorem chap_len : ∀ c ∈ zdg, c.length <= 1073741824 := fun c hc => by have := zkw.cl c hc; omega
theorem kn12 (W : World) (ta : Option Addr) (tc : Nat) (oa : Option Addr) (oc : Nat) (h1 : LsCells W ta zdg) (h2 : IntCells W oa [1, 2]) :
 Calls Tryz.prog 27 #[.agg #[.int .i64 3, .slice ta 2 tc], .agg #[.slice oa 2 oc, .bool false, .bool false]] W fun e w' => e = .returned (.tuple #[.agg #[.int .i64 0, .slice none 0 0], .slice none 0 0, .int .i64 1]) /\ Below W.heap.size W w' := by
 have := zs3 3 ta tc zdg oa oc [1, 2] false false W (by decide) chap_len h1 (by decide) h2 (by rw [chk12]; decide);rw [chk12] at this;exact this
theorem kn122 (W : World) (ta : Option Addr) (tc : Nat) (oa : Option Addr) (oc : Nat) (h1 : LsCells W ta zdg) (h2 : IntCells W oa [1, 2, 2]) :
 Calls Tryz.prog 27 #[.agg #[.int .i64 3, .slice ta 2 tc], .agg #[.slice oa 3 oc, .bool false, .bool false]] W fun e w' => e = .returned (.tuple #[.agg #[.int .i64 0, .slice none 0 0], .slice none 0 0, .int .i64 1]) /\ Below W.heap.size W w' := by
 have := zs3 3 ta tc zdg oa oc [1, 2, 2] false false W (by decide) chap_len h1 (by decide) h2 (by rw [chk122]; decide);rw [chk122] at this;exact this
theorem knneg (W : World) (oa : Option Addr) (oc : Nat) (h2 : IntCells W oa [1]) :
 Calls Tryz.prog 27 #[.agg #[.int .i64 (-1), .slice none 0 0], .agg #[.slice oa 1 oc, .bool false, .bool false]] W fun e w' => e = .returned (.tuple #[.agg #[.int .i64 0, .slice none 0 0], .slice none 0 0, .int .i64 6]) /\ Below W.heap.size W w' := by
 have := zs3 (-1) none 0 [] oa oc [1] false false W (by decide) (by simp) (fun i hi => by simp at hi) (by decide) h2 (by rw [chkneg]; decide);rw [chkneg] at this;exact this
def Kn3Post (w : World) (e : Ending) (w' : World) : Prop := ∃ na nc m ca cc k, e = .returned (.tuple #[.agg #[.int .i64 3, .slice na m nc], .slice ca k cc, .int .i64 0]) /\ Below w.heap.size w w'
theorem kn312 (W : World) (ta : Option Addr) (tc : Nat) (oa : Option Addr) (oc : Nat) (h1 : LsCells W ta zdg) (h2 : IntCells W oa [3, 1, 2]) (h3 : Tab W) :
 Calls Tryz.prog 27 #[.agg #[.int .i64 3, .slice ta 2 tc], .agg #[.slice oa 3 oc, .bool false, .bool false]] W (Kn3Post W) := by
 refine (zhd 3 ta tc zdg oa oc [3, 1, 2] false false W chk312 h1 h2 h3).mono ?_;rintro e w' ⟨na, nc, ca, cc, N, C, rfl, _, hb⟩;exact ⟨na, nc, N.length, ca, cc, N.length, rfl, hb⟩
theorem last5k {p q r s t : Prop} (h : p /\ q /\ r /\ s /\ t) : t := h.2.2.2.2
theorem knownC_any (w : World) (htab : Tab w) : Calls Tryz.prog 9 #[] w fun e w' => e = .returned (.bool true) /\ Below w.heap.size w w' := by
 obtain ⟨W, hW⟩ : ∃ W, W = ((((((((((((((((((((((((w.alloc (.cells #[.int .i64 1] 3)).alloc (.cells #[.slice (some ⟨w.heap.size, 0, none⟩) 1 1] 40)).alloc (.cells #[.int .i64 1] 3)).alloc (.cells #[.int .i64 2] 3)).alloc (.cells #[.slice (some ⟨w.heap.size + 1 + 1, 0, none⟩) 1 1, .slice (some ⟨w.heap.size + 1 + 1 + 1, 0, none⟩) 1 1] 40)).alloc (.cells #[.slice none 0 0] 40)).alloc (.cells #[.int .i64 1] 3)).alloc (.cells #[.int .i64 (-1)] 3)).alloc (.cells #[.slice (some ⟨w.heap.size + 1 + 1 + 1 + 1 + 1 + 1, 0, none⟩) 1 1, .slice (some ⟨w.heap.size + 1 + 1 + 1 + 1 + 1 + 1 + 1, 0, none⟩) 1 1] 40)).alloc (.cells #[.int .i64 1, .int .i64 2] 3)).alloc (.cells #[.int .i64 3, .int .i64 4] 3)).alloc (.cells #[.slice (some ⟨w.heap.size + 1 + 1 + 1 + 1 + 1 + 1 + 1 + 1 + 1, 0, none⟩) 2 2, .slice (some ⟨w.heap.size + 1 + 1 + 1 + 1 + 1 + 1 + 1 + 1 + 1 + 1, 0, none⟩) 2 2] 40)).alloc (.cells #[.int .i64 1, .int .i64 2] 3)).alloc (.cells #[.int .i64 1, .int .i64 (-2)] 3)).alloc (.cells #[.int .i64 (-1), .int .i64 2] 3)).alloc (.cells #[.int .i64 (-1), .int .i64 (-2)] 3)).alloc (.cells #[.slice (some ⟨w.heap.size + 1 + 1 + 1 + 1 + 1 + 1 + 1 + 1 + 1 + 1 + 1 + 1, 0, none⟩) 2 2, .slice (some ⟨w.heap.size + 1 + 1 + 1 + 1 + 1 + 1 + 1 + 1 + 1 + 1 + 1 + 1 + 1, 0, none⟩) 2 2, .slice (some ⟨w.heap.size + 1 + 1 + 1 + 1 + 1 + 1 + 1 + 1 + 1 + 1 + 1 + 1 + 1 + 1, 0, none⟩) 2 2, .slice (some ⟨w.heap.size + 1 + 1 + 1 + 1 + 1 + 1 + 1 + 1 + 1 + 1 + 1 + 1 + 1 + 1 + 1, 0, none⟩) 2 2] 40)).alloc (.cells #[.int .i64 1, .int .i64 (-1)] 3)).alloc (.cells #[.slice (some ⟨w.heap.size + 1 + 1 + 1 + 1 + 1 + 1 + 1 + 1 + 1 + 1 + 1 + 1 + 1 + 1 + 1 + 1 + 1, 0, none⟩) 2 2] 40)).alloc (.cells #[.int .i64 2, .int .i64 1] 3)).alloc (.cells #[.int .i64 1, .int .i64 2, .int .i64 1] 3)).alloc (.cells #[.slice (some ⟨w.heap.size + 1 + 1 + 1 + 1 + 1 + 1 + 1 + 1 + 1 + 1 + 1 + 1 + 1 + 1 + 1 + 1 + 1 + 1 + 1, 0, none⟩) 2 2, .slice (some ⟨w.heap.size + 1 + 1 + 1 + 1 + 1 + 1 + 1 + 1 + 1 + 1 + 1 + 1 + 1 + 1 + 1 + 1 + 1 + 1 + 1 + 1, 0, none⟩) 3 3] 40)).alloc (.cells #[.int .i64 0, .slice none 0 0, .int .i64 2, .slice none 0 0, .int .i64 1, .slice (some ⟨w.heap.size + 1, 0, none⟩) 1 1, .int .i64 2, .slice (some ⟨w.heap.size + 1 + 1 + 1 + 1, 0, none⟩) 2 2, .int .i64 2, .slice (some ⟨w.heap.size + 1 + 1 + 1 + 1 + 1, 0, none⟩) 1 1, .int .i64 1, .slice (some ⟨w.heap.size + 1 + 1 + 1 + 1 + 1 + 1 + 1 + 1, 0, none⟩) 2 2, .int .i64 4, .slice (some ⟨w.heap.size + 1 + 1 + 1 + 1 + 1 + 1 + 1 + 1 + 1 + 1 + 1, 0, none⟩) 2 2, .int .i64 2, .slice (some ⟨w.heap.size + 1 + 1 + 1 + 1 + 1 + 1 + 1 + 1 + 1 + 1 + 1 + 1 + 1 + 1 + 1 + 1, 0, none⟩) 4 4, .int .i64 1, .slice (some ⟨w.heap.size + 1 + 1 + 1 + 1 + 1 + 1 + 1 + 1 + 1 + 1 + 1 + 1 + 1 + 1 + 1 + 1 + 1 + 1, 0, none⟩) 1 1, .int .i64 2, .slice (some ⟨w.heap.size + 1 + 1 + 1 + 1 + 1 + 1 + 1 + 1 + 1 + 1 + 1 + 1 + 1 + 1 + 1 + 1 + 1 + 1 + 1 + 1 + 1, 0, none⟩) 2 2] 39)).alloc (.cells #[.int .i64 1, .int .i64 4, .int .i64 1, .int .i64 1, .int .i64 0, .int .i64 0, .int .i64 9, .int .i64 0, .int .i64 2, .int .i64 3] 3)) := ⟨_, rfl⟩
 have hb : Below w.heap.size w W := by rw [hW]; exact ((((((((((((((((((((((((Below.refl _ _).alloc (by exact Nat.le_refl _) _).alloc (by simp only [World.size_alloc]; omega) _).alloc (by simp only [World.size_alloc]; omega) _).alloc (by simp only [World.size_alloc]; omega) _).alloc (by simp only [World.size_alloc]; omega) _).alloc (by simp only [World.size_alloc]; omega) _).alloc (by simp only [World.size_alloc]; omega) _).alloc (by simp only [World.size_alloc]; omega) _).alloc (by simp only [World.size_alloc]; omega) _).alloc (by simp only [World.size_alloc]; omega) _).alloc (by simp only [World.size_alloc]; omega) _).alloc (by simp only [World.size_alloc]; omega) _).alloc (by simp only [World.size_alloc]; omega) _).alloc (by simp only [World.size_alloc]; omega) _).alloc (by simp only [World.size_alloc]; omega) _).alloc (by simp only [World.size_alloc]; omega) _).alloc (by simp only [World.size_alloc]; omega) _).alloc (by simp only [World.size_alloc]; omega) _).alloc (by simp only [World.size_alloc]; omega) _).alloc (by simp only [World.size_alloc]; omega) _).alloc (by simp only [World.size_alloc]; omega) _).alloc (by simp only [World.size_alloc]; omega) _).alloc (by simp only [World.size_alloc]; omega) _).alloc (by simp only [World.size_alloc]; omega) _
 have b0 : Blk W (w.heap.size) #[.int .i64 1] 3 := by rw [hW]; exact (((((((((((((((((((((((Blk.new w _ _).alloc _).alloc _).alloc _).alloc _).alloc _).alloc _).alloc _).alloc _).alloc _).alloc _).alloc _).alloc _).alloc _).alloc _).alloc _).alloc _).alloc _).alloc _).alloc _).alloc _).alloc _).alloc _).alloc _
 have b1 : Blk W (w.heap.size + 1) #[.slice (some ⟨w.heap.size, 0, none⟩) 1 1] 40 := by rw [hW]; exact ((((((((((((((((((((((Blk.new' _ (by simp only [World.size_alloc]) _ _).alloc _).alloc _).alloc _).alloc _).alloc _).alloc _).alloc _).alloc _).alloc _).alloc _).alloc _).alloc _).alloc _).alloc _).alloc _).alloc _).alloc _).alloc _).alloc _).alloc _).alloc _).alloc _
 have b2 : Blk W (w.heap.size + 1 + 1) #[.int .i64 1] 3 := by rw [hW]; exact (((((((((((((((((((((Blk.new' _ (by simp only [World.size_alloc]) _ _).alloc _).alloc _).alloc _).alloc _).alloc _).alloc _).alloc _).alloc _).alloc _).alloc _).alloc _).alloc _).alloc _).alloc _).alloc _).alloc _).alloc _).alloc _).alloc _).alloc _).alloc _
 have b3 : Blk W (w.heap.size + 1 + 1 + 1) #[.int .i64 2] 3 := by rw [hW]; exact ((((((((((((((((((((Blk.new' _ (by simp only [World.size_alloc]) _ _).alloc _).alloc _).alloc _).alloc _).alloc _).alloc _).alloc _).alloc _).alloc _).alloc _).alloc _).alloc _).alloc _).alloc _).alloc _).alloc _).alloc _).alloc _).alloc _).alloc _
 have b4 : Blk W (w.heap.size + 1 + 1 + 1 + 1) #[.slice (some ⟨w.heap.size + 1 + 1, 0, none⟩) 1 1, .slice (some ⟨w.heap.size + 1 + 1 + 1, 0, none⟩) 1 1] 40 := by rw [hW]; exact (((((((((((((((((((Blk.new' _ (by simp only [World.size_alloc]) _ _).alloc _).alloc _).alloc _).alloc _).alloc _).alloc _).alloc _).alloc _).alloc _).alloc _).alloc _).alloc _).alloc _).alloc _).alloc _).alloc _).alloc _).alloc _).alloc _
 have b5 : Blk W (w.heap.size + 1 + 1 + 1 + 1 + 1) #[.slice none 0 0] 40 := by rw [hW]; exact ((((((((((((((((((Blk.new' _ (by simp only [World.size_alloc]) _ _).alloc _).alloc _).alloc _).alloc _).alloc _).alloc _).alloc _).alloc _).alloc _).alloc _).alloc _).alloc _).alloc _).alloc _).alloc _).alloc _).alloc _).alloc _
 have b6 : Blk W (w.heap.size + 1 + 1 + 1 + 1 + 1 + 1) #[.int .i64 1] 3 := by rw [hW]; exact (((((((((((((((((Blk.new' _ (by simp only [World.size_alloc]) _ _).alloc _).alloc _).alloc _).alloc _).alloc _).alloc _).alloc _).alloc _).alloc _).alloc _).alloc _).alloc _).alloc _).alloc _).alloc _).alloc _).alloc _
 have b7 : Blk W (w.heap.size + 1 + 1 + 1 + 1 + 1 + 1 + 1) #[.int .i64 (-1)] 3 := by rw [hW]; exact ((((((((((((((((Blk.new' _ (by simp only [World.size_alloc]) _ _).alloc _).alloc _).alloc _).alloc _).alloc _).alloc _).alloc _).alloc _).alloc _).alloc _).alloc _).alloc _).alloc _).alloc _).alloc _).alloc _
 have b8 : Blk W (w.heap.size + 1 + 1 + 1 + 1 + 1 + 1 + 1 + 1) #[.slice (some ⟨w.heap.size + 1 + 1 + 1 + 1 + 1 + 1, 0, none⟩) 1 1, .slice (some ⟨w.heap.size + 1 + 1 + 1 + 1 + 1 + 1 + 1, 0, none⟩) 1 1] 40 := by rw [hW]; exact (((((((((((((((Blk.new' _ (by simp only [World.size_alloc]) _ _).alloc _).alloc _).alloc _).alloc _).alloc _).alloc _).alloc _).alloc _).alloc _).alloc _).alloc _).alloc _).alloc _).alloc _).alloc _
 have b9 : Blk W (w.heap.size + 1 + 1 + 1 + 1 + 1 + 1 + 1 + 1 + 1) #[.int .i64 1, .int .i64 2] 3 := by rw [hW]; exact ((((((((((((((Blk.new' _ (by simp only [World.size_alloc]) _ _).alloc _).alloc _).alloc _).alloc _).alloc _).alloc _).alloc _).alloc _).alloc _).alloc _).alloc _).alloc _).alloc _).alloc _
 have b10 : Blk W (w.heap.size + 1 + 1 + 1 + 1 + 1 + 1 + 1 + 1 + 1 + 1) #[.int .i64 3, .int .i64 4] 3 := by rw [hW]; exact (((((((((((((Blk.new' _ (by simp only [World.size_alloc]) _ _).alloc _).alloc _).alloc _).alloc _).alloc _).alloc _).alloc _).alloc _).alloc _).alloc _).alloc _).alloc _).alloc _
 have b11 : Blk W (w.heap.size + 1 + 1 + 1 + 1 + 1 + 1 + 1 + 1 + 1 + 1 + 1) #[.slice (some ⟨w.heap.size + 1 + 1 + 1 + 1 + 1 + 1 + 1 + 1 + 1, 0, none⟩) 2 2, .slice (some ⟨w.heap.size + 1 + 1 + 1 + 1 + 1 + 1 + 1 + 1 + 1 + 1, 0, none⟩) 2 2] 40 := by rw [hW]; exact ((((((((((((Blk.new' _ (by simp only [World.size_alloc]) _ _).alloc _).alloc _).alloc _).alloc _).alloc _).alloc _).alloc _).alloc _).alloc _).alloc _).alloc _).alloc _
 have b12 : Blk W (w.heap.size + 1 + 1 + 1 + 1 + 1 + 1 + 1 + 1 + 1 + 1 + 1 + 1) #[.int .i64 1, .int .i64 2] 3 := by rw [hW]; exact (((((((((((Blk.new' _ (by simp only [World.size_alloc]) _ _).alloc _).alloc _).alloc _).alloc _).alloc _).alloc _).alloc _).alloc _).alloc _).alloc _).alloc _
 have b13 : Blk W (w.heap.size + 1 + 1 + 1 + 1 + 1 + 1 + 1 + 1 + 1 + 1 + 1 + 1 + 1) #[.int .i64 1, .int .i64 (-2)] 3 := by rw [hW]; exact ((((((((((Blk.new' _ (by simp only [World.size_alloc]) _ _).alloc _).alloc _).alloc _).alloc _).alloc _).alloc _).alloc _).alloc _).alloc _).alloc _
 have b14 : Blk W (w.heap.size + 1 + 1 + 1 + 1 + 1 + 1 + 1 + 1 + 1 + 1 + 1 + 1 + 1 + 1) #[.int .i64 (-1), .int .i64 2] 3 := by rw [hW]; exact (((((((((Blk.new' _ (by simp only [World.size_alloc]) _ _).alloc _).alloc _).alloc _).alloc _).alloc _).alloc _).alloc _).alloc _).alloc _
 have b15 : Blk W (w.heap.size + 1 + 1 + 1 + 1 + 1 + 1 + 1 + 1 + 1 + 1 + 1 + 1 + 1 + 1 + 1) #[.int .i64 (-1), .int .i64 (-2)] 3 := by rw [hW]; exact ((((((((Blk.new' _ (by simp only [World.size_alloc]) _ _).alloc _).alloc _).alloc _).alloc _).alloc _).alloc _).alloc _).alloc _
 have b16 : Blk W (w.heap.size + 1 + 1 + 1 + 1 + 1 + 1 + 1 + 1 + 1 + 1 + 1 + 1 + 1 + 1 + 1 + 1) #[.slice (some ⟨w.heap.size + 1 + 1 + 1 + 1 + 1 + 1 + 1 + 1 + 1 + 1 + 1 + 1, 0, none⟩) 2 2, .slice (some ⟨w.heap.size + 1 + 1 + 1 + 1 + 1 + 1 + 1 + 1 + 1 + 1 + 1 + 1 + 1, 0, none⟩) 2 2, .slice (some ⟨w.heap.size + 1 + 1 + 1 + 1 + 1 + 1 + 1 + 1 + 1 + 1 + 1 + 1 + 1 + 1, 0, none⟩) 2 2, .slice (some ⟨w.heap.size + 1 + 1 + 1 + 1 + 1 + 1 + 1 + 1 + 1 + 1 + 1 + 1 + 1 + 1 + 1, 0, none⟩) 2 2] 40 := by rw [hW]; exact (((((((Blk.new' _ (by simp only [World.size_alloc]) _ _).alloc _).alloc _).alloc _).alloc _).alloc _).alloc _).alloc _
 have b17 : Blk W (w.heap.size + 1 + 1 + 1 + 1 + 1 + 1 + 1 + 1 + 1 + 1 + 1 + 1 + 1 + 1 + 1 + 1 + 1) #[.int .i64 1, .int .i64 (-1)] 3 := by rw [hW]; exact ((((((Blk.new' _ (by simp only [World.size_alloc]) _ _).alloc _).alloc _).alloc _).alloc _).alloc _).alloc _
 have b18 : Blk W (w.heap.size + 1 + 1 + 1 + 1 + 1 + 1 + 1 + 1 + 1 + 1 + 1 + 1 + 1 + 1 + 1 + 1 + 1 + 1) #[.slice (some ⟨w.heap.size + 1 + 1 + 1 + 1 + 1 + 1 + 1 + 1 + 1 + 1 + 1 + 1 + 1 + 1 + 1 + 1 + 1, 0, none⟩) 2 2] 40 := by rw [hW]; exact (((((Blk.new' _ (by simp only [World.size_alloc]) _ _).alloc _).alloc _).alloc _).alloc _).alloc _
 have b19 : Blk W (w.heap.size + 1 + 1 + 1 + 1 + 1 + 1 + 1 + 1 + 1 + 1 + 1 + 1 + 1 + 1 + 1 + 1 + 1 + 1 + 1) #[.int .i64 2, .int .i64 1] 3 := by rw [hW]; exact ((((Blk.new' _ (by simp only [World.size_alloc]) _ _).alloc _).alloc _).alloc _).alloc _
 have b20 : Blk W (w.heap.size + 1 + 1 + 1 + 1 + 1 + 1 + 1 + 1 + 1 + 1 + 1 + 1 + 1 + 1 + 1 + 1 + 1 + 1 + 1 + 1) #[.int .i64 1, .int .i64 2, .int .i64 1] 3 := by rw [hW]; exact (((Blk.new' _ (by simp only [World.size_alloc]) _ _).alloc _).alloc _).alloc _
 have b21 : Blk W (w.heap.size + 1 + 1 + 1 + 1 + 1 + 1 + 1 + 1 + 1 + 1 + 1 + 1 + 1 + 1 + 1 + 1 + 1 + 1 + 1 + 1 + 1) #[.slice (some ⟨w.heap.size + 1 + 1 + 1 + 1 + 1 + 1 + 1 + 1 + 1 + 1 + 1 + 1 + 1 + 1 + 1 + 1 + 1 + 1 + 1, 0, none⟩) 2 2, .slice (some ⟨w.heap.size + 1 + 1 + 1 + 1 + 1 + 1 + 1 + 1 + 1 + 1 + 1 + 1 + 1 + 1 + 1 + 1 + 1 + 1 + 1 + 1, 0, none⟩) 3 3] 40 := by rw [hW]; exact ((Blk.new' _ (by simp only [World.size_alloc]) _ _).alloc _).alloc _
 have b22 : Blk W (w.heap.size + 1 + 1 + 1 + 1 + 1 + 1 + 1 + 1 + 1 + 1 + 1 + 1 + 1 + 1 + 1 + 1 + 1 + 1 + 1 + 1 + 1 + 1) #[.int .i64 0, .slice none 0 0, .int .i64 2, .slice none 0 0, .int .i64 1, .slice (some ⟨w.heap.size + 1, 0, none⟩) 1 1, .int .i64 2, .slice (some ⟨w.heap.size + 1 + 1 + 1 + 1, 0, none⟩) 2 2, .int .i64 2, .slice (some ⟨w.heap.size + 1 + 1 + 1 + 1 + 1, 0, none⟩) 1 1, .int .i64 1, .slice (some ⟨w.heap.size + 1 + 1 + 1 + 1 + 1 + 1 + 1 + 1, 0, none⟩) 2 2, .int .i64 4, .slice (some ⟨w.heap.size + 1 + 1 + 1 + 1 + 1 + 1 + 1 + 1 + 1 + 1 + 1, 0, none⟩) 2 2, .int .i64 2, .slice (some ⟨w.heap.size + 1 + 1 + 1 + 1 + 1 + 1 + 1 + 1 + 1 + 1 + 1 + 1 + 1 + 1 + 1 + 1, 0, none⟩) 4 4, .int .i64 1, .slice (some ⟨w.heap.size + 1 + 1 + 1 + 1 + 1 + 1 + 1 + 1 + 1 + 1 + 1 + 1 + 1 + 1 + 1 + 1 + 1 + 1, 0, none⟩) 1 1, .int .i64 2, .slice (some ⟨w.heap.size + 1 + 1 + 1 + 1 + 1 + 1 + 1 + 1 + 1 + 1 + 1 + 1 + 1 + 1 + 1 + 1 + 1 + 1 + 1 + 1 + 1, 0, none⟩) 2 2] 39 := by rw [hW]; exact (Blk.new' _ (by simp only [World.size_alloc]) _ _).alloc _
 have b23 : Blk W (w.heap.size + 1 + 1 + 1 + 1 + 1 + 1 + 1 + 1 + 1 + 1 + 1 + 1 + 1 + 1 + 1 + 1 + 1 + 1 + 1 + 1 + 1 + 1 + 1) #[.int .i64 1, .int .i64 4, .int .i64 1, .int .i64 1, .int .i64 0, .int .i64 0, .int .i64 9, .int .i64 0, .int .i64 2, .int .i64 3] 3 := by rw [hW]; exact Blk.new' _ (by simp only [World.size_alloc]) _ _
 have i0 := ints_at [1] b0;have i2 := ints_at [1] b2;have i3 := ints_at [2] b3;have i6 := ints_at [1] b6;have i7 := ints_at [(-1)] b7;have i9 := ints_at [1, 2] b9;have i10 := ints_at [3, 4] b10;have i12 := ints_at [1, 2] b12;have i13 := ints_at [1, (-2)] b13;have i14 := ints_at [(-1), 2] b14;have i15 := ints_at [(-1), (-2)] b15;have i17 := ints_at [1, (-1)] b17;have i19 := ints_at [2, 1] b19;have i20 := ints_at [1, 2, 1] b20;have i23 := ints_at [1, 4, 1, 1, 0, 0, 9, 0, 2, 3] b23
 have s1 : LsCells W (some ⟨w.heap.size + 1, 0, none⟩) [[1]] := ls_at [⟨some ⟨w.heap.size, 0, none⟩, 1, [1]⟩] b1 (by
  intro e he;simp only [List.mem_cons, List.not_mem_nil, or_false] at he;subst he
  exact i0)
 have s4 : LsCells W (some ⟨w.heap.size + 1 + 1 + 1 + 1, 0, none⟩) [[1], [2]] := ls_at [⟨some ⟨w.heap.size + 1 + 1, 0, none⟩, 1, [1]⟩, ⟨some ⟨w.heap.size + 1 + 1 + 1, 0, none⟩, 1, [2]⟩] b4 (by
  intro e he;simp only [List.mem_cons, List.not_mem_nil, or_false] at he
  rcases he with rfl | rfl
  ·exact i2
  ·exact i3)
 have s5 : LsCells W (some ⟨w.heap.size + 1 + 1 + 1 + 1 + 1, 0, none⟩) [[]] := ls_at [⟨none, 0, []⟩] b5 (by
  intro e he;simp only [List.mem_cons, List.not_mem_nil, or_false] at he;subst he
  exact IntCells.nil _ _)
 have s8 : LsCells W (some ⟨w.heap.size + 1 + 1 + 1 + 1 + 1 + 1 + 1 + 1, 0, none⟩) [[1], [(-1)]] := ls_at [⟨some ⟨w.heap.size + 1 + 1 + 1 + 1 + 1 + 1, 0, none⟩, 1, [1]⟩, ⟨some ⟨w.heap.size + 1 + 1 + 1 + 1 + 1 + 1 + 1, 0, none⟩, 1, [(-1)]⟩] b8 (by
  intro e he;simp only [List.mem_cons, List.not_mem_nil, or_false] at he
  rcases he with rfl | rfl
  ·exact i6
  ·exact i7)
 have s11 : LsCells W (some ⟨w.heap.size + 1 + 1 + 1 + 1 + 1 + 1 + 1 + 1 + 1 + 1 + 1, 0, none⟩) [[1, 2], [3, 4]] := ls_at [⟨some ⟨w.heap.size + 1 + 1 + 1 + 1 + 1 + 1 + 1 + 1 + 1, 0, none⟩, 2, [1, 2]⟩, ⟨some ⟨w.heap.size + 1 + 1 + 1 + 1 + 1 + 1 + 1 + 1 + 1 + 1, 0, none⟩, 2, [3, 4]⟩] b11 (by
  intro e he;simp only [List.mem_cons, List.not_mem_nil, or_false] at he
  rcases he with rfl | rfl
  ·exact i9
  ·exact i10)
 have s16 : LsCells W (some ⟨w.heap.size + 1 + 1 + 1 + 1 + 1 + 1 + 1 + 1 + 1 + 1 + 1 + 1 + 1 + 1 + 1 + 1, 0, none⟩) [[1, 2], [1, (-2)], [(-1), 2], [(-1), (-2)]] := ls_at [⟨some ⟨w.heap.size + 1 + 1 + 1 + 1 + 1 + 1 + 1 + 1 + 1 + 1 + 1 + 1, 0, none⟩, 2, [1, 2]⟩, ⟨some ⟨w.heap.size + 1 + 1 + 1 + 1 + 1 + 1 + 1 + 1 + 1 + 1 + 1 + 1 + 1, 0, none⟩, 2, [1, (-2)]⟩, ⟨some ⟨w.heap.size + 1 + 1 + 1 + 1 + 1 + 1 + 1 + 1 + 1 + 1 + 1 + 1 + 1 + 1, 0, none⟩, 2, [(-1), 2]⟩, ⟨some ⟨w.heap.size + 1 + 1 + 1 + 1 + 1 + 1 + 1 + 1 + 1 + 1 + 1 + 1 + 1 + 1 + 1, 0, none⟩, 2, [(-1), (-2)]⟩] b16 (by
  intro e he;simp only [List.mem_cons, List.not_mem_nil, or_false] at he
  rcases he with rfl | rfl | rfl | rfl
  ·exact i12
  ·exact i13
  ·exact i14
  ·exact i15)
 have s18 : LsCells W (some ⟨w.heap.size + 1 + 1 + 1 + 1 + 1 + 1 + 1 + 1 + 1 + 1 + 1 + 1 + 1 + 1 + 1 + 1 + 1 + 1, 0, none⟩) [[1, (-1)]] := ls_at [⟨some ⟨w.heap.size + 1 + 1 + 1 + 1 + 1 + 1 + 1 + 1 + 1 + 1 + 1 + 1 + 1 + 1 + 1 + 1 + 1, 0, none⟩, 2, [1, (-1)]⟩] b18 (by
  intro e he;simp only [List.mem_cons, List.not_mem_nil, or_false] at he;subst he
  exact i17)
 have s21 : LsCells W (some ⟨w.heap.size + 1 + 1 + 1 + 1 + 1 + 1 + 1 + 1 + 1 + 1 + 1 + 1 + 1 + 1 + 1 + 1 + 1 + 1 + 1 + 1 + 1, 0, none⟩) [[2, 1], [1, 2, 1]] := ls_at [⟨some ⟨w.heap.size + 1 + 1 + 1 + 1 + 1 + 1 + 1 + 1 + 1 + 1 + 1 + 1 + 1 + 1 + 1 + 1 + 1 + 1 + 1, 0, none⟩, 2, [2, 1]⟩, ⟨some ⟨w.heap.size + 1 + 1 + 1 + 1 + 1 + 1 + 1 + 1 + 1 + 1 + 1 + 1 + 1 + 1 + 1 + 1 + 1 + 1 + 1 + 1, 0, none⟩, 3, [1, 2, 1]⟩] b21 (by
  intro e he;simp only [List.mem_cons, List.not_mem_nil, or_false] at he
  rcases he with rfl | rfl
  ·exact i19
  ·exact i20)
 have HK : Hid (∀ k, k < 10 -> ∃ ta tc, W.cell? ⟨w.heap.size + 1 + 1 + 1 + 1 + 1 + 1 + 1 + 1 + 1 + 1 + 1 + 1 + 1 + 1 + 1 + 1 + 1 + 1 + 1 + 1 + 1 + 1, k * 2, none⟩ = some (.int .i64 (((knT.getD k (0, [])).1 : Nat) : Int)) /\ W.cell? ⟨w.heap.size + 1 + 1 + 1 + 1 + 1 + 1 + 1 + 1 + 1 + 1 + 1 + 1 + 1 + 1 + 1 + 1 + 1 + 1 + 1 + 1 + 1 + 1, k * 2 + 1, none⟩ = some (.slice ta (knT.getD k (0, [])).2.length tc) /\ LsCells W ta (knT.getD k (0, [])).2) := fun k hk => by
  have h10 : k = 0 \/ k = 1 \/ k = 2 \/ k = 3 \/ k = 4 \/ k = 5 \/ k = 6 \/ k = 7 \/ k = 8 \/ k = 9 := by omega
  rcases h10 with rfl | rfl | rfl | rfl | rfl | rfl | rfl | rfl | rfl | rfl
  ·exact ⟨_, _, b22.cell 0, b22.cell 1, fun i hi => absurd hi (Nat.not_lt_zero _)⟩
  ·exact ⟨_, _, b22.cell 2, b22.cell 3, fun i hi => absurd hi (Nat.not_lt_zero _)⟩
  ·exact ⟨_, _, b22.cell 4, b22.cell 5, s1⟩
  ·exact ⟨_, _, b22.cell 6, b22.cell 7, s4⟩
  ·exact ⟨_, _, b22.cell 8, b22.cell 9, s5⟩
  ·exact ⟨_, _, b22.cell 10, b22.cell 11, s8⟩
  ·exact ⟨_, _, b22.cell 12, b22.cell 13, s11⟩
  ·exact ⟨_, _, b22.cell 14, b22.cell 15, s16⟩
  ·exact ⟨_, _, b22.cell 16, b22.cell 17, s18⟩
  ·exact ⟨_, _, b22.cell 18, b22.cell 19, s21⟩
 have HM : Hid (∀ k, k < 10 -> W.cell? ⟨w.heap.size + 1 + 1 + 1 + 1 + 1 + 1 + 1 + 1 + 1 + 1 + 1 + 1 + 1 + 1 + 1 + 1 + 1 + 1 + 1 + 1 + 1 + 1 + 1, k, none⟩ = some (.int .i64 (knM.getD k 0))) := fun k hk => by
  have h10 : k = 0 \/ k = 1 \/ k = 2 \/ k = 3 \/ k = 4 \/ k = 5 \/ k = 6 \/ k = 7 \/ k = 8 \/ k = 9 := by omega
  rcases h10 with rfl | rfl | rfl | rfl | rfl | rfl | rfl | rfl | rfl | rfl
  ·exact b23.cell 0
  ·exact b23.cell 1
  ·exact b23.cell 2
  ·exact b23.cell 3
  ·exact b23.cell 4
  ·exact b23.cell 5
  ·exact b23.cell 6
  ·exact b23.cell 7
  ·exact b23.cell 8
  ·exact b23.cell 9
 have HT := lh (htab.keep hb);have HB0 := lh hb;have HWK := lh (fun V (hv : Below W.heap.size W V) => zjc V (HT.out.keep hv));clear htab hb b0 b1 b2 b3 b4 b5 b6 b7 b8 b9 b10 b11 b12 b13 b14 b15 b16 b17 b18 b19 b20 b21 b22 b23 i0 i2 i3 i6 i7 i9 i10 i12 i13 i14 i15 i17 i19 i20 i23 s1 s4 s5 s8 s11 s16 s18 s21;go_enter Tryz.func9, Tryz.ntmps9;go_wp2_with fail;rw [<- hW];clear hW
 go_loopw [3] (fun i wr => ∃ k : Nat, k <= 10 /\ i = .int .i64 k /\ Below W.heap.size W wr) (fun i _ => 10 - (intOf i).toNat)
 case atStart => exact ⟨0, by omega, rfl, Below.refl _ _⟩
 case round =>
  obtain ⟨k, hk, rfl, hbr⟩ := hrel;have HBR := lh hbr;clear hbr
  by_cases hlt : k < 10
  ·have hki : (k : Int) < 10 := by omega
   obtain ⟨ta, tc, k0, k1, hls⟩ := HK.out k hlt;have m0 := HM.out k hlt;obtain ⟨hg, hmd⟩ := kn_gd hlt;have HLS := lh hls;have HGD := lh hg;have HMD := lh hmd;generalize (knT.getD k (0, [])).1 = n at *;generalize (knT.getD k (0, [])).2 = t at *;generalize knM.getD k 0 = md at *;have r0 := zaa HBR.out k0;have r1 := zaa HBR.out k1;have HCP := lh (zhd n ta tc t none 0 [] ((k : Int) % 2 == 0) ((k : Int) % 3 == 0) wr hg (hls.keep HBR.out) (IntCells.nil _ _) (HT.out.keep HBR.out));have h9 := hg.n9;clear hls hg hmd;go_wp2_with fail;refine HCP.out.mono ?_;rintro e w3 ⟨na, nc, ca, cc, N, C, rfl, hr, hb3⟩
   have hbw3 := HBR.out.trans (hb3.mono HBR.out.size);have x0 := zaa hbw3 k0;have x1 := zaa hbw3 k1;have xz := zak x0
   obtain ⟨nb, hnb⟩ : ∃ nb, nb = w3.heap.size := ⟨_, rfl⟩
   obtain ⟨w4, hw4⟩ : ∃ w4, w4 = w3.alloc (.cells #[.int .i64 (n : Int), .slice na N.length nc] 24) := ⟨_, rfl⟩
   have hb4 : Below w3.heap.size w3 w4 := by rw [hw4]; exact (Below.refl _ _).alloc (Nat.le_refl _) _
   have q4 : Blk w4 nb #[.int .i64 (n : Int), .slice na N.length nc] 24 := by rw [hw4, hnb]; exact Blk.new _ _ _
   have HR := lh (hr.keep hb4);have HB4 := lh (hbw3.trans (hb4.mono hbw3.size));have Q4 := lh q4;have e0 := q4.cell 0;have e1 := q4.cell 1;have y0 := zaa hb4 x0;have y1 := zaa hb4 x1
   have hml : md = ((modUp n N (2 ^ n)).length : Int) := by
    rw [<- HMD.out];unfold modUp;rw [List.length_map]
    congr 2
    refine List.filter_congr fun j _ => ?_
    unfold modK;rw [HR.out.ev HGD.out]
   have HMO : Hid (∀ V, Below w4.heap.size w4 V -> Calls Tryz.prog 38 #[.agg #[.int .i64 (n : Int), .slice na N.length nc]] V fun e w' => ∃ va vc, e = .returned (.slice va (modUp n N (2 ^ n)).length vc) /\ Below V.heap.size V w') := fun V hV => by
    refine (models_any n na nc N V (HR.out.ok HGD.out) (by omega) (HR.out.keep hV).n).mono ?_;rintro e w' ⟨v, rfl, hown, hb⟩
    rcases hown.shape with ⟨h1, h2⟩ | ⟨g', gc, h1, _⟩
    ·exact ⟨none, 0, by rw [h1, h2]; rfl, hb⟩
    ·exact ⟨_, gc, by rw [h1], hb⟩
   have HVF := lh (fun V (hV : Below w4.heap.size w4 V) => (HR.out.keep hV).verify HGD.out tc (HLS.out.keep (HB4.out.trans (hV.mono HB4.out.size))));subst hml;generalize (modUp n N (2 ^ n)).length = m at *;have m1 := zaa HB4.out m0
   have HKS : Hid (∀ w' : World, Below w4.heap.size w4 w' -> w'.cell? ⟨w.heap.size + 1 + 1 + 1 + 1 + 1 + 1 + 1 + 1 + 1 + 1 + 1 + 1 + 1 + 1 + 1 + 1 + 1 + 1 + 1 + 1 + 1 + 1, k * 2, none⟩ = some (.int .i64 (n : Int)) /\ w'.cell? ⟨w.heap.size + 1 + 1 + 1 + 1 + 1 + 1 + 1 + 1 + 1 + 1 + 1 + 1 + 1 + 1 + 1 + 1 + 1 + 1 + 1 + 1 + 1 + 1, k * 2 + 1, none⟩ = some (.slice ta t.length tc) /\ w'.cell? ⟨nb, 0, none⟩ = some (.int .i64 (n : Int)) /\ w'.cell? ⟨nb, 1, none⟩ = some (.slice na N.length nc) /\ Below w4.heap.size w4 w') := lh fun w' hb => ⟨zaa hb y0, zaa hb y1, zaa hb e0, zaa hb e1, hb⟩
   clear hr hb3 hbw3 hb4 q4;go_wp2_with fail;rw [<- hnb, <- hw4];clear hw4 hnb x0 x1 xz;refine wp_region_held_drew (S := (fun w' => w'.cell? ⟨w.heap.size + 1 + 1 + 1 + 1 + 1 + 1 + 1 + 1 + 1 + 1 + 1 + 1 + 1 + 1 + 1 + 1 + 1 + 1 + 1 + 1 + 1 + 1, k * 2, none⟩ = some (.int .i64 (n : Int)) /\ w'.cell? ⟨w.heap.size + 1 + 1 + 1 + 1 + 1 + 1 + 1 + 1 + 1 + 1 + 1 + 1 + 1 + 1 + 1 + 1 + 1 + 1 + 1 + 1 + 1 + 1, k * 2 + 1, none⟩ = some (.slice ta t.length tc) /\ w'.cell? ⟨nb, 0, none⟩ = some (.int .i64 (n : Int)) /\ w'.cell? ⟨nb, 1, none⟩ = some (.slice na N.length nc) /\ Below w4.heap.size w4 w')) (by kernel_rfl) ?_ (fun hHeld => ?_)
   ·try dsimp only
    exact HKS.out _ (Below.refl _ _).drew
   refine tkV 0 78 rfl rfl ?_; try simp only [tkS]
   refine tkV 1 79 rfl rfl ?_; try simp only [tkS]
   refine tkV 2 80 rfl rfl ?_; try simp only [tkS]
   refine tkV 3 81 rfl rfl ?_; try simp only [tkS]
   refine tkV 4 82 rfl rfl ?_; try simp only [tkS]
   refine tkV 5 83 rfl rfl ?_; try simp only [tkS]
   refine tkR 6 (.cons rfl (fun K hK => ?_) .nil);go_simp;go_at_call 33;refine (HVF.out _ (last5k (by assumption))).mono ?_;rintro e w5 ⟨rfl, hb5⟩;have hw5 : Below w4.heap.size w4 w5 := Below.trans (last5k (by assumption)) (hb5.mono (Below.size (B := w4.heap.size) (w := w4) (last5k (by assumption))));go_wp2_with fail;refine hK.out _ _ ?_ (fun hHeld => ?_)
   ·try dsimp only
    exact HKS.out _ hw5
   clear hK K
   try simp only [tkS]
   refine tkV 7 77 rfl rfl ?_; try simp only [tkS]
   refine tkV 8 85 rfl rfl ?_; try simp only [tkS]
   refine tkV 9 86 rfl rfl ?_; try simp only [tkS]
   refine tkV 10 7 rfl rfl ?_; try simp only [tkS]
   refine tkV 11 8 rfl rfl ?_; try simp only [tkS]
   refine wpAnyH_done (by kernel_rfl) ?_ _;have HB5 := lh hw5;have z0 := zaa hw5 e0;have z1 := zaa hw5 e1;have m2 := zaa hw5 m1;clear HKS hw5 hb5 y0 y1 e0 e1
   have HKS : Hid (∀ w' : World, Below w5.heap.size w5 w' -> w'.cell? ⟨nb, 0, none⟩ = some (.int .i64 (n : Int)) /\ w'.cell? ⟨nb, 1, none⟩ = some (.slice na N.length nc) /\ w'.cell? ⟨w.heap.size + 1 + 1 + 1 + 1 + 1 + 1 + 1 + 1 + 1 + 1 + 1 + 1 + 1 + 1 + 1 + 1 + 1 + 1 + 1 + 1 + 1 + 1 + 1, k, none⟩ = some (.int .i64 (m : Int)) /\ True /\ Below w5.heap.size w5 w') := lh fun w' hb => ⟨zaa hb z0, zaa hb z1, zaa hb m2, trivial, hb⟩
   go_wp2_with fail;refine wp_region_held_drew (S := (fun w' => w'.cell? ⟨nb, 0, none⟩ = some (.int .i64 (n : Int)) /\ w'.cell? ⟨nb, 1, none⟩ = some (.slice na N.length nc) /\ w'.cell? ⟨w.heap.size + 1 + 1 + 1 + 1 + 1 + 1 + 1 + 1 + 1 + 1 + 1 + 1 + 1 + 1 + 1 + 1 + 1 + 1 + 1 + 1 + 1 + 1 + 1, k, none⟩ = some (.int .i64 (m : Int)) /\ True /\ Below w5.heap.size w5 w')) (by kernel_rfl) ?_ (fun hHeld => ?_)
   ·try dsimp only
    exact HKS.out _ (Below.refl _ _).drew
   refine tkV 0 87 rfl rfl ?_; try simp only [tkS]
   refine tkV 1 88 rfl rfl ?_; try simp only [tkS]
   refine tkV 2 89 rfl rfl ?_; try simp only [tkS]
   refine tkV 3 90 rfl rfl ?_; try simp only [tkS]
   refine tkV 4 91 rfl rfl ?_; try simp only [tkS]
   refine tkV 5 92 rfl rfl ?_; try simp only [tkS]
   refine tkV 6 93 rfl rfl ?_; try simp only [tkS]
   refine tkV 7 94 rfl rfl ?_; try simp only [tkS]
   refine tkV 10 97 rfl rfl ?_; try simp only [tkS]
   refine tkV 11 98 rfl rfl ?_; try simp only [tkS]
   refine tkV 12 99 rfl rfl ?_; try simp only [tkS]
   refine tkV 13 100 rfl rfl ?_; try simp only [tkS]
   refine tkR 8 (.cons rfl (fun K hK => ?_) .nil);go_simp;go_at_call 38;refine (HMO.out _ (HB5.out.trans (Below.mono (last5k (by assumption)) HB5.out.size))).mono ?_;rintro e w6 ⟨va, vc, rfl, hb6⟩;have hw6 : Below w5.heap.size w5 w6 := Below.trans (last5k (by assumption)) (hb6.mono (Below.size (B := w5.heap.size) (w := w5) (last5k (by assumption))));go_wp2_with fail;refine hK.out _ _ ?_ (fun hHeld => ?_)
   ·try dsimp only
    exact HKS.out _ hw6
   clear hK K
   try simp only [tkS]
   refine tkV 9 96 rfl rfl ?_; try simp only [tkS]
   refine tkV 14 101 rfl rfl ?_; try simp only [tkS]
   refine tkV 15 102 rfl rfl ?_; try simp only [tkS]
   refine wpAnyH_done (by kernel_rfl) ?_ _;have HB6 := lh hw6;clear hw6 hb6 z0 z1;go_wp2;go_roundw
   case rel => exact ⟨k + 1, by omega, by go_num, HB4.out.trans ((HB5.out.trans (HB6.out.mono HB5.out.size)).mono HB4.out.size)⟩
   case measure => simp [intOf]; omega
  ·have hke : k = 10 := by omega
   subst hke;go_wp2_with fail;refine (zhz _).mono ?_;rintro e c1 ⟨ta1, tc1, rfl, hx1, hb1⟩;have HC1 := lh (HBR.out.trans (hb1.mono HBR.out.size));have HP1 := lh (kn12 (c1.alloc (.cells #[.int .i64 1, .int .i64 2] 3)) ta1 tc1 (some ⟨c1.heap.size, 0, none⟩) 2 (hx1.keep ((Below.refl _ _).alloc (Nat.le_refl _) _)) (ints_at [1, 2] (Blk.new c1 _ _)));clear hx1 hb1;go_wp2_with fail;refine HP1.out.mono ?_;rintro e d1 ⟨rfl, hb1⟩;have HD1 := lh (upA HC1.out hb1);clear hb1;go_wp2_with fail;refine (zhz _).mono ?_;rintro e c2 ⟨ta2, tc2, rfl, hx2, hb2⟩;have HC2 := lh (upA HD1.out hb2);have HP2 := lh (kn122 (c2.alloc (.cells #[.int .i64 1, .int .i64 2, .int .i64 2] 3)) ta2 tc2 (some ⟨c2.heap.size, 0, none⟩) 3 (hx2.keep ((Below.refl _ _).alloc (Nat.le_refl _) _)) (ints_at [1, 2, 2] (Blk.new c2 _ _)))
   clear hx2 hb2;go_wp2_with fail;refine HP2.out.mono ?_;rintro e d2 ⟨rfl, hb2⟩;have HD2 := lh (upA HC2.out hb2);have HP3 := lh (knneg ((d2.alloc (.cells #[.int .i64 0, .slice none 0 0] 24)).alloc (.cells #[.int .i64 1] 3)) (some ⟨d2.heap.size + 1, 0, none⟩) 1 (ints_at [1] (Blk.new' _ (by simp) _ _)));clear hb2;go_wp2_with fail;refine HP3.out.mono ?_;rintro e d3 ⟨rfl, hb3⟩;have HD3 : Hid (Below W.heap.size W d3) := upA (HD2.out.alloc HD2.out.size _) hb3;clear hb3;go_wp2_with fail;refine (zhz _).mono ?_;rintro e c4 ⟨ta4, tc4, rfl, hx4, hb4⟩;have HC4 := lh (upA HD3.out hb4);have HP4 := lh (kn312 (c4.alloc (.cells #[.int .i64 3, .int .i64 1, .int .i64 2] 3)) ta4 tc4 (some ⟨c4.heap.size, 0, none⟩) 3 (hx4.keep ((Below.refl _ _).alloc (Nat.le_refl _) _)) (ints_at [3, 1, 2] (Blk.new c4 _ _)) (HT.out.keep (HC4.out.alloc HC4.out.size _)))
   clear hx4 hb4;go_wp2_with fail;refine HP4.out.mono ?_;rintro e d4 ⟨na4, nc4, m4, ca4, cc4, q4, rfl, hb4⟩;have HD4 := lh (upA HC4.out hb4);clear hb4;go_wp2_with fail;refine (HWK.out _ (HD4.out.alloc HD4.out.size _)).mono ?_;rintro e wz ⟨rfl, hbz⟩;have HBZ := lh (HB0.out.trans ((upA HD4.out hbz).mono HB0.out.size));clear hbz;go_wp2;go_ret;exact ⟨rfl, HBZ.out⟩
end Go.Proofs.YtkaojolofaanfaaGreatDoor
namespace Go.Proofs.YtkaojolofaanfaaGreatDoor
open Go.Joins Go.ChangeShapes Go.WideShapes Go.ChangeAt Go.Deep Go.RowKit Cen
section
variable {H : Type} {enc : TypeId × Value -> H} {W : World} {base : Nat} {spare : Nat -> Bool} {held : Bool}
theorem trodAll_zero {w : World} {args : Array Value} {ds : List (DataW H)} {ps : List MemPlace} (h : DataW.TrodAll enc Tryz.prog w base spare held [] args.toList ds ps) : args = #[] /\ ds = [] /\ ps = [] := by
 obtain ⟨h1, rfl, rfl⟩ := trodAll_nil h;exact ⟨by cases args; simp_all, rfl, rfl⟩
end
end Go.Proofs.YtkaojolofaanfaaGreatDoor
