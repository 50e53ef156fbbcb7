/- Part of the proofs that laws of censuslaw24 return true for every input, where the tables that the rows list are laid. Texts: Eb, AppAny, Fo0, Ft. -/
import Derived.Test.YtfmmhjphopikgaaGreatDoorYC4
import Derived.Test.YtfmmhjphopikgaaGreatDoorYC2
import Derived.Test.YtfmmhjphopikgaaGreatDoorYC1
import Derived.Test.YtfmmhjphopikgaaGreatDoorProg
import Derived.WalkKit
import Derived.WalkSpells
import Derived.WalkLawsBesides
import Derived.Deep.QuietTactic
import Derived.BigQuiet
import Derived.Lib.Hide
import Derived.Laws.ResultCell
import Derived.Deep.RegionWith
import Derived.Test.YtfmmhjphopikgaaGreatDoorYC30
import Derived.Test.YtfmmhjphopikgaaGreatDoorYC10
import Derived.Test.YtfmmhjphopikgaaGreatDoorYC9
import Derived.Test.YtfmmhjphopikgaaGreatDoorYC8
import Derived.Test.YtfmmhjphopikgaaGreatDoorYC7
import Derived.Test.YtfmmhjphopikgaaGreatDoorYC5
import Derived.Test.YtfmmhjphopikgaaGreatDoorYC6
import Derived.Lib.ItoaNum
import Derived.Maps.OwnOps
import Derived.Outline
import Derived.Maps.AppendAt
import Derived.Deep.RegionHeld3
import Derived.Test.YtfmmhjphopikgaaGreatDoorYC42
import Derived.Test.YtfmmhjphopikgaaGreatDoorYC29
import Derived.BigRegion
import Derived.RowKit
import Derived.Test.YtfmmhjphopikgaaGreatDoorYC28
import Derived.Test.YtfmmhjphopikgaaGreatDoorYC16
import Derived.Test.YtfmmhjphopikgaaGreatDoorYC15
import Derived.Test.YtfmmhjphopikgaaGreatDoorYC14
import Derived.Test.YtfmmhjphopikgaaGreatDoorYC13
import Derived.Test.YtfmmhjphopikgaaGreatDoorYC12
import Derived.Test.YtfmmhjphopikgaaGreatDoorYC11
import Derived.Test.YtfmmhjphopikgaaGreatDoorYC3
import Derived.Deep.DeepCutAuto
import Derived.Deep.CutRange
import Derived.Lib.SliceRun
import Derived.Shelf.Small.Bits
import Derived.Shelf.Strconv.Itoa0
import Derived.Shelf.Strconv.Itoa1
import Derived.Shelf.LaysM
import Derived.Shelf.Strconv.Itoa2
import Derived.Shelf.Sort.Plain
import Derived.Shelf.Strconv.AppendUint10
import Derived.Shelf.Strconv.AppendInt10
import Derived.Shelf.Strconv.AppendIntPublic10
import Derived.Shelf.Slices.Equal
import Derived.Ground.Names2Prog
import Derived.Shelf.Slices.CompactI
import Derived.Maps.OwnSet
import Derived.Lib.AppendStr
import Derived.Deep.AppendLies
import Derived.Deep.RegionLaw
import Derived.StillTailTactics
import Derived.Sort.OwnSortedInts
import Derived.Lib.SlicesCompact
import Derived.Lib.RowBridge
import Derived.Test.YtfmmhjphopikgaaGreatDoorYC17
import Derived.Defers
import Derived.Recover
import Derived.Test.YtfmmhjphopikgaaGreatDoorYC24
import Derived.Test.YtfmmhjphopikgaaGreatDoorYC21
import Derived.Test.YtfmmhjphopikgaaGreatDoorYC18
import Derived.Deep.LoopGhost
import Derived.Test.YtfmmhjphopikgaaGreatDoorYC20
import Derived.Test.YtfmmhjphopikgaaGreatDoorYC19
import Derived.Lib.AppendIntMem
import Derived.Lib.OthersKept
import Derived.Lib.Slices
import Derived.Laws.IdiomStrings
import Derived.Test.YtfmmhjphopikgaaGreatDoorYC23
import Derived.Test.YtfmmhjphopikgaaGreatDoorYC22
import Derived.Test.YtfmmhjphopikgaaGreatDoorYC27
import Derived.Test.YtfmmhjphopikgaaGreatDoorYC26
import Derived.Test.YtfmmhjphopikgaaGreatDoorYC25
import Derived.Test.YtfmmhjphopikgaaGreatDoorYC41
import Derived.Test.YtfmmhjphopikgaaGreatDoorYC40
import Derived.Test.YtfmmhjphopikgaaGreatDoorYC39
import Derived.Test.YtfmmhjphopikgaaGreatDoorYC38
import Derived.Test.YtfmmhjphopikgaaGreatDoorYC37
import Derived.Test.YtfmmhjphopikgaaGreatDoorYC36
import Derived.Test.YtfmmhjphopikgaaGreatDoorYC35
import Derived.Test.YtfmmhjphopikgaaGreatDoorYC34
import Derived.Test.YtfmmhjphopikgaaGreatDoorYC33
import Derived.Test.YtfmmhjphopikgaaGreatDoorYC32
import Derived.Test.YtfmmhjphopikgaaGreatDoorYC31
import Derived.RangeFuncNested
import Derived.RangeFuncBound
import Derived.RangeFuncCalls
import Derived.RangeFuncLeaves
import Derived.Shelf.Abstract
import Derived.Shelf.RegionOpen
import Derived.OwnWalkIn
import Derived.TacticsInMore
import Derived.LoopNIn
import Derived.LoopIn
import Derived.Lib.TrailingZeros
import Derived.Laws.Bits64b
set_option maxHeartbeats 8000000
set_option maxRecDepth 100000
set_option linter.unusedSimpArgs false
set_option linter.unusedVariables false
namespace Go.Proofs.YtfmmhjphopikgaaGreatDoor
open Go.RowKit Cen
theorem IntIn.old {w : World} {a : Option Addr} {t : Cl} (h : IntCells w a t) : IntIn (fun k => k < w.heap.size) w a t := (IntIn.all h).mono fun k hk _ => hk
theorem step_append_ints {p E : Prop} [Decidable p] (hp : p) {o : Oper} {a : Act} {w : World} {K : Act -> World -> Prop} {Q : Exit -> Act -> World -> Prop} (s x : Operand)
 (ho : o.op = .call { callee := .builtin .append, args := #[s, x], argTypes := #[25, 25] })
 (base : Nat) (v : Value) (ys : List Int) (hs : a.eval s = v) (hown : OwnInts w base v ys) (b : Option Addr) (c : Nat) (xs : List Int) (hx : a.eval x = .slice b xs.length c) (hxc : IntCells w b xs)
 (h1 : ys.length <= 1073741824) (h2 : xs.length <= 1073741824) (hbase : base <= w.heap.size)
 (h : ∀ v' w', OwnInts w' base v' (ys ++ xs) -> w.grownBy w' v.ownBlock -> K (a.put o.dst v') w') : if p then o.wp Tryz.prog a w K Q else E := by
 rw [if_pos hp]; exact zjs s x ho base v ys hs hown b c xs hx hxc h1 h2 hbase h
theorem CRes.kp {n : Nat} {t : List Cl} {order : List Int} {o1 o2 : Bool} {B : Nat} {w W : World} {na : Option Addr} {nc : Nat} {ca : Option Addr} {cc : Nat} {N : List Nd} {C : List Clm} (h : CRes n t order o1 o2 B w na nc ca cc N C) {M : Nat -> Prop} (hk : Kp M w W) (hM : ∀ k, M k -> k < B) : CRes n t order o1 o2 B W na nc ca cc N C := by
 obtain ⟨L, hm, hN, hC⟩ := h.mem
 have low : ∀ {v : Value} {l : List Int}, OwnI w B v l -> OwnI W B v l := fun ho => ho.kept hk fun k hv hm => by have := (ho.blk hv).1; have := hM k hm; omega
 have hm' : CpMem W B (.slice na L.length nc) (.slice ca L.length cc) L := ⟨hm.rn.kept hk fun k hv hm' => by have := (World.ownsRow.lt hm.rn k hv).1; have := hM k hm'; omega,
  hm.rc.kept hk fun k hv hm' => by have := (World.ownsRow.lt hm.rc k hv).1; have := hM k hm'; omega, fun e he => let ⟨a, b, c⟩ := hm.me e he; ⟨low a, low b, low c⟩, hm.ap, hm.ne⟩
 have hll : ∀ e ∈ L, e.c.nd.ins.length <= 1073741824 := fun e he => by
  obtain ⟨i, hi, rfl⟩ := List.getElem_of_mem he
  have hgd : N.getD i default = L[i].c.nd := by rw [<- hN]; simp [nds, List.getD_eq_getElem?_getD, hi]
  obtain ⟨b, off, _, hc⟩ := h.n i (by rw [<- hN]; simpa [nds] using hi);rw [hgd] at hc;obtain ⟨_, _, av, cv, _, _, hl⟩ := hc;exact hl
 have hn := hm'.nodes hll;have hcl := hm'.claims;rw [hN] at hn;rw [hC] at hcl;exact ⟨h.eqN, h.cl, h.len, hn.1, hn.2, hcl, L, hm', hN, hC⟩
theorem sameNode20_ok (k l : Int) (a : Option Addr) (ac : Nat) (b : Option Addr) (bc : Nat) (xs : List Int) (w : World) (hl : xs.length <= 1073741824) (hx : IntCells w a xs) (hy : IntCells w b xs) :
 Calls Tryz.prog 43 #[.agg #[.int .i64 k, .int .i64 l, .slice a xs.length ac], .agg #[.int .i64 k, .int .i64 l, .slice b xs.length bc]] w fun e w' => e = .returned (.bool true) /\ Below w.heap.size w w' := by
 obtain ⟨w0, hw0⟩ : ∃ w0, w0 = (w.alloc (.cells #[.int .i64 k, .int .i64 l, .slice a xs.length ac] 48)).alloc (.cells #[.int .i64 k, .int .i64 l, .slice b xs.length bc] 48) := ⟨_, rfl⟩
 have hb0 : Below w.heap.size w w0 := by rw [hw0]; exact ((Below.refl _ _).alloc (Nat.le_refl _) _).alloc (by simp) _
 have q0 : Blk w0 w.heap.size #[.int .i64 k, .int .i64 l, .slice a xs.length ac] 48 := by rw [hw0]; exact (Blk.new w _ _).alloc _
 have q1 : Blk w0 (w.heap.size + 1) #[.int .i64 k, .int .i64 l, .slice b xs.length bc] 48 := by rw [hw0]; exact Blk.new' _ (by simp) _ _
 have HB0 := lh hb0
 have HSM : Hid (∀ W, Below w0.heap.size w0 W -> Calls Tryz.prog 87 #[.slice a xs.length ac, .slice b xs.length bc] W fun e w' => e = .returned (.bool true) /\ ∃ q, w' = W.drewN q) := fun W hW => by
  have := zp2 a ac xs b bc xs W hl hl ((hx.keep hb0).keep hW) ((hy.keep hb0).keep hW);rw [decide_eq_true rfl] at this;exact this
 have c0 := q0.cell 0;have c1 := q0.cell 1;have c2 := q0.cell 2;have d0 := q1.cell 0;have d1 := q1.cell 1;have d2 := q1.cell 2;have z0 := q0.lt;have z1 := q1.lt;clear hx hy hb0 q0 q1;go_enter Tryz.func43, Tryz.ntmps43;go_wp2_with fail;rw [<- hw0];clear hw0;refine (HSM.o _ (Below.refl _ _)).mono ?_;rintro e w1 ⟨rfl, q, rfl⟩;go_wp2;go_ret;exact ⟨rfl, HB0.o.trans ((zad _ _).mono HB0.o.size)⟩
theorem last11 {a b c d e f g h i j k : Prop} (x : a /\ b /\ c /\ d /\ e /\ f /\ g /\ h /\ i /\ j /\ k) : k := x.2.2.2.2.2.2.2.2.2.2
theorem same20_ok (n : Int) (a : Option Addr) (ac : Nat) (b : Option Addr) (bc : Nat) (N : List Nd) (w : World) (hl : N.length <= 1073741824) (hx : NdCells w a N) (hy : NdCells w b N) :
 Calls Tryz.prog 16 #[.agg #[.int .i64 n, .slice a N.length ac], .agg #[.int .i64 n, .slice b N.length bc]] w fun e w' => e = .returned (.bool true) /\ Below w.heap.size w w' := by
 obtain ⟨w0, hw0⟩ : ∃ w0, w0 = (w.alloc (.cells #[.int .i64 n, .slice a N.length ac] 33)).alloc (.cells #[.int .i64 n, .slice b N.length bc] 33) := ⟨_, rfl⟩
 have hb0 : Below w.heap.size w w0 := by rw [hw0]; exact ((Below.refl _ _).alloc (Nat.le_refl _) _).alloc (by simp) _
 have q0 : Blk w0 w.heap.size #[.int .i64 n, .slice a N.length ac] 33 := by rw [hw0]; exact (Blk.new w _ _).alloc _
 have q1 : Blk w0 (w.heap.size + 1) #[.int .i64 n, .slice b N.length bc] 33 := by rw [hw0]; exact Blk.new' _ (by simp) _ _
 have HB0 := lh hb0;have Q0 := lh q0;have Q1 := lh q1;have HX := lh (hx.keep hb0);have HY := lh (hy.keep hb0);have k0 := q0.cell 0;have k1 := q0.cell 1;have l0 := q1.cell 0;have l1 := q1.cell 1;have z0 := q0.lt;have z1 := q1.lt;clear hx hy hb0 q0 q1;go_enter Tryz.func16, Tryz.ntmps16;go_wp2_with fail;rw [<- hw0];clear hw0;clear k0 k1 l0 l1 z0 z1
 go_loopw [5] (fun i wr => ∃ k : Nat, k <= N.length /\ i = .int .i64 k /\ Below w0.heap.size w0 wr) (fun i _ => N.length - (intOf i).toNat)
 case atStart => exact ⟨0, Nat.zero_le _, rfl, Below.refl _ _⟩
 obtain ⟨k, hk, rfl, hbr⟩ := hrel;have HBR := lh hbr;have HBW := lh (HB0.o.trans (hbr.mono HB0.o.size));have p0 := Q0.o.later hbr;have p1 := Q1.o.later hbr;have k0 := p0.cell 0;have k1 := p0.cell 1;have l0 := p1.cell 0;have l1 := p1.cell 1;have z0 := p0.lt;have z1 := p1.lt;have HXR := lh (HX.o.keep hbr);have HYR := lh (HY.o.keep hbr);clear hbr p0 p1
 by_cases hlt : k < N.length
 ·obtain ⟨b1, o1, rfl, e0, e1, xa, xc, e2, hxi, hxl⟩ := HXR.o k hlt;obtain ⟨b2, o2, rfl, f0, f1, ya, yc, f2, hyi, hyl⟩ := HYR.o k hlt
  have hki : (k : Int) < (N.length : Int) := by omega
  generalize N.getD k default = x at *
  have HSN : Hid (∀ W, Below wr.heap.size wr W -> Calls Tryz.prog 43 #[.agg #[.int .i64 x.kind, .int .i64 x.lit, .slice xa x.ins.length xc], .agg #[.int .i64 x.kind, .int .i64 x.lit, .slice ya x.ins.length yc]] W fun e w' => e = .returned (.bool true) /\ Below W.heap.size W w') := fun W hW => sameNode20_ok x.kind x.lit xa xc ya yc x.ins W hxl (hxi.keep hW) (hyi.keep hW)
  clear hxi hyi hxl hyl
  have HKS : Hid (∀ w' : World, Below wr.heap.size wr w' -> (fun w' => w'.cell? ⟨w.heap.size, 0, none⟩ = some (.int .i64 n) /\ w'.cell? ⟨w.heap.size, 1, none⟩ = some (.slice (some ⟨b1, o1, none⟩) N.length ac) /\ w'.cell? ⟨w.heap.size + 1, 0, none⟩ = some (.int .i64 n) /\ w'.cell? ⟨w.heap.size + 1, 1, none⟩ = some (.slice (some ⟨b2, o2, none⟩) N.length bc) /\ w'.cell? ⟨b1, o1 + k * 3, none⟩ = some (.int .i64 x.kind) /\ w'.cell? ⟨b1, o1 + k * 3 + 1, none⟩ = some (.int .i64 x.lit) /\ w'.cell? ⟨b1, o1 + k * 3 + 2, none⟩ = some (.slice xa x.ins.length xc) /\ w'.cell? ⟨b2, o2 + k * 3, none⟩ = some (.int .i64 x.kind) /\ w'.cell? ⟨b2, o2 + k * 3 + 1, none⟩ = some (.int .i64 x.lit) /\ w'.cell? ⟨b2, o2 + k * 3 + 2, none⟩ = some (.slice ya x.ins.length yc) /\ Below wr.heap.size wr w') w') := lh fun w' hb => ⟨zaa hb k0, zaa hb k1, zaa hb l0, zaa hb l1, zaa hb e0, zaa hb e1, zaa hb e2, zaa hb f0, zaa hb f1, zaa hb f2, hb⟩
  go_wp2_with fail;refine wp_region_held_drew (S := (fun w' => w'.cell? ⟨w.heap.size, 0, none⟩ = some (.int .i64 n) /\ w'.cell? ⟨w.heap.size, 1, none⟩ = some (.slice (some ⟨b1, o1, none⟩) N.length ac) /\ w'.cell? ⟨w.heap.size + 1, 0, none⟩ = some (.int .i64 n) /\ w'.cell? ⟨w.heap.size + 1, 1, none⟩ = some (.slice (some ⟨b2, o2, none⟩) N.length bc) /\ w'.cell? ⟨b1, o1 + k * 3, none⟩ = some (.int .i64 x.kind) /\ w'.cell? ⟨b1, o1 + k * 3 + 1, none⟩ = some (.int .i64 x.lit) /\ w'.cell? ⟨b1, o1 + k * 3 + 2, none⟩ = some (.slice xa x.ins.length xc) /\ w'.cell? ⟨b2, o2 + k * 3, none⟩ = some (.int .i64 x.kind) /\ w'.cell? ⟨b2, o2 + k * 3 + 1, none⟩ = some (.int .i64 x.lit) /\ w'.cell? ⟨b2, o2 + k * 3 + 2, none⟩ = some (.slice ya x.ins.length yc) /\ Below wr.heap.size wr w')) (by kernel_rfl) ?_ (fun hHeld => ?_)
  ·try dsimp only
   exact HKS.o _ (Below.refl _ _).drew
  refine tkV 0 27 rfl rfl ?_; try simp only [tkS]
  refine tkV 1 28 rfl rfl ?_; try simp only [tkS]
  refine tkV 2 29 rfl rfl ?_; try simp only [tkS]
  refine tkV 3 30 rfl rfl ?_; try simp only [tkS]
  refine tkV 4 31 rfl rfl ?_; try simp only [tkS]
  refine tkV 5 32 rfl rfl ?_; try simp only [tkS]
  refine tkV 6 33 rfl rfl ?_; try simp only [tkS]
  refine tkV 7 34 rfl rfl ?_; try simp only [tkS]
  refine tkV 8 35 rfl rfl ?_; try simp only [tkS]
  refine tkV 9 36 rfl rfl ?_; try simp only [tkS]
  refine tkR 10 (.cons rfl (fun K hK => ?_) .nil);go_simp;go_at_call 43;refine (HSN.o _ (last11 (by assumption))).mono ?_;rintro e w5 ⟨rfl, hb5⟩;have hw5 : Below wr.heap.size wr w5 := Below.trans (last11 (by assumption)) (hb5.mono (Below.size (B := wr.heap.size) (w := wr) (last11 (by assumption))));go_wp2_with fail;refine hK.out _ _ ?_ (fun hHeld => ?_)
  ·try dsimp only
   exact HKS.o _ hw5
  clear hK K
  try simp only [tkS]
  refine tkV 11 38 rfl rfl ?_; try simp only [tkS]
  refine wpAnyH_done (by kernel_rfl) ?_ _;have HB5 := lh (HBR.o.trans (hw5.mono HBR.o.size));go_wp2;go_roundw
  case rel => exact ⟨k + 1, by omega, by go_num, HB5.o⟩
  case measure => simp [intOf]; omega
 have hke : k = N.length := by omega
 subst hke;go_wp2;go_ret;exact ⟨rfl, HBW.o⟩
end Go.Proofs.YtfmmhjphopikgaaGreatDoor
