/- Part of the proofs that laws of censuslaw24 return true for every input, where the tables that the rows list are laid. Texts: CpO, Fs, Gp. -/
import Derived.Test.YtfmmhjphopikgaaGreatDoorYC1
import Derived.Test.YtfmmhjphopikgaaGreatDoorYC35
import Derived.Test.YtfmmhjphopikgaaGreatDoorYC34
import Derived.Test.YtfmmhjphopikgaaGreatDoorYC33
import Derived.Test.YtfmmhjphopikgaaGreatDoorYC32
import Derived.Test.YtfmmhjphopikgaaGreatDoorYC31
import Derived.Test.YtfmmhjphopikgaaGreatDoorYC30
import Derived.Test.YtfmmhjphopikgaaGreatDoorYC4
import Derived.Test.YtfmmhjphopikgaaGreatDoorYC2
import Derived.Test.YtfmmhjphopikgaaGreatDoorProg
import Derived.WalkKit
import Derived.WalkSpells
import Derived.WalkLawsBesides
import Derived.Deep.QuietTactic
import Derived.BigQuiet
import Derived.Lib.Hide
import Derived.Laws.ResultCell
import Derived.Deep.RegionWith
import Derived.Test.YtfmmhjphopikgaaGreatDoorYC10
import Derived.Test.YtfmmhjphopikgaaGreatDoorYC9
import Derived.Test.YtfmmhjphopikgaaGreatDoorYC8
import Derived.Test.YtfmmhjphopikgaaGreatDoorYC7
import Derived.Test.YtfmmhjphopikgaaGreatDoorYC5
import Derived.Test.YtfmmhjphopikgaaGreatDoorYC6
import Derived.Lib.ItoaNum
import Derived.Maps.OwnOps
import Derived.Outline
import Derived.Test.YtfmmhjphopikgaaGreatDoorYC3
import Derived.BigRegion
import Derived.Deep.RegionHeld3
import Derived.Shelf.Small.Bits
import Derived.Shelf.Strconv.Itoa0
import Derived.Shelf.Strconv.Itoa1
import Derived.Shelf.LaysM
import Derived.Shelf.Strconv.Itoa2
import Derived.Shelf.Sort.Plain
import Derived.Shelf.Strconv.AppendUint10
import Derived.Shelf.Strconv.AppendInt10
import Derived.Shelf.Strconv.AppendIntPublic10
import Derived.Shelf.Slices.Equal
import Derived.Ground.Names2Prog
import Derived.Shelf.Slices.CompactI
import Derived.Maps.OwnSet
import Derived.Lib.AppendStr
import Derived.Deep.AppendLies
import Derived.Deep.RegionLaw
import Derived.StillTailTactics
import Derived.Sort.OwnSortedInts
import Derived.Deep.DeepCutAuto
import Derived.RangeFuncNested
import Derived.RangeFuncBound
import Derived.RangeFuncCalls
import Derived.RangeFuncLeaves
import Derived.Shelf.Abstract
import Derived.Shelf.RegionOpen
import Derived.OwnWalkIn
import Derived.TacticsInMore
import Derived.LoopNIn
import Derived.LoopIn
import Derived.Lib.TrailingZeros
import Derived.Laws.Bits64b
set_option maxHeartbeats 8000000
set_option maxRecDepth 100000
set_option linter.unusedSimpArgs false
set_option linter.unusedVariables false
namespace Cen
instance (a b : Cl) : Decidable (ltC a b) := inferInstanceAs (Decidable (cmpC a b < 0))
theorem ltL_irrefl (a : Int) : ¬ ltL a a := by unfold ltL; rw [zh3]; omega
end Cen
namespace Go.Proofs.YtfmmhjphopikgaaGreatDoor
open Go.RowKit Cen
theorem same22_any (a : Option Addr) (cap : Nat) (c : Cl) (b : Option Addr) (cap2 : Nat) (d : Cl) (w : World) (hl : c.length <= 1073741824) (hl2 : d.length <= 1073741824) (hx : IntCells w a c) (hy : IntCells w b d) :
 Calls Tryz.prog 42 #[.slice a c.length cap, .slice b d.length cap2] w fun e w' => e = .returned (.bool (decide (c = d))) /\ DR w w' := by
 have HX := lh hx;have HY := lh hy
 have HEX : Hid (c.length = d.length -> (∀ j, j < c.length -> c.getD j 0 = d.getD j 0) -> decide (c = d) = true) := fun h1 h2 => by simpa using zon 0 h1 h2
 have HNE : Hid (∀ k, c.getD k 0 ≠ d.getD k 0 -> decide (c = d) = false) := fun k h => by
  rw [decide_eq_false_iff_not]; intro e; rw [e] at h; exact h rfl
 have HNL : Hid (c.length ≠ d.length -> decide (c = d) = false) := fun h => by
  rw [decide_eq_false_iff_not]; intro e; rw [e] at h; exact h rfl
 clear hx hy;generalize decide (c = d) = R at *
 by_cases hne : c.length = d.length
 ·have hnd : ((c.length : Int) != (d.length : Int)) = false := by simp; omega
  have HQ := lh hne;clear hne;go_enter Tryz.func42, Tryz.ntmps42;go_wp2
  go_loopw [5] (fun i wr => ∃ k : Nat, k <= c.length /\ i = .int .i64 k /\ (∀ j, j < k -> c.getD j 0 = d.getD j 0) /\ DR w wr) (fun i _ => c.length - (intOf i).toNat)
  case atStart => exact ⟨0, Nat.zero_le _, rfl, fun j h => absurd h (Nat.not_lt_zero _), ⟨0, rfl⟩⟩
  obtain ⟨k, hk, rfl, hno, ⟨m, rfl⟩⟩ := hrel;have HN := lh hno;clear hno
  by_cases hlt : k < c.length
  ·have hlt2 : k < d.length := by have := HQ.o; omega
   obtain ⟨b1, off1, rfl, hc1⟩ := HX.o k hlt;obtain ⟨b2, off2, rfl, hc2⟩ := HY.o k hlt2;have HNK := lh (HNE.o k)
   have HEK : Hid (c.getD k 0 = d.getD k 0 -> ∀ j, j < k + 1 -> c.getD j 0 = d.getD j 0) := fun he j hj => by
    by_cases e : j = k
    ·subst e; exact he
    exact HN.o j (by omega)
   have hki : (k : Int) < (c.length : Int) := by omega
   have hki2 : (k : Int) < (d.length : Int) := by omega
   generalize c.getD k 0 = x at hc1 HNK HEK;generalize d.getD k 0 = y at hc2 HNK HEK
   by_cases he : x = y
   ·subst he;have HE := lh (HEK.o rfl);go_wp2_with fail
    go_quiet (fail)
    go_wp2;go_roundw
    case rel => exact ⟨k + 1, by omega, by go_num, HE.o, ⟨_, rfl⟩⟩
    case measure => simp [intOf]; omega
   have HR := lh (HNK.o he)
   have hqe : (x == y) = false := by simpa using he
   clear he;go_wp2_with fail
   go_quiet (fail)
   go_wp2;go_ret;exact ⟨by rw [HR.o]; rfl, DR.more _ _⟩
  have hke : k = c.length := by omega
  subst hke;have HR := lh (HEX.o HQ.o HN.o);go_wp2;go_ret;exact ⟨by rw [HR.o]; rfl, ⟨m, rfl⟩⟩
 have hni : ((c.length : Int) == (d.length : Int)) = false := by simp; omega
 have HR := lh (HNL.o hne);go_enter Tryz.func42, Tryz.ntmps42;go_wp2;go_ret;exact ⟨by rw [HR.o]; rfl, ⟨0, rfl⟩⟩
theorem sameT22_any (n : Int) (a : Option Addr) (cap : Nat) (r : List Cl) (b : Option Addr) (cap2 : Nat) (s : List Cl) (w : World) (hl : r.length <= 1073741824) (hs : ∀ c ∈ r, c.length <= 1073741824) (hl2 : s.length <= 1073741824) (hs2 : ∀ c ∈ s, c.length <= 1073741824) (hx : LsCells w a r) (hy : LsCells w b s) :
 Calls Tryz.prog 15 #[.agg #[.int .i64 n, .slice a r.length cap], .agg #[.int .i64 n, .slice b s.length cap2]] w fun e w' => e = .returned (.bool (decide (r = s))) /\ Below w.heap.size w w' := by
 obtain ⟨w0, hw0⟩ : ∃ w0, w0 = (w.alloc (.cells #[.int .i64 n, .slice a r.length cap] 24)).alloc (.cells #[.int .i64 n, .slice b s.length cap2] 24) := ⟨_, rfl⟩
 have hb0 : Below w.heap.size w w0 := by rw [hw0]; exact ((Below.refl _ _).alloc (Nat.le_refl _) _).alloc (by simp) _
 have q0 : Blk w0 w.heap.size #[.int .i64 n, .slice a r.length cap] 24 := by rw [hw0]; exact (Blk.new w _ _).alloc _
 have q1 : Blk w0 (w.heap.size + 1) #[.int .i64 n, .slice b s.length cap2] 24 := by rw [hw0]; exact Blk.new' _ (by simp) _ _
 have HB0 := lh hb0;have HX := lh (hx.keep hb0);have HY := lh (hy.keep hb0);have HS := lh hs;have HS2 := lh hs2;have k1 := q0.cell 1;have l1 := q1.cell 1;have k0 := q0.cell 0;have l0 := q1.cell 0;have z1 := q1.lt;have z0 := q0.lt
 have HEX : Hid (r.length = s.length -> (∀ j, j < r.length -> r.getD j [] = s.getD j []) -> decide (r = s) = true) := fun h1 h2 => by simpa using zon [] h1 h2
 have HNE : Hid (∀ k, r.getD k [] ≠ s.getD k [] -> decide (r = s) = false) := fun k h => by
  rw [decide_eq_false_iff_not]; intro e; rw [e] at h; exact h rfl
 have HNL : Hid (r.length ≠ s.length -> decide (r = s) = false) := fun h => by
  rw [decide_eq_false_iff_not]; intro e; rw [e] at h; exact h rfl
 clear hx hy hb0 q0 q1 hs hs2;generalize decide (r = s) = R at *
 by_cases hne : r.length = s.length
 ·have hnd : ((r.length : Int) != (s.length : Int)) = false := by simp; omega
  have HQ := lh hne;clear hne;go_enter Tryz.func15, Tryz.ntmps15;go_wp2_with fail;rw [<- hw0];clear hw0;go_wp2_with fail
  go_loopw [5] (fun i wr => ∃ k : Nat, k <= r.length /\ i = .int .i64 k /\ (∀ j, j < k -> r.getD j [] = s.getD j []) /\ DR w0 wr) (fun i _ => r.length - (intOf i).toNat)
  case atStart => exact ⟨0, Nat.zero_le _, rfl, fun j h => absurd h (Nat.not_lt_zero _), ⟨0, rfl⟩⟩
  obtain ⟨k, hk, rfl, hno, hdr⟩ := hrel;have HDR := lh hdr;have hb := hdr.below (B := w0.heap.size);have k1 := zaa hb k1;have l1 := zaa hb l1;have HXR := lh (HX.o.keep hb);have HYR := lh (HY.o.keep hb);have z0 : w.heap.size < wr.heap.size := Nat.lt_of_lt_of_le z0 hb.size;have z1 : w.heap.size + 1 < wr.heap.size := Nat.lt_of_lt_of_le z1 hb.size;clear hdr hb;have HN := lh hno;clear hno
  by_cases hlt : k < r.length
  ·have hlt2 : k < s.length := by have := HQ.o; omega
   obtain ⟨b1, off1, ai, ci, hae1, hc1, hi1⟩ := HXR.o k hlt;obtain ⟨b2, off2, bi, di, hae2, hc2, hi2⟩ := HYR.o k hlt2;have hcl := HS.o _ (by rw [List.getD_eq_getElem?_getD, List.getElem?_eq_getElem hlt]; exact List.getElem_mem hlt : r.getD k [] ∈ r);have hdl := HS2.o _ (by rw [List.getD_eq_getElem?_getD, List.getElem?_eq_getElem hlt2]; exact List.getElem_mem hlt2 : s.getD k [] ∈ s);have HNK := lh (HNE.o k)
   have HEK : Hid (r.getD k [] = s.getD k [] -> ∀ j, j < k + 1 -> r.getD j [] = s.getD j []) := fun he j hj => by
    by_cases e : j = k
    ·subst e; exact he
    exact HN.o j (by omega)
   have hki : (k : Int) < (r.length : Int) := by omega
   have hki2 : (k : Int) < (s.length : Int) := by omega
   generalize r.getD k [] = c at *;generalize s.getD k [] = d at *
   have HSM : Hid (∀ m, Calls Tryz.prog 42 #[.slice ai c.length ci, .slice bi d.length di] (wr.drewN m) fun e w' => e = .returned (.bool (decide (c = d))) /\ ∃ q, w' = wr.drewN q) := fun m =>
    (same22_any ai ci c bi di d (wr.drewN m) hcl hdl (hi1.keep (zad _ _)) (hi2.keep (zad _ _))).mono fun _ _ h => ⟨h.1, by obtain ⟨q, h2⟩ := h.2; exact ⟨m + q, by rw [h2, World.drewN_drewN]⟩⟩
   subst hae1 hae2;clear hi1 hi2
   by_cases he : c = d
   ·have HE := lh (HEK.o he);rw [decide_eq_true he] at HSM;clear he;go_wp2_with fail
    go_quiet (exact (HSM.o _).mono fun _ _ hh => ⟨hh.1, by obtain ⟨q, h2⟩ := hh.2; exact ⟨_, h2⟩⟩)
    go_wp2;go_roundw
    case rel => exact ⟨k + 1, by omega, by go_num, HE.o, HDR.o.then _⟩
    case measure => simp [intOf]; omega
   have HR := lh (HNK.o he);rw [decide_eq_false he] at HSM;clear he;go_wp2_with fail
   go_quiet (exact (HSM.o _).mono fun _ _ hh => ⟨hh.1, by obtain ⟨q, h2⟩ := hh.2; exact ⟨_, h2⟩⟩)
   go_wp2;go_ret;exact ⟨by rw [HR.o]; rfl, HB0.o.trans ((HDR.o.below.trans (zad _ _)).mono HB0.o.size)⟩
  have hke : k = r.length := by omega
  subst hke;have HR := lh (HEX.o HQ.o HN.o);go_wp2;go_ret;exact ⟨by rw [HR.o]; rfl, HB0.o.trans (HDR.o.below.mono HB0.o.size)⟩
 have hni : ((r.length : Int) == (s.length : Int)) = false := by simp; omega
 have HR := lh (HNL.o hne);go_enter Tryz.func15, Tryz.ntmps15;go_wp2_with fail;rw [<- hw0];clear hw0;go_wp2;go_ret;exact ⟨by rw [HR.o]; rfl, HB0.o⟩
end Go.Proofs.YtfmmhjphopikgaaGreatDoor
namespace Cen
section
variable {ch : List Cl -> Int} {n : Nat} {t : List Cl} {cache : Bool}
theorem core_under (hn : n <= 128) (hch : Chooses ch n) (ht : tOk n t) : ∀ i l, tagged (zao ch cache (zab n t)).1 i l -> ∀ v, (zaf l).mem v = true -> (zaf (zab n t)).mem v = true := by
 have hg := za2 hn ht.rg;obtain ⟨r, h1, h2, h3, h4, h5⟩ := zdl (R := RT n t) (cache := cache) hn (zbt hn t) hch (card (zaf (zab n t)) + 1) [] (zab n t) [] ⟨Inv.nil n, fun i c l t h => by simp at h, fun i j x ⟨c, h, _⟩ => by simp at h, fun _ i j l ⟨c, t, h, _⟩ => by simp at h⟩ hg zmt (Nat.lt_succ_self _);rw [List.nil_append] at h1;unfold zao;rw [h1];intro i l hi;exact h5 i l (Nat.zero_le _) (by rw [List.nil_append]; exact hi)
theorem Fit.tag (hn : n <= 128) {st : List Nc} {m : List Cl} {ins : List Nat} (h : Fit st m ins) (hg : ∀ c ∈ m, gC n c) : ∀ j ∈ ins, ∀ c, st[j]? = some c -> c.nd.kind ≠ 2 -> ∃ l tm, c.tag = some (l, tm) /\ ∀ v, (zaf l).mem v = true -> (zaf m).mem v = true := by
 induction h with
 | @unit x l i ins a hf ih =>
   intro j hj c hc hk
   rcases List.mem_cons.1 hj with rfl | hj
   ·obtain ⟨d, hd, e⟩ := a;rw [hc] at hd; simp at hd; subst hd;rw [e] at hk; simp at hk
   obtain ⟨l', tm, h1, h2⟩ := ih (zbl hg x).gc j hj c hc hk;have hl := (hg [x] (by simp)).lv hn (x := x) (by simp);exact ⟨l', tm, h1, fun v hv => (zbc hl (h2 v hv)).1⟩
 | @bad l i a b =>
   intro j hj c hc _;simp at hj; subst hj;obtain ⟨d, tm, hd, e⟩ := a;rw [hc] at hd; simp at hd; subst hd;exact ⟨_, tm, e, fun v h => h⟩
 | @parts l ins a b c =>
   intro j hj d hd _;obtain ⟨k, hk, rfl⟩ := List.getElem_of_mem hj;obtain ⟨⟨c', tm, hc, e⟩, _⟩ := c k hk
   have e1 : ins.getD k 0 = ins[k] := by simp [List.getD_eq_getElem?_getD, hk]
   have e2 : (zaj l).getD k [] = (zaj l)[k]'(by omega) := by simp [List.getD_eq_getElem?_getD, show k < (zaj l).length by omega]
   rw [e1] at hc; rw [e2] at e;rw [hd] at hc; simp at hc; subst hc;exact ⟨_, tm, e, fun v hv => zgs (List.getElem_mem _) hv⟩
theorem core_inner (hn : n <= 128) (hch : Chooses ch n) (ht : tOk n t) {i : Nat} {c d : Nc} (hc : (zao ch cache (zab n t)).1[i]? = some c) (hk : c.nd.kind ≠ 2) (hd : d ∈ (zao ch cache (zab n t)).1) (hm : (i : Int) ∈ d.nd.ins) (h3 : d.nd.kind = 3) :
 ∃ l tm, c.tag = some (l, tm) /\ l ≠ zab n t := by
 have hC := core hn hch ht cache;have hg := za2 hn ht.rg;have hu := core_under (cache := cache) hn hch ht;obtain ⟨e, he, rfl⟩ := List.getElem_of_mem hd;have hde : (zao ch cache (zab n t)).1[e]? = some (zao ch cache (zab n t)).1[e] := List.getElem?_eq_getElem he
 have hus : usedBy (zao ch cache (zab n t)).1 e 4 := by
  rcases hC.use e _ hde with (h | ⟨_, h⟩ | ⟨f, hf, hm', h⟩) | ⟨_, h⟩
  ·rw [h3] at h; simp at h
  ·exact h
  ·exact absurd h (zrp hC.inv.inv hde h3 f hf hm')
  exact absurd h3 h
 generalize (zao ch cache (zab n t)).1[e] = d at *;obtain ⟨o, ho, hoe, ho4⟩ := hus;obtain ⟨p, hp, rfl⟩ := List.getElem_of_mem ho;have hop : (zao ch cache (zab n t)).1[p]? = some (zao ch cache (zab n t)).1[p] := List.getElem?_eq_getElem hp;have hof := hC.inv.inv p _ hop;generalize (zao ch cache (zab n t)).1[p] = o at *
 cases hof with
 | lit => simp at ho4
 | bad => simp at ho4
 | and => simp at ho4
 | @dec l' tt a b g1 g2 g3 g4 g5 g6 g7 g8 s1 s2 =>
   have hv0 : zac (ch l') = ch l' := by rw [zal (by omega) (by omega) (by omega), if_neg (by omega)]
   have key : ∀ x, zac x = ch l' -> Side (zao ch cache (zab n t)).1 l' x e -> ∃ l tm, c.tag = some (l, tm) /\ l ≠ zab n t := fun x hx hs => by
    have hx0 : zac x ≠ 0 := by rw [hx]; omega
    rcases hs with ⟨_, f, hf, he'⟩ | ⟨_, f, k, ins, hf, e1, _, ⟨f2, hf2, e2⟩, h1, _, _⟩
    ·rw [hde] at hf; simp at hf; subst hf;rw [he'] at h3; simp at h3
    rw [hde] at hf; simp at hf; subst hf;rw [e1] at hm;simp only [zag, List.mem_map] at hm;obtain ⟨j, hj, hji⟩ := hm
    have : j = i := by omega
    subst this
    rcases List.mem_cons.1 hj with rfl | hj
    ·rw [hc] at hf2; simp at hf2; subst hf2;rw [e2] at hk; simp at hk
    obtain ⟨l, tm, h4, h5⟩ := h1.tag hn (zbl g1.gc x).gc j hj c hc hk;refine ⟨l, tm, h4, fun he => ?_⟩;have h6 := hu p l' ⟨_, tt, hop, rfl⟩ (ch l') g6;rw [<- he] at h6;exact (zbc hx0 (h5 _ h6)).2 hx.symm
   simp only [List.mem_cons, List.not_mem_nil, or_false] at hoe
   rcases hoe with h | h
   ·have : e = a := by omega
    subst this;exact key _ (by rw [zca, hv0]) s1
   have : e = b := by omega
   subst this;exact key _ hv0 s2
theorem core_root (hn : n <= 128) (hch : Chooses ch n) (ht : tOk n t) (hr : zct (zao ch cache (zab n t)) (zab n t) = true) {i : Nat} {c : Nc} (hc : (zao ch cache (zab n t)).1[i]? = some c) (hk : c.nd.kind ≠ 2) (hi : i ∈ (zao ch cache (zab n t)).2) :
 ∃ l tm, c.tag = some (l, tm) /\ l ≠ zab n t := by
 have hC := core hn hch ht cache;have hg := za2 hn ht.rg;have hf := hC.fit;unfold zct at hr;generalize hF : (zao ch cache (zab n t)).2 = F2 at *;generalize hall : zab n t = all at *
 cases hf with
 | @unit x l i' ins a hf =>
   have hl := (hg.gc [x] (by simp)).lv hn (x := x) (by simp)
   rcases List.mem_cons.1 hi with rfl | hi
   ·obtain ⟨d, hd, e⟩ := a;rw [hc] at hd; simp at hd; subst hd;rw [e] at hk; simp at hk
   obtain ⟨l', tm, h1, h2⟩ := hf.tag hn (zbl hg.gc x).gc i hi c hc hk;refine ⟨l', tm, h1, fun he => ?_⟩
   have : (zaf l').mem (zac x) = true := by rw [he]; exact zhh (c := [x]) (by simp) (by simp) hl
   exact (zbc hl (h2 _ this)).2 rfl
 | @bad l i' a b =>
   simp only [List.length_cons, List.length_nil, Bool.or_eq_true, Bool.and_eq_true, decide_eq_true_eq] at hr
   rcases hr with h | ⟨_, h⟩
   ·omega
   obtain ⟨d, hd, e⟩ := b;simp only [List.getD_cons_zero] at h;rw [zdh hd, e] at h;simp at h
 | @parts l ins a b cc =>
   obtain ⟨k, hk', rfl⟩ := List.getElem_of_mem hi
   have e1 : F2.getD k 0 = F2[k] := by simp [List.getD_eq_getElem?_getD, hk']
   obtain ⟨⟨c', tm, hc', e⟩, _⟩ := cc k hk'
   have e2 : (zaj all).getD k [] = (zaj all)[k]'(by omega) := by simp [List.getD_eq_getElem?_getD, show k < (zaj all).length by omega]
   rw [e1] at hc'; rw [e2] at e;rw [hc] at hc'; simp at hc'; subst hc';refine ⟨_, tm, e, fun he => ?_⟩;simp only [Bool.or_eq_true, Bool.and_eq_true, decide_eq_true_eq] at hr
   have h1 : 1 < F2.length := by
    rcases hr with h | ⟨_, h⟩
    ·exact h
    exfalso
    obtain ⟨_, d, hd, h4⟩ := cc 0 (by omega);rw [zdh hd, h4] at h;simp at h
   obtain ⟨k2, hk2, hne⟩ : ∃ k2, k2 < (zaj all).length /\ k2 ≠ k := by
    by_cases h : k = 0
    ·exact ⟨1, by omega, by omega⟩
    exact ⟨0, by omega, by omega⟩
   have hp2 := zcx hg.gc (List.getElem_mem hk2)
   obtain ⟨d, hd⟩ : ∃ d, d ∈ (zaj all)[k2] := by
    cases h : (zaj all)[k2] with
    | nil => exact absurd h hp2.2.1
    | cons d q => exact ⟨d, by simp⟩
   have hda := hp2.2.2 d hd;have hdl := a d hda
   obtain ⟨x, hx⟩ : ∃ x, x ∈ d := by
    cases d with
    | nil => simp at hdl
    | cons x d => exact ⟨x, by simp⟩
   have hl := (hg.gc d hda).lv hn hx;have v1 : (zaf (zaj all)[k2]).mem (zac x) = true := zhh hd hx hl
   have v2 : (zaf ((zaj all)[k]'(by omega))).mem (zac x) = true := by rw [he]; exact zhh hda hx hl
   rcases Nat.lt_or_ge k k2 with h | h
   ·exact List.pairwise_iff_getElem.1 (zo6 all) k k2 (by omega) hk2 h _ ⟨v2, v1⟩
   exact List.pairwise_iff_getElem.1 (zo6 all) k2 k hk2 (by omega) (by omega) _ ⟨v1, v2⟩
theorem comp_need (hn : n <= 128) (hch : Chooses ch n) (ht : tOk n t) {i : Nat} (hi : i < (nds (zae ch cache n t)).length) (hb : zgm (nds (zae ch cache n t)) i = true) :
 ∃ c l tm, (zae ch cache n t)[i]? = some c /\ c.tag = some (l, tm) /\ gL n l /\ ((i + 1 = (zae ch cache n t).length /\ l = zab n t) \/ (i + 1 < (zae ch cache n t).length /\ l ≠ zab n t /\ tagged (zao ch cache (zab n t)).1 i l)) := by
 have hg := za2 hn ht.rg;rw [za5] at hi
 by_cases h0 : zab n t = []
 ·have hc0 := zbf (ch := ch) (cache := cache) h0;rw [hc0] at hi ⊢
  have : i = 0 := by simpa using hi
  subst this;exact ⟨_, [], [], rfl, rfl, by rw [<- h0]; exact hg, .inl ⟨rfl, h0.symm⟩⟩
 have hC := core hn hch ht cache;unfold zgm at hb;rw [za5] at hb;simp only [Bool.or_eq_true, Bool.and_eq_true, decide_eq_true_eq] at hb
 cases hr : zct (zao ch cache (zab n t)) (zab n t) with
 | true =>
   have hN := zk8 (ch := ch) (cache := cache) h0 hr;have hF := zce (ch := ch) (cache := cache) h0 hr
   have hlen : (zae ch cache n t).length = (zao ch cache (zab n t)).1.length + 1 := by rw [hF]; simp
   rcases Nat.lt_or_ge i (zao ch cache (zab n t)).1.length with hlt | hge
   ·have hc : (zao ch cache (zab n t)).1[i]? = some (zao ch cache (zab n t)).1[i] := List.getElem?_eq_getElem hlt
    rcases hb with h | ⟨hk, hin⟩
    ·omega
    have hnd : nd (nds (zae ch cache n t)) i = (zao ch cache (zab n t)).1[i].nd := by
     rw [hN, zro (by omega) (by rw [za5]; omega), zdh hc]
    rw [hnd] at hk
    obtain ⟨l, tm, h1, h2⟩ : ∃ l tm, (zao ch cache (zab n t)).1[i].tag = some (l, tm) /\ l ≠ zab n t := by
     obtain ⟨x, hx, hm, hk3⟩ := zgg.1 hin;rw [hN] at hx
     rcases List.mem_append.1 hx with hx | hx
     ·obtain ⟨d, hd, rfl⟩ := List.mem_map.1 hx;exact core_inner hn hch ht hc hk hd hm hk3
     simp at hx; subst hx;simp only [zag, List.mem_map] at hm;obtain ⟨m, hm, e⟩ := hm
     have : m = i := by omega
     subst this;exact core_root hn hch ht hr hc hk hm
    have htag : tagged (zao ch cache (zab n t)).1 i l := ⟨_, tm, hc, h1⟩
    exact ⟨_, l, tm, by rw [hF]; exact zdw hc, h1, (zfi hC.inv.inv htag).1, .inr ⟨by omega, h2, htag⟩⟩
   have : i = (zao ch cache (zab n t)).1.length := by omega
   subst this;exact ⟨⟨⟨3, 0, zag (zao ch cache (zab n t)).2⟩, some (zab n t, [])⟩, _, [], by rw [hF]; simp, rfl, hg, .inl ⟨by omega, rfl⟩⟩
 | false =>
   have hN := zk9 (ch := ch) (cache := cache) h0 hr;have hF := zcf (ch := ch) (cache := cache) h0 hr
   have hlen : (zae ch cache n t).length = (zao ch cache (zab n t)).1.length := by rw [hF]; simp
   have hlt : i < (zao ch cache (zab n t)).1.length := by omega
   have hc : (zao ch cache (zab n t)).1[i]? = some (zao ch cache (zab n t)).1[i] := List.getElem?_eq_getElem hlt
   by_cases hlast : i + 1 = (zae ch cache n t).length
   ·refine ⟨⟨nd (nds (zao ch cache (zab n t)).1) ((zao ch cache (zab n t)).1.length - 1 : Nat), some (zab n t, [])⟩, _, [], ?_, rfl, hg, .inl ⟨hlast, rfl⟩⟩;rw [hF, List.getElem?_set, if_pos (by omega), if_pos (by omega)]
   rcases hb with h | ⟨hk, hin⟩
   ·exact absurd h hlast
   have hnd : nd (nds (zae ch cache n t)) i = (zao ch cache (zab n t)).1[i].nd := by rw [hN, zdh hc]
   rw [hnd] at hk;obtain ⟨x, hx, hm, hk3⟩ := zgg.1 hin;rw [hN] at hx;obtain ⟨d, hd, rfl⟩ := List.mem_map.1 hx;obtain ⟨l, tm, h1, h2⟩ := core_inner hn hch ht hc hk hd hm hk3
   have htag : tagged (zao ch cache (zab n t)).1 i l := ⟨_, tm, hc, h1⟩
   refine ⟨_, l, tm, ?_, h1, (zfi hC.inv.inv htag).1, .inr ⟨by omega, h2, htag⟩⟩;rw [hF, List.getElem?_set_ne (by omega)]; exact hc
theorem comp_diff (hn : n <= 128) (hch : Chooses ch n) (ht : tOk n t) {i j : Nat} {c d : Nc} {l : List Cl} {tm tm' : Cl} (hi : i < (nds (zae ch true n t)).length) (hj : j < (nds (zae ch true n t)).length) (hbi : zgm (nds (zae ch true n t)) i = true) (hbj : zgm (nds (zae ch true n t)) j = true)
 (hc : (zae ch true n t)[i]? = some c) (hd : (zae ch true n t)[j]? = some d) (ec : c.tag = some (l, tm)) (ed : d.tag = some (l, tm')) : i = j := by
 have hC := core hn hch ht true;obtain ⟨c', l1, t1, a1, a2, _, a3⟩ := comp_need hn hch ht hi hbi;obtain ⟨d', l2, t2, b1, b2, _, b3⟩ := comp_need hn hch ht hj hbj;rw [hc] at a1; simp at a1; subst a1;rw [hd] at b1; simp at b1; subst b1;rw [ec] at a2; rw [ed] at b2;simp only [Option.some.injEq, Prod.mk.injEq] at a2 b2;obtain ⟨rfl, _⟩ := a2;obtain ⟨rfl, _⟩ := b2
 rcases a3 with ⟨h1, h2⟩ | ⟨h1, h2, h3⟩ <;> rcases b3 with ⟨k1, k2⟩ | ⟨k1, k2, k3⟩
 ·omega
 ·exact absurd h2 k2
 ·exact absurd k2 h2
 exact hC.inv.sh rfl i j l h3 k3
end
end Cen
