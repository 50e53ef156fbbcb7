/- Part of the proofs that laws of censuslaw24 return true for every input, where the tables that the rows list are laid. Texts: Fa, Fc, Fd, R20E, Fe, Fw. -/
import Derived.Test.YtfmmhjphopikgaaGreatDoorYC30
import Derived.Test.YtfmmhjphopikgaaGreatDoorYC6
import Derived.Test.YtfmmhjphopikgaaGreatDoorYC16
import Derived.Test.YtfmmhjphopikgaaGreatDoorYC28
import Derived.Test.YtfmmhjphopikgaaGreatDoorYC39
import Derived.Test.YtfmmhjphopikgaaGreatDoorYC1
import Derived.Test.YtfmmhjphopikgaaGreatDoorYC32
import Derived.Deep.RegionHeld3
import Derived.Test.YtfmmhjphopikgaaGreatDoorYC29
import Derived.Test.YtfmmhjphopikgaaGreatDoorYC41
import Derived.BigRegion
set_option maxHeartbeats 8000000
set_option maxRecDepth 100000
set_option linter.unusedSimpArgs false
set_option linter.unusedVariables false
namespace Go.Proofs.YtfmmhjphopikgaaGreatDoor
open Go.RowKit Cen
theorem zic : ∀ (xs : List Int) (s : St) (v : Int), (xs.foldl St.add s).mem v = (s.mem v || (decide (1 <= v) && (decide (v <= 128) && xs.contains v)))
 | [], s, v => by simp
 | x :: xs, s, v => by
   show (xs.foldl St.add (s.add x)).mem v = _
   rw [zic xs (s.add x) v, St.mem_add, List.contains_cons]
   by_cases e : v = x
   ·subst e
    by_cases h1 : 1 <= v <;> by_cases h2 : v <= 128 <;> simp [h1, h2]
   rw [decide_eq_false e, show (v == x) = false by simpa using e]
   simp
theorem zwg (xs : List Int) : ofB xs = ofL xs := by
 apply St.ext (zvf xs) (zvg xs)
 intro v _ _;rw [zru];unfold ofL;rw [zic, St.mem_zero, Bool.false_or]
def ordB (xs : List Int) (n : Int) : Bool := decide ((xs.length : Int) = n) && eqSt (ofL xs) (zcy n)
theorem znr (oa : Option Addr) (oc : Nat) (xs : List Int) (n : Int) (w : World) (hn : n <= 1073741824) (hx : IntCells w oa xs) :
 Calls Tryz.prog 68 #[.slice oa xs.length oc, .int .i64 n] w fun e w' => e = .returned (.bool (ordB xs n)) /\ Below w.heap.size w w' := by
 by_cases h1 : (xs.length : Int) = n
 ·have HOF := lh (zrt oa oc xs w hx (by omega));rw [zwg] at HOF;have HAL := lh (fun W => zss n W)
  have HR : Hid (ordB xs n = eqSt (ofL xs) (zcy n)) := by show _ = _; unfold ordB; rw [decide_eq_true h1, Bool.true_and]
  have hb : ((xs.length : Int) == n) = true := by simpa using h1
  have hd : decide ((xs.length : Int) = n) = true := by simpa using h1
  have hgd := ze9;clear hx h1;generalize ofL xs = s1 at *;generalize zcy n = s2 at *
  have hn2 : ∀ w : World, (binOp .eql 56 (.agg #[.int .u64 (s1.a : Int), .int .u64 (s1.b : Int)]) (.agg #[.int .u64 (s2.a : Int), .int .u64 (s2.b : Int)])).run Tryz.prog w = .ok (.bool (eqSt s1 s2)) w := fun w => znv _ _ w
  generalize eqSt s1 s2 = r at *;go_enter Tryz.func68, Tryz.ntmps68;go_wp2_with fail;refine HOF.o.mono ?_;rintro e w1 ⟨rfl, hb1⟩;have HB1 := lh hb1;clear hb1;go_wp2_with fail;refine (HAL.o _).mono ?_;rintro e w2 ⟨rfl, hb2⟩;have HB2 := lh (HB1.o.trans (hb2.mono HB1.o.size));clear hb2;go_wp2;go_ret;exact ⟨zah HR.o.symm, HB2.o⟩
 have HR : Hid (ordB xs n = false) := by show _ = _; unfold ordB; rw [decide_eq_false h1, Bool.false_and]
 have hb : ((xs.length : Int) == n) = false := by simpa using h1
 have hd : decide ((xs.length : Int) = n) = false := by simpa using h1
 clear hx h1;go_enter Tryz.func68, Tryz.ntmps68;go_wp2;go_ret;exact ⟨zah HR.o.symm, Below.refl _ _⟩
theorem zh0 (n : Int) (a : Option Addr) (cap : Nat) (t : List Cl) (oa : Option Addr) (oc : Nat) (order : List Int) (w : World) (hl : t.length <= 1073741824) (hx : LsCells w a t) (ho : IntCells w oa order) :
 Calls Tryz.prog 28 #[.agg #[.int .i64 n, .slice a t.length cap], .slice oa order.length oc] w fun e w' => e = .returned (.int .i64 (za0 n t order)) /\ Below w.heap.size w w' := by
 have hb0 : Below w.heap.size w (w.alloc (.cells #[.int .i64 n, .slice a t.length cap] 24)) := (Below.refl _ _).alloc (Nat.le_refl _) _;have HB0 := lh hb0;have HX := lh hx;have HO := lh ho;have q0 := lh (Blk.new w #[.int .i64 n, .slice a t.length cap] 24);clear hb0 hx ho;go_enter Tryz.func28, Tryz.ntmps28;go_wp2_with fail;refine (zgd n a cap t _ hl (HX.o.keep HB0.o)).mono ?_;rintro e w1 ⟨rfl, hb1⟩;have HB1 := lh (HB0.o.trans (hb1.mono HB0.o.size));have p0 := q0.out.later hb1;have c0 := p0.cell 0;have hs1 := p0.lt;clear hb1 p0
 obtain ⟨c, hc⟩ : ∃ c, c = chkT n t := ⟨_, rfl⟩
 have HC := lh hc;rw [<- hc];clear hc
 by_cases hz : c = 0
 ·subst hz
  have hn8 : n <= 1073741824 := by
   have h := HC.o;unfold chkT at h
   split at h
   ·simp at h
   omega
  have HF : Hid (za0 n t order = if 0 < order.length /\ ((order.length : Int) ≠ n \/ ofL order ≠ zcy n) then 1 else 0) := by
   show _ = _
   unfold za0;rw [if_neg (by rw [<- HC.o]; simp)]
  by_cases h0 : order.length = 0
  ·have hi0 : ¬ (0 : Int) < (order.length : Int) := by omega
   have HR : Hid (za0 n t order = 0) := by
    show _ = _
    rw [HF.o, if_neg (by omega)]
   go_wp2;go_ret;exact ⟨by rw [HR.o]; rfl, HB1.o⟩
  have hi0 : (0 : Int) < (order.length : Int) := by omega
  have hp0 : 0 < order.length := by omega
  have HO2 := lh (fun W hb => znr oa oc order n W hn8 (HO.o.keep (HB1.o.trans (Below.mono (B := w1.heap.size) (w := w1) (w' := W) hb HB1.o.size))))
  have HR : Hid (za0 n t order = if ordB order n then 0 else 1) := by
   show _ = _
   rw [HF.o];unfold ordB eqSt
   by_cases h1 : (order.length : Int) = n <;> by_cases h2 : ofL order = zcy n <;> simp [h1, h2, hp0]
  cases ho : ordB order n
  all_goals
   rw [ho] at HO2 HR;clear ho;go_wp2_with fail;refine (HO2.o _ (Below.refl _ _)).mono ?_;rintro e w2 ⟨rfl, hb2⟩;have HB2 := lh (HB1.o.trans (hb2.mono HB1.o.size));clear hb2;go_wp2;go_ret;exact ⟨by rw [HR.o]; rfl, HB2.o⟩
 have HR : Hid (za0 n t order = c) := by
  show _ = _
  unfold za0;rw [<- HC.o, if_pos hz]
 go_wp2;go_ret;exact ⟨by rw [HR.o]; rfl, HB1.o⟩
def zch (n : Int) (t : List Cl) : Bool := decide (n <= 9) && (decide (t.length <= 40) && (decide (chkT n t = 0) && t.all fun c => decide (c.length <= 10)))
theorem zip (n : Int) (a : Option Addr) (cap : Nat) (t : List Cl) (w : World) (hx : LsCells w a t) :
 Calls Tryz.prog 8 #[.agg #[.int .i64 n, .slice a t.length cap]] w fun e w' => e = .returned (.bool (zch n t)) /\ Below w.heap.size w w' := by
 have hb0 : Below w.heap.size w (w.alloc (.cells #[.int .i64 n, .slice a t.length cap] 24)) := (Below.refl _ _).alloc (Nat.le_refl _) _;have HB0 := lh hb0;have HX := lh (hx.keep hb0);have Q0 := lh (Blk.new w #[.int .i64 n, .slice a t.length cap] 24);clear hb0 hx
 by_cases h1 : 9 < n
 ·have HR : Hid (zch n t = false) := by show _ = _; unfold zch; rw [decide_eq_false (show ¬ n <= 9 by omega), Bool.false_and]
  go_enter Tryz.func8, Tryz.ntmps8;go_wp2;go_ret;exact ⟨zah HR.o.symm, HB0.o⟩
 have h1' : n <= 9 := by omega
 have HR1 : Hid (zch n t = (decide (t.length <= 40) && (decide (chkT n t = 0) && t.all fun c => decide (c.length <= 10)))) := by show _ = _; unfold zch; rw [decide_eq_true h1', Bool.true_and]
 by_cases h2 : 40 < t.length
 ·have HR : Hid (zch n t = false) := by show _ = _; rw [HR1.o, decide_eq_false (show ¬ t.length <= 40 by omega), Bool.false_and]
  have h2i : (40 : Int) < (t.length : Int) := by omega
  go_enter Tryz.func8, Tryz.ntmps8;go_wp2;go_ret;exact ⟨zah HR.o.symm, HB0.o⟩
 have h2i : (t.length : Int) <= 40 := by omega
 have HR2 : Hid (zch n t = (decide (chkT n t = 0) && t.all fun c => decide (c.length <= 10))) := by show _ = _; rw [HR1.o, decide_eq_true (show t.length <= 40 by omega), Bool.true_and]
 have HC := lh (fun W hW => zgd n a cap t W (by omega) (HX.o.keep (w' := W) hW));generalize chkT n t = c at *
 by_cases hz : c = 0
 ·subst hz
  have HR3 : Hid (zch n t = (t.drop 0).all fun c => decide (c.length <= 10)) := by show _ = _; rw [HR2.o]; simp
  generalize zch n t = R at *;go_enter Tryz.func8, Tryz.ntmps8;go_wp2_with fail;refine (HC.o _ (Below.refl _ _)).mono ?_;rintro e w1 ⟨rfl, hb1⟩;have HB1 := lh hb1;clear hb1;generalize w.alloc (.cells #[.int .i64 n, .slice a t.length cap] 24) = w0 at *;go_wp2_with fail
  go_loopw [3] (fun i wr => ∃ k : Nat, k <= t.length /\ i = .int .i64 k /\ Below w0.heap.size w0 wr /\ R = (t.drop k).all fun c => decide (c.length <= 10)) (fun i _ => t.length - (intOf i).toNat)
  case atStart => exact ⟨0, Nat.zero_le _, rfl, HB1.o, HR3.o⟩
  obtain ⟨k, hk, rfl, hbr, hch⟩ := hrel;have HCH := lh hch;have HBR := lh hbr;have HBW := lh (HB0.o.trans (hbr.mono HB0.o.size));have HXR := lh (HX.o.keep hbr);have P0 := lh (Q0.o.later hbr);have k0 := P0.o.cell 0;have k1 := P0.o.cell 1;have y0 := P0.o.lt;clear hch hbr
  by_cases hlt : k < t.length
  ·obtain ⟨b1, off1, ai, ci, rfl, hc1, hi⟩ := HXR.o k hlt
   have HD : Hid (((t.drop k).all fun c => decide (c.length <= 10)) = (decide ((t.getD k []).length <= 10) && (t.drop (k + 1)).all fun c => decide (c.length <= 10))) := by
    show _ = _; rw [List.drop_eq_getElem_cons hlt, List.all_cons]; simp [List.getD_eq_getElem?_getD, hlt]
   have hki : (k : Int) < (t.length : Int) := by omega
   generalize t.getD k [] = c at *;clear hi
   by_cases h10 : 10 < c.length
   ·have hci : (10 : Int) < (c.length : Int) := by omega
    have HN : Hid (R = false) := by show _ = _; rw [HCH.o, HD.o, decide_eq_false (show ¬ c.length <= 10 by omega), Bool.false_and]
    go_wp2;go_ret;exact ⟨by rw [HN.o]; rfl, HBW.o⟩
   have hci : (c.length : Int) <= 10 := by omega
   have HN : Hid (R = (t.drop (k + 1)).all fun c => decide (c.length <= 10)) := by show _ = _; rw [HCH.o, HD.o, decide_eq_true (show c.length <= 10 by omega), Bool.true_and]
   go_wp2;go_roundw
   case rel => exact ⟨k + 1, by omega, by go_num, HBR.o, HN.o⟩
   case measure => simp [intOf]; omega
  have hke : k = t.length := by omega
  subst hke
  have HN : Hid (R = true) := by show _ = _; rw [HCH.o, List.drop_length]; rfl
  go_wp2;go_ret;exact ⟨by rw [HN.o]; rfl, HBW.o⟩
 have HR : Hid (zch n t = false) := by show _ = _; rw [HR2.o, decide_eq_false hz, Bool.false_and]
 have hcn : (c != 0) = true := by simpa using hz
 have hcd : decide (c = 0) = false := by simpa using hz
 go_enter Tryz.func8, Tryz.ntmps8;go_wp2_with fail;refine (HC.o _ (Below.refl _ _)).mono ?_;rintro e w1 ⟨rfl, hb1⟩;have HB1 := lh (HB0.o.trans (hb1.mono HB0.o.size));clear hb1;go_wp2;go_ret;exact ⟨zah HR.o.symm, HB1.o⟩
theorem zoo (n : Int) (a : Option Addr) (cap : Nat) (t : List Cl) (oa : Option Addr) (oc : Nat) (order : List Int) (o1 o2 : Bool) (w : World) (hl : t.length <= 1073741824) (hx : LsCells w a t) (ho : IntCells w oa order) :
 Calls Tryz.prog 9 #[.agg #[.int .i64 n, .slice a t.length cap], .agg #[.slice oa order.length oc, .bool o1, .bool o2]] w fun e w' => e = .returned (.bool (decide (za0 n t order = 0))) /\ Below w.heap.size w w' := by
 have hb0 : Below w.heap.size w ((w.alloc (.cells #[.int .i64 n, .slice a t.length cap] 24)).alloc (.cells #[.slice oa order.length oc, .bool o1, .bool o2] 27)) := ((Below.refl _ _).alloc (Nat.le_refl _) _).alloc (by simp) _;have HB0 := lh hb0;have HC := lh (zh0 n a cap t oa oc order _ hl (hx.keep hb0) (ho.keep hb0));clear hb0 hx ho;go_enter Tryz.func9, Tryz.ntmps9;go_wp2_with fail;refine HC.o.mono ?_;rintro e w1 ⟨rfl, hb1⟩;have HB1 := lh (HB0.o.trans (hb1.mono HB0.o.size));clear hb1
 obtain ⟨c, hc⟩ : ∃ c, c = za0 n t order := ⟨_, rfl⟩
 rw [<- hc];have HCE := lh hc;clear hc
 by_cases hz : c = 0
 ·subst hz
  have HR : Hid (decide (za0 n t order = 0) = true) := by show _ = _; rw [<- HCE.o]; rfl
  go_wp2;go_ret;exact ⟨zah HR.o.symm, HB1.o⟩
 have HR : Hid (decide (za0 n t order = 0) = false) := by show _ = _; rw [<- HCE.o]; exact decide_eq_false hz
 have hd : (c == 0) = false := by simpa using hz
 go_wp2;go_ret;exact ⟨zah HR.o.symm, HB1.o⟩
theorem zxb {n : Nat} {T : Cl} (h : gT n T) : T.length <= 129 := by
 have := zcj (l := T.map zac) (b := 129) (by show List.Pairwise _ _; rw [List.pairwise_map]; exact h.nd) (fun i hi => by
  obtain ⟨x, _, rfl⟩ := List.mem_map.1 hi;unfold zac
  split
  ·omega
  split <;> omega)
 simpa using this
theorem zs8 {ch : List Cl -> Int} {n : Nat} {t : List Cl} {cache : Bool} (hn : n <= 128) (hch : Chooses ch n) (ht : tOk n t) {i : Nat} {c : Nc} {l : List Cl} {term : Cl} (hc : (zae ch cache n t)[i]? = some c) (htag : c.tag = some (l, term)) : gT n term /\ l.length <= 4096 := by
 have hal : (zab n t).length <= 4096 := Nat.le_trans (zbx n t) ht.len
 by_cases h0 : zab n t = []
 ·rw [zbf h0] at hc;have := List.mem_of_getElem? hc;simp only [List.mem_singleton] at this;subst this;simp only [Option.some.injEq, Prod.mk.injEq] at htag;obtain ⟨rfl, rfl⟩ := htag;exact ⟨gT.nil n, by simp⟩
 have hC := core hn hch ht cache
 have hcore : ∀ (i : Nat) (c : Nc), (zao ch cache (zab n t)).1[i]? = some c -> c.tag = some (l, term) -> gT n term /\ l.length <= 4096 := fun i c hc htag => ⟨(hC.inv.tg i c l term hc htag).1, zsd hn hch ht ⟨c, term, hc, htag⟩⟩
 cases hr : zct (zao ch cache (zab n t)) (zab n t) with
 | true =>
   rw [zce h0 hr, List.getElem?_append] at hc
   split at hc
   ·exact hcore i c hc htag
   have := List.mem_of_getElem? hc;simp only [List.mem_singleton] at this;subst this;simp only [Option.some.injEq, Prod.mk.injEq] at htag;obtain ⟨rfl, rfl⟩ := htag;exact ⟨gT.nil n, hal⟩
 | false =>
   rw [zcf h0 hr, List.getElem?_set] at hc
   split at hc
   ·split at hc
    ·obtain rfl := (Option.some.inj hc).symm;simp only [Option.some.injEq, Prod.mk.injEq] at htag;obtain ⟨rfl, rfl⟩ := htag;exact ⟨gT.nil n, hal⟩
    simp at hc
   exact hcore i c hc htag
theorem zs4 {ch : List Cl -> Int} {n : Nat} {t : List Cl} {cache : Bool} (hn : n <= 12) (hch : Chooses ch n) (ht : tOk n t) : (zae ch cache n t).length <= 20000 := by
 have h1 := (zky (cache := cache) (show n <= 128 by omega) hch ht).1;have hg := za2 (show n <= 128 by omega) ht.rg
 have h3 := zm2 (show n <= 128 by omega) (l := zab n t) fun c hc x hx => (hg.gc c hc).rg x hx
 have h4 := zwz (show card (zaf (zab n t)) <= 12 by omega);have h5 : FB 12 = 16381 := rfl;omega
def zwx (ch : List Cl -> Int) (cache : Bool) (n : Nat) (t : List Cl) (C : List Clm) : Prop :=
 ∀ (i : Nat) (c : Nc), (zae ch cache n t)[i]? = some c -> match c.tag with | none => C.getD i ⟨[], []⟩ = ⟨[], []⟩ | some (l, term) => ∃ a, C.getD i ⟨[], []⟩ = ⟨term, a⟩ /\ ClOf n t l term a
theorem zv2 {ch : List Cl -> Int} {n : Nat} {t : List Cl} {cache : Bool} (hn : n <= 12) (hch : Chooses ch n) (ht : tOk n t) {C : List Clm} (hC : C.length = (zae ch cache n t).length) (hcl : zwx ch cache n t C) :
 PfB ⟨n, t, nds (zae ch cache n t), C⟩ /\ ∀ i, i < (nds (zae ch cache n t)).length -> Prf.node ⟨n, t, nds (zae ch cache n t), C⟩ i := by
 have hn2 : n <= 128 := by omega
 have hfew := zs4 (cache := cache) hn hch ht;refine ⟨⟨⟨hn2, ht, zs7 (n := n) (t := t) (cache := cache) hn2 hch ht (by omega), by simp only [za5]; exact hC, fun c hc => ?_⟩, zoe hn2 hch ht⟩, ?_⟩
 ·obtain ⟨i, hi, rfl⟩ := List.getElem_of_mem hc;simp only at hi ⊢
  have hgd : C[i] = C.getD i ⟨[], []⟩ := by simp [List.getD_eq_getElem?_getD, hi]
  have hci : (zae ch cache n t)[i]? = some ((zae ch cache n t)[i]'(by omega)) := List.getElem?_eq_getElem (by omega);have h1 := hcl i _ hci;rw [hgd]
  split at h1
  ·rw [h1]; simp
  rename_i l term htag
  obtain ⟨a, e, hcl2⟩ := h1;have h2 := zs8 hn2 hch ht hci htag;rw [e];obtain ⟨m, h3, h4, _⟩ := hcl2
  have h5 : a.length = l.length := by
   rw [h3, <- h4]; simp [zcu]
  have := zxb h2.1;exact ⟨by simp only; omega, by simp only; omega⟩
 exact zqv (p := ⟨n, t, nds (zae ch cache n t), C⟩) hn2 hch ht rfl rfl rfl fun i c l term hci htag => by
  have h1 := hcl i c hci;rw [htag] at h1;exact h1
theorem zk6 {p q r s t : Prop} (h : p /\ q /\ r /\ s /\ t) : t := h.2.2.2.2
theorem zr4 (n : Int) (a : Option Addr) (cap : Nat) (l : List Nd) (s : St) (w : World) (hl : l.length <= 1073741824) (hx : NdCells w a l) (hs : s.ok) :
 Calls Tryz.prog 30 #[.agg #[.int .i64 n, .slice a l.length cap], stv s] w fun e w' => e = .returned (.bool (zdi ⟨n, l⟩ && ev s.mem ⟨n, l⟩)) /\ Below w.heap.size w w' := by
 have hb0 : Below w.heap.size w ((w.alloc (.cells #[.int .i64 n, .slice a l.length cap] 33)).alloc (.cells #[.int .u64 (s.a : Int), .int .u64 (s.b : Int)] 56)) := ((Below.refl _ _).alloc (Nat.le_refl _) _).alloc (by simp) _;have HB0 := lh hb0;have HX := lh (hx.keep hb0);have q0 := lh ((Blk.new w #[.int .i64 n, .slice a l.length cap] 33).alloc (.cells #[.int .u64 (s.a : Int), .int .u64 (s.b : Int)] 56));have q1 := lh (Blk.new' (w.alloc (.cells #[.int .i64 n, .slice a l.length cap] 33)) (World.size_alloc _ _) #[.int .u64 (s.a : Int), .int .u64 (s.b : Int)] 56);have HS := lh hs;clear hb0 hx hs;go_enter Tryz.func30, Tryz.ntmps30
 go_wp2_with fail;generalize (w.alloc (.cells #[.int .i64 n, .slice a l.length cap] 33)).alloc (.cells #[.int .u64 (s.a : Int), .int .u64 (s.b : Int)] 56) = W at *;have HZ := lh HB0.o.size;have k0 : W.cell? ⟨w.heap.size, 0, none⟩ = some (.int .i64 n) := q0.out.cell 0;have k1 : W.cell? ⟨w.heap.size, 1, none⟩ = some (.slice a l.length cap) := q0.out.cell 1;have k2 : W.cell? ⟨w.heap.size + 1, 0, none⟩ = some (.int .u64 (s.a : Int)) := q1.out.cell 0;have k3 : W.cell? ⟨w.heap.size + 1, 1, none⟩ = some (.int .u64 (s.b : Int)) := q1.out.cell 1
 have HKS : Hid (∀ w' : World, Below W.heap.size W w' -> w'.cell? ⟨w.heap.size, 0, none⟩ = some (.int .i64 n) /\ w'.cell? ⟨w.heap.size, 1, none⟩ = some (.slice a l.length cap) /\ w'.cell? ⟨w.heap.size + 1, 0, none⟩ = some (.int .u64 (s.a : Int)) /\ w'.cell? ⟨w.heap.size + 1, 1, none⟩ = some (.int .u64 (s.b : Int)) /\ Below W.heap.size W w') := lh fun w' hb => ⟨zaa hb k0, zaa hb k1, zaa hb k2, zaa hb k3, hb⟩
 have HV : Hid (∀ V, Below W.heap.size W V -> Calls Tryz.prog 12 #[.agg #[.int .i64 n, .slice a l.length cap]] V fun e w' => e = .returned (.bool (zdi ⟨n, l⟩)) /\ Below V.heap.size V w') := lh fun V hb => zgp n a cap l V hl (HX.o.keep hb)
 cases hok : zdi ⟨n, l⟩ with
 | false =>
   rw [hok] at HV;have HOKF := lh hok;clear hok;refine wp_region_held_drew (S := (fun w' => w'.cell? ⟨w.heap.size, 0, none⟩ = some (.int .i64 n) /\ w'.cell? ⟨w.heap.size, 1, none⟩ = some (.slice a l.length cap) /\ w'.cell? ⟨w.heap.size + 1, 0, none⟩ = some (.int .u64 (s.a : Int)) /\ w'.cell? ⟨w.heap.size + 1, 1, none⟩ = some (.int .u64 (s.b : Int)) /\ Below W.heap.size W w')) (by kernel_rfl) ?_ (fun hHeld => ?_)
   ·try dsimp only
    exact HKS.o _ (Below.refl _ _).drew
   refine tkV 0 5 rfl rfl ?_; try simp only [tkS]
   refine tkR 1 (.cons rfl (fun K hK => ?_) .nil);go_simp;go_at_call 12;refine (HV.o _ (zk6 (by assumption))).mono ?_;rintro e w1 ⟨rfl, hb1⟩;have hw1 : Below W.heap.size W w1 := Below.trans (zk6 (by assumption)) (hb1.mono (Below.size (B := W.heap.size) (w := W) (zk6 (by assumption))));go_wp2_with fail;refine hK.out _ _ ?_ (fun hHeld => ?_)
   ·try dsimp only
    exact HKS.o _ hw1
   clear hK K
   try simp only [tkS]
   refine tkV 2 7 rfl rfl ?_; try simp only [tkS]
   refine tkO 3 8 rfl rfl ?_; try simp only [tkS]
   refine tkO 4 9 rfl rfl ?_; try simp only [tkS]
   refine tkO 5 10 rfl rfl ?_; try simp only [tkS]
   refine tkO 6 11 rfl rfl ?_; try simp only [tkS]
   refine tkO 7 12 rfl rfl ?_; try simp only [tkS]
   refine tkO 8 13 rfl rfl ?_; try simp only [tkS]
   refine tkO 9 14 rfl rfl ?_; try simp only [tkS]
   refine tkO 10 15 rfl rfl ?_; try simp only [tkS]
   refine tkO 11 16 rfl rfl ?_; try simp only [tkS]
   refine tkV 12 17 rfl rfl ?_; try simp only [tkS]
   refine tkV 13 4 rfl rfl ?_; try simp only [tkS]
   refine wpAnyH_done (by kernel_rfl) ?_ _
   all_goals
    have HFB := lh (HB0.o.trans (Below.mono (B := W.heap.size) (zk6 (by assumption)) HZ.o));go_wp2;go_ret;exact ⟨zah (by rw [HOKF.o]; rfl), HFB.o⟩
 | true =>
   rw [hok] at HV;have HOKT := lh hok
   obtain ⟨m, hm⟩ : ∃ m, l.length - 1 = m := ⟨_, rfl⟩
   have hl1 := (zcv hok).2.2.1;simp only at hl1
   have e1 : ((l.length : Int) - 1) = (m : Int) := by omega
   have hwr : IntKind.i64.wrap ((l.length : Int) - 1) = (m : Int) := by rw [e1]; exact IntWalk.i64_in _ (by omega)
   have hml : (m : Int) < (l.length : Int) := by omega
   have hm0 : (0 : Int) <= (m : Int) := by omega
   have h1l : (1 : Int) <= (l.length : Int) := by omega
   have hA : (0 : Int) <= (l.length : Int) - 1 := by omega
   have hB : (l.length : Int) - 1 < (l.length : Int) := by omega
   have hC : ((l.length : Int) - 1).toNat = m := by omega
   have hD : (l.length : Int).toNat - 1 = m := by omega
   clear e1;have hwr2 : IntKind.i64.wrap ((l.length : Int) - 1) = (l.length : Int) - 1 := IntWalk.i64_in _ (by omega);clear hwr
   have HML : Hid (m < l.length) := by show _ < _; omega
   have HTR : Hid (∀ V, Below W.heap.size W V -> Calls Tryz.prog 69 #[.agg #[.int .i64 n, .slice a l.length cap], stv s] V fun e w' => ∃ g cap', e = .returned (.slice (some ⟨g, 0, none⟩) l.length cap') /\ OwnL bc 4 1 w' V.heap.size (.slice (some ⟨g, 0, none⟩) l.length cap') (zc7 s.mem l) /\ Below V.heap.size V w') := lh fun V hb => zp0 n a cap l s V hok (HX.o.keep hb) HS.o
   have HEV : Hid (ev s.mem ⟨n, l⟩ = (zc7 s.mem l).getD m false) := by show _ = _; unfold ev; simp only [hm]
   have HTL := lh (zcl s.mem l);generalize zc7 s.mem l = vs at *
   have HVM : Hid (vs.getD m false = vs[m]'(by rw [HTL.o]; exact HML.o)) := by show _ = _; simp [List.getD_eq_getElem?_getD, HTL.o, HML.o]
   clear hok hm hl1;refine wp_region_held_drew (S := (fun w' => w'.cell? ⟨w.heap.size, 0, none⟩ = some (.int .i64 n) /\ w'.cell? ⟨w.heap.size, 1, none⟩ = some (.slice a l.length cap) /\ w'.cell? ⟨w.heap.size + 1, 0, none⟩ = some (.int .u64 (s.a : Int)) /\ w'.cell? ⟨w.heap.size + 1, 1, none⟩ = some (.int .u64 (s.b : Int)) /\ Below W.heap.size W w')) (by kernel_rfl) ?_ (fun hHeld => ?_)
   ·try dsimp only
    exact HKS.o _ (Below.refl _ _).drew
   refine tkV 0 5 rfl rfl ?_; try simp only [tkS]
   refine tkR 1 (.cons rfl (fun K hK => ?_) .nil);go_simp;go_at_call 12;refine (HV.o _ (zk6 (by assumption))).mono ?_;rintro e w1 ⟨rfl, hb1⟩;have hw1 : Below W.heap.size W w1 := Below.trans (zk6 (by assumption)) (hb1.mono (Below.size (B := W.heap.size) (w := W) (zk6 (by assumption))));go_wp2_with fail;refine hK.out _ _ ?_ (fun hHeld => ?_)
   ·try dsimp only
    exact HKS.o _ hw1
   clear hK K
   try simp only [tkS]
   refine tkV 2 7 rfl rfl ?_; try simp only [tkS]
   refine tkV 3 8 rfl rfl ?_; try simp only [tkS]
   refine tkV 4 9 rfl rfl ?_; try simp only [tkS]
   refine tkV 6 11 rfl rfl ?_; try simp only [tkS]
   refine tkV 7 12 rfl rfl ?_; try simp only [tkS]
   refine tkV 8 13 rfl rfl ?_; try simp only [tkS]
   refine tkV 9 14 rfl rfl ?_; try simp only [tkS]
   refine tkR 5 (.cons rfl (fun K hK => ?_) .nil);go_simp;go_at_call 69;refine (HTR.o _ (zk6 (by assumption))).mono ?_;rintro e w2 ⟨g, cap2, rfl, ho2, hb2⟩;have hw2 : Below W.heap.size W w2 := Below.trans hw1 (hb2.mono (Below.size (B := W.heap.size) (w := W) hw1))
   have f0 : w2.cell? ⟨g, m, none⟩ = some (.bool (vs.getD m false)) := by have := ho2.cell HTL.o.symm zht m 0 (by rw [HTL.o]; exact HML.o) (by omega); rw [HVM.o]; simpa [bc] using this
   clear ho2;go_wp2_with fail;refine hK.out _ _ ?_ (fun hHeld => ?_)
   ·try dsimp only
    exact HKS.o _ hw2
   clear hK K
   try simp only [tkS]
   refine tkV 10 15 rfl rfl ?_; try simp only [tkS]
   refine tkR 11 (.cons rfl (fun K hK => ?_) .nil);go_simp;refine hK.out _ _ ?_ (fun hHeld => ?_)
   ·try dsimp only
    exact HKS.o _ hw2
   clear hK K
   try simp only [tkS]
   refine tkV 12 17 rfl rfl ?_; try simp only [tkS]
   refine tkV 13 4 rfl rfl ?_; try simp only [tkS]
   refine wpAnyH_done (by kernel_rfl) ?_ _
   all_goals
    have HFB := lh (HB0.o.trans (Below.mono (B := W.heap.size) (zk6 (by assumption)) HZ.o));go_wp2;go_ret;exact ⟨zah (by rw [HOKT.o, HEV.o]; rfl), HFB.o⟩
structure Gdt (n : Nat) (t : List Cl) (order : List Int) : Prop where
 n9 : n <= 9
 tl : t.length <= 40
 cl : ∀ c ∈ t, c.length <= 10
 ck : za0 n t order = 0
theorem Gdt.ct {n : Nat} {t : List Cl} {order : List Int} (h : Gdt n t order) : chkT n t = 0 := by
 have := h.ck;unfold za0 at this
 split at this
 ·exact absurd this (by assumption)
 rename_i h; simpa using h
theorem Gdt.tok {n : Nat} {t : List Cl} {order : List Int} (h : Gdt n t order) : tOk n t := (zbu (by have := h.n9; omega)).1 h.ct
theorem Gdt.ol {n : Nat} {t : List Cl} {order : List Int} (h : Gdt n t order) : order.length <= n := by
 have := h.ck;unfold za0 at this
 split at this
 ·exact absurd this (by assumption)
 split at this
 ·simp at this
 rename_i h2
 refine Classical.byContradiction fun h3 => h2 ⟨by omega, .inl ?_⟩
 omega
theorem Gdt.of {z : Int} {t : List Cl} {order : List Int} (h1 : zch z t = true) (h2 : za0 z t order = 0) : ∃ n : Nat, z = n /\ Gdt n t order := by
 unfold zch at h1;simp only [Bool.and_eq_true, decide_eq_true_eq, List.all_eq_true] at h1;obtain ⟨h3, h4, h5, h6⟩ := h1
 have h0 : 0 <= z := by
  unfold chkT at h5
  split at h5
  ·simp at h5
  omega
 refine ⟨z.toNat, by omega, by omega, h4, h6, ?_⟩;rw [show ((z.toNat : Nat) : Int) = z by omega];exact h2
structure CRes (n : Nat) (t : List Cl) (order : List Int) (o1 o2 : Bool) (B : Nat) (w : World) (na : Option Addr) (nc : Nat) (ca : Option Addr) (cc : Nat) (N : List Nd) (C : List Clm) : Prop where
 eqN : N = nds (zae (chF order o1 n) o2 n t)
 cl : zwx (chF order o1 n) o2 n t C
 len : C.length = N.length
 n : NdCells w na N
 cp : NdCap w na N
 c : CmCells w ca C
 mem : ∃ L : List Me, CpMem w B (.slice na L.length nc) (.slice ca L.length cc) L /\ nds (L.map fun e => e.c) = N /\ clms L = C
section
variable {n : Nat} {t : List Cl} {order : List Int} {o1 o2 : Bool} {B : Nat} {w : World} {na : Option Addr} {nc : Nat} {ca : Option Addr} {cc : Nat} {N : List Nd} {C : List Clm}
theorem CRes.pf (h : CRes n t order o1 o2 B w na nc ca cc N C) (hg : Gdt n t order) : PfB ⟨n, t, N, C⟩ /\ ∀ i, i < N.length -> Prf.node ⟨n, t, N, C⟩ i := by
 have h9 := hg.n9;have := zv2 (ch := chF order o1 n) (cache := o2) (show n <= 12 by omega) (ze3 (by omega)) hg.tok (by have := h.len; rw [h.eqN, za5] at this; exact this) h.cl;rw [<- h.eqN] at this;exact this
theorem CRes.ok (h : CRes n t order o1 o2 B w na nc ca cc N C) (hg : Gdt n t order) : zdi ⟨n, N⟩ = true := (h.pf hg).1.ok.N
theorem CRes.ev (h : CRes n t order o1 o2 B w na nc ca cc N C) (hg : Gdt n t order) (s : Int -> Bool) : Cen.ev s ⟨n, N⟩ = evL s t := by
 have h9 := hg.n9;rw [h.eqN];exact zv1 (by omega) (ze3 (by omega)) hg.tok s
theorem CRes.small (h : CRes n t order o1 o2 B w na nc ca cc N C) (hg : Gdt n t order) : N.length <= 65536 := (h.pf hg).1.ok.len.2
theorem CpMem.later {w W : World} {base : Nat} {nv cv : Value} {L : List Me} (h : CpMem w base nv cv L) (hb : Below w.heap.size w W) : CpMem W base nv cv L :=
 ⟨h.rn.later hb, h.rc.later hb, fun e he => let ⟨a, b, c⟩ := h.me e he; ⟨a.later hb, b.later hb, c.later hb⟩, h.ap, h.ne⟩
theorem CRes.keep (h : CRes n t order o1 o2 B w na nc ca cc N C) {W : World} (hb : Below w.heap.size w W) : CRes n t order o1 o2 B W na nc ca cc N C :=
 ⟨h.eqN, h.cl, h.len, h.n.keep hb, h.cp.keep h.n hb, h.c.keep hb, let ⟨L, h1, h2⟩ := h.mem; ⟨L, h1.later hb, h2⟩⟩
theorem CRes.verify (h : CRes n t order o1 o2 B w na nc ca cc N C) (hg : Gdt n t order) {ta : Option Addr} (tc : Nat) (hx : LsCells w ta t) :
 Calls Tryz.prog 17 #[.agg #[.int .i64 (n : Int), .slice ta t.length tc], .agg #[.int .i64 (n : Int), .slice na N.length nc], .slice ca N.length cc] w fun e w' => e = .returned (.tuple #[.int .i64 0, .int .i64 0]) /\ Below w.heap.size w w' := by
 have hp := h.pf hg;have := zn3 ⟨n, t, N, C⟩ hp.1 hp.2 ta tc na nc ca cc w ⟨hx, h.n, h.c, h.cp⟩;dsimp only at this;rw [h.len] at this;exact this
theorem CRes.valid (h : CRes n t order o1 o2 B w na nc ca cc N C) (hg : Gdt n t order) : Calls Tryz.prog 12 #[.agg #[.int .i64 (n : Int), .slice na N.length nc]] w fun e w' => e = .returned (.bool true) /\ Below w.heap.size w w' := by
 have := zgp (n : Int) na nc N w (by have := h.small hg; omega) h.n
 rwa [h.ok hg] at this
theorem CRes.eval (h : CRes n t order o1 o2 B w na nc ca cc N C) (hg : Gdt n t order) (s : St) (hs : s.ok) : Calls Tryz.prog 30 #[.agg #[.int .i64 (n : Int), .slice na N.length nc], stv s] w fun e w' => e = .returned (.bool (evL s.mem t)) /\ Below w.heap.size w w' := by
 have := zr4 (n : Int) na nc N s w (by have := h.small hg; omega) h.n hs
 rwa [h.ok hg, h.ev hg, Bool.true_and] at this
end
def zwv (n : Nat) (t : List Cl) (order : List Int) (o1 o2 : Bool) (w : World) (e : Ending) (w' : World) : Prop :=
 ∃ (na : Option Addr) (nc : Nat) (ca : Option Addr) (cc : Nat) (N : List Nd) (C : List Clm), e = .returned (.tuple #[.agg #[.int .i64 (n : Int), .slice na N.length nc], .slice ca N.length cc, .int .i64 0]) /\ CRes n t order o1 o2 w.heap.size w' na nc ca cc N C /\ Below w.heap.size w w'
theorem zxj {w : World} (h : Tab w) : 0 < w.heap.size := by
 have := h.cell (g := 0) (by kernel_rfl) 0 (by decide +kernel);exact zak this
theorem zhd (n : Nat) (a : Option Addr) (cap : Nat) (t : List Cl) (oa : Option Addr) (oc : Nat) (order : List Int) (o1 o2 : Bool) (w : World) (hg : Gdt n t order) (hx : LsCells w a t) (ho : IntCells w oa order) (htab : Tab w) :
 Calls Tryz.prog 11 #[.agg #[.int .i64 (n : Int), .slice a t.length cap], .agg #[.slice oa order.length oc, .bool o1, .bool o2]] w (zwv n t order o1 o2 w) := by
 have h9 := hg.n9;have htl := hg.tl;have hol := hg.ol;refine (zqu n (by omega) a cap t oa oc order o1 o2 w (by omega) (fun c hc => ⟨by have := hg.cl c hc; omega, hg.tok.rg c hc⟩) hx (by omega) ho hg.ck hg.tok htab (zxj htab)).mono ?_;rintro e w' ⟨na, nc, ca, cc, C, L, rfl, hC, hN, hcap, hcm, hmem, hL1, hL2, hb, hcl⟩;refine ⟨na, nc, ca, cc, nds (zae (chF order o1 n) o2 n t), C, by rw [za5], ⟨rfl, hcl, by rw [za5]; exact hC, hN, hcap, hcm, L, hmem, hL1, hL2⟩, hb⟩
def zdg : List Cl := [[1, 2], [-1, 3]]
theorem zkw : Gdt 3 zdg [1, 2, 3] := ⟨by decide, by decide, fun c hc => by
 simp only [zdg, List.mem_cons, List.not_mem_nil, or_false] at hc
 rcases hc with rfl | rfl <;> decide, by decide +kernel⟩
theorem zs0 : evL (St.mem ⟨2, 0⟩) zdg = true := by decide +kernel
theorem zsz : evL (St.mem ⟨1, 0⟩) zdg = false := by decide +kernel
theorem zqp : evL (St.mem ⟨5, 0⟩) zdg = true := by decide +kernel
def zww (w : World) (e : Ending) (w' : World) : Prop := ∃ a cap, e = .returned (.agg #[.int .i64 3, .slice a 2 cap]) /\ LsCells w' a zdg /\ Below w.heap.size w w'
theorem zhz (w : World) : Calls Tryz.prog 29 #[] w (zww w) := by
 obtain ⟨W, hW⟩ : ∃ W, W = (((w.alloc (.cells #[.int .i64 3, .slice (some ⟨w.heap.size + 1 + 1 + 1, 0, none⟩) 2 2] 24)).alloc (.cells #[.int .i64 1, .int .i64 2] 3)).alloc (.cells #[.int .i64 (-1), .int .i64 3] 3)).alloc
  (.cells #[.slice (some ⟨w.heap.size + 1, 0, none⟩) 2 2, .slice (some ⟨w.heap.size + 1 + 1, 0, none⟩) 2 2] 25) := ⟨_, rfl⟩
 have b0 : Blk W w.heap.size #[.int .i64 3, .slice (some ⟨w.heap.size + 1 + 1 + 1, 0, none⟩) 2 2] 24 := by rw [hW]; exact (((Blk.new w _ _).alloc _).alloc _).alloc _
 have b1 : Blk W (w.heap.size + 1) #[.int .i64 1, .int .i64 2] 3 := by rw [hW]; exact ((Blk.new' _ (by simp) _ _).alloc _).alloc _
 have b2 : Blk W (w.heap.size + 1 + 1) #[.int .i64 (-1), .int .i64 3] 3 := by rw [hW]; exact (Blk.new' _ (by simp) _ _).alloc _
 have b3 : Blk W (w.heap.size + 1 + 1 + 1) #[.slice (some ⟨w.heap.size + 1, 0, none⟩) 2 2, .slice (some ⟨w.heap.size + 1 + 1, 0, none⟩) 2 2] 25 := by rw [hW]; exact Blk.new' _ (by simp) _ _
 have hb : Below w.heap.size w W := by rw [hW]; exact ((((Below.refl _ _).alloc (Nat.le_refl _) _).alloc (by simp) _).alloc (by simp; omega) _).alloc (by simp; omega) _
 have hl : LsCells W (some ⟨w.heap.size + 1 + 1 + 1, 0, none⟩) zdg := by
  intro i hi
  have : i = 0 \/ i = 1 := by simp [zdg] at hi; omega
  rcases this with rfl | rfl
  ·refine ⟨_, _, _, _, rfl, b3.cell 0, fun j hj => ?_⟩
   have : j = 0 \/ j = 1 := by simp [zdg] at hj; omega
   rcases this with rfl | rfl
   ·exact ⟨_, _, rfl, b1.cell 0⟩
   exact ⟨_, _, rfl, b1.cell 1⟩
  refine ⟨_, _, _, _, rfl, b3.cell 1, fun j hj => ?_⟩
  have : j = 0 \/ j = 1 := by simp [zdg] at hj; omega
  rcases this with rfl | rfl
  ·exact ⟨_, _, rfl, b2.cell 0⟩
  exact ⟨_, _, rfl, b2.cell 1⟩
 have c0 := b0.cell 0;have c1 := b0.cell 1;go_enter Tryz.func29, Tryz.ntmps29;go_wp2;rw [<- hW];exact bodyPost_ret (v := .agg #[.int .i64 3, .slice (some ⟨w.heap.size + 1 + 1 + 1, 0, none⟩) 2 2]) (by simp [results, Tryz.results29, go_sem, c0, c1]) rfl ⟨_, _, rfl, hl, hb⟩
def zw2 (w : World) (e : Ending) (w' : World) : Prop :=
 ∃ (na : Option Addr) (nc : Nat) (ca : Option Addr) (cc : Nat) (N : List Nd) (C : List Clm), e = .returned (.tuple #[.agg #[.int .i64 3, .slice na N.length nc], .slice ca N.length cc, .int .i64 0]) /\ CRes 3 zdg [1, 2, 3] false true w.heap.size w' na nc ca cc N C /\ Below w.heap.size w w'
theorem zws (W : World) (ta : Option Addr) (tc : Nat) (oa : Option Addr) (oc : Nat) (h1 : LsCells W ta zdg) (h2 : IntCells W oa [1, 2, 3]) (h3 : Tab W) :
 Calls Tryz.prog 11 #[.agg #[.int .i64 3, .slice ta 2 tc], .agg #[.slice oa 3 oc, .bool false, .bool true]] W (zw2 W) := zhd 3 ta tc zdg oa oc [1, 2, 3] false true W zkw h1 h2 h3
theorem zsj {B : Nat} {W : World} {na : Option Addr} {nc : Nat} {ca : Option Addr} {cc : Nat} {N : List Nd} {C : List Clm} (h : CRes 3 zdg [1, 2, 3] false true B W na nc ca cc N C) (ta : Option Addr) (tc : Nat) (hx : LsCells W ta zdg) :
 Calls Tryz.prog 17 #[.agg #[.int .i64 3, .slice ta 2 tc], .agg #[.int .i64 3, .slice na N.length nc], .slice ca N.length cc] W fun e w' => e = .returned (.tuple #[.int .i64 0, .int .i64 0]) /\ Below W.heap.size W w' := h.verify zkw tc hx
theorem zux {B : Nat} {W : World} {na : Option Addr} {nc : Nat} {ca : Option Addr} {cc : Nat} {N : List Nd} {C : List Clm} (h : CRes 3 zdg [1, 2, 3] false true B W na nc ca cc N C) :
 Calls Tryz.prog 12 #[.agg #[.int .i64 3, .slice na N.length nc]] W fun e w' => e = .returned (.bool true) /\ Below W.heap.size W w' := h.valid zkw
theorem zn4 {B : Nat} {W : World} {na : Option Addr} {nc : Nat} {ca : Option Addr} {cc : Nat} {N : List Nd} {C : List Clm} (h : CRes 3 zdg [1, 2, 3] false true B W na nc ca cc N C) (k : Nat) (hk : k < U64) :
 Calls Tryz.prog 30 #[.agg #[.int .i64 3, .slice na N.length nc], .agg #[.int .u64 (k : Int), .int .u64 0]] W fun e w' => e = .returned (.bool (evL (St.mem ⟨k, 0⟩) zdg)) /\ Below W.heap.size W w' := h.eval zkw ⟨k, 0⟩ ⟨hk, by show 0 < U64; unfold U64; omega⟩
theorem zxm {B : Nat} {W : World} {na : Option Addr} {nc : Nat} {ca : Option Addr} {cc : Nat} {N : List Nd} {C : List Clm} (h : CRes 3 zdg [1, 2, 3] false true B W na nc ca cc N C) :
 Calls Tryz.prog 30 #[.agg #[.int .i64 3, .slice na N.length nc], .agg #[.int .u64 2, .int .u64 0]] W fun e w' => e = .returned (.bool true) /\ Below W.heap.size W w' := by
 have := zn4 h 2 (by unfold U64; omega)
 rwa [zs0] at this
theorem zxl {B : Nat} {W : World} {na : Option Addr} {nc : Nat} {ca : Option Addr} {cc : Nat} {N : List Nd} {C : List Clm} (h : CRes 3 zdg [1, 2, 3] false true B W na nc ca cc N C) :
 Calls Tryz.prog 30 #[.agg #[.int .i64 3, .slice na N.length nc], .agg #[.int .u64 1, .int .u64 0]] W fun e w' => e = .returned (.bool false) /\ Below W.heap.size W w' := by
 have := zn4 h 1 (by unfold U64; omega)
 rwa [zsz] at this
theorem zwt {B : Nat} {W : World} {na : Option Addr} {nc : Nat} {ca : Option Addr} {cc : Nat} {N : List Nd} {C : List Clm} (h : CRes 3 zdg [1, 2, 3] false true B W na nc ca cc N C) :
 Calls Tryz.prog 30 #[.agg #[.int .i64 3, .slice na N.length nc], .agg #[.int .u64 5, .int .u64 0]] W fun e w' => e = .returned (.bool true) /\ Below W.heap.size W w' := by
 have := zn4 h 5 (by unfold U64; omega)
 rwa [zqp] at this
theorem zxc {p q r : Prop} (h : p /\ q /\ r) : r := h.2.2
theorem zjc (w : World) (htab : Tab w) : Calls Tryz.prog 10 #[] w fun e w' => e = .returned (.bool true) /\ Below w.heap.size w w' := by
 have HT := lh htab;clear htab;go_enter Tryz.func10, Tryz.ntmps10;go_wp2_with fail;refine (zhz _).mono ?_;rintro e w1 ⟨ta, tc, rfl, hx, hb1⟩
 obtain ⟨ob, hob⟩ : ∃ ob, ob = w1.heap.size := ⟨_, rfl⟩
 obtain ⟨w2, hw2⟩ : ∃ w2, w2 = w1.alloc (.cells #[.int .i64 1, .int .i64 2, .int .i64 3] 3) := ⟨_, rfl⟩
 have hb2 : Below w1.heap.size w1 w2 := by rw [hw2]; exact (Below.refl _ _).alloc (Nat.le_refl _) _
 have q2 : Blk w2 ob #[.int .i64 1, .int .i64 2, .int .i64 3] 3 := by rw [hw2, hob]; exact Blk.new _ _ _
 have ho2 : IntCells w2 (some ⟨ob, 0, none⟩) [1, 2, 3] := by
  intro j hj
  have : j = 0 \/ j = 1 \/ j = 2 := by simp at hj; omega
  rcases this with rfl | rfl | rfl
  ·exact ⟨_, _, rfl, q2.cell 0⟩
  ·exact ⟨_, _, rfl, q2.cell 1⟩
  exact ⟨_, _, rfl, q2.cell 2⟩
 have hbw2 := hb1.trans (hb2.mono hb1.size);have HCM := lh (zws w2 ta tc (some ⟨ob, 0, none⟩) 3 (hx.keep hb2) ho2 (HT.o.keep hbw2));have HBW2 := lh hbw2;clear hx hb1 hb2 q2 ho2 hbw2;go_wp2_with fail;rw [<- hob, <- hw2];refine HCM.o.mono ?_;rintro e w3 ⟨na, nc, ca, cc, N, C, rfl, hr, hb3⟩;have hbw3 := HBW2.o.trans (hb3.mono HBW2.o.size)
 obtain ⟨nb, hnb⟩ : ∃ nb, nb = w3.heap.size := ⟨_, rfl⟩
 obtain ⟨w4, hw4⟩ : ∃ w4, w4 = w3.alloc (.cells #[.int .i64 3, .slice na N.length nc] 33) := ⟨_, rfl⟩
 have hb4 : Below w3.heap.size w3 w4 := by rw [hw4]; exact (Below.refl _ _).alloc (Nat.le_refl _) _
 have q4 : Blk w4 nb #[.int .i64 3, .slice na N.length nc] 33 := by rw [hw4, hnb]; exact Blk.new _ _ _
 have HR := lh (hr.keep hb4);have HBW4 := lh (hbw3.trans (hb4.mono hbw3.size));have Q4 := lh q4;clear hr hb3 hbw3 hb4 hob hw2;go_wp2_with fail;rw [<- hnb, <- hw4];clear hw4 hnb;have c0 := q4.cell 0;have c1 := q4.cell 1;have z4 := q4.lt;clear q4;go_wp2_with fail;refine (zux HR.o).mono ?_;rintro e w5 ⟨rfl, hb5⟩;have HB5 := lh hb5;have q5 := Q4.o.later hb5;have d0 := q5.cell 0;have d1 := q5.cell 1;have z5 := q5.lt;have HR5 := lh (HR.o.keep hb5);clear hb5 q5 c0 c1 z4;go_wp2_with fail
 have HKS : Hid (∀ w' : World, Below w5.heap.size w5 w' -> w'.cell? ⟨nb, 0, none⟩ = some (.int .i64 3) /\ w'.cell? ⟨nb, 1, none⟩ = some (.slice na N.length nc) /\ Below w5.heap.size w5 w') := lh fun w' hb => ⟨zaa hb d0, zaa hb d1, hb⟩
 refine wp_region_held_drew (S := (fun w' => w'.cell? ⟨nb, 0, none⟩ = some (.int .i64 3) /\ w'.cell? ⟨nb, 1, none⟩ = some (.slice na N.length nc) /\ Below w5.heap.size w5 w')) (by kernel_rfl) ?_ (fun hHeld => ?_)
 ·try dsimp only
  exact HKS.o _ (Below.refl _ _).drew
 refine tkV 1 23 rfl rfl ?_; try simp only [tkS]
 refine tkV 2 24 rfl rfl ?_; try simp only [tkS]
 refine tkR 0 (.cons rfl (fun K hK => ?_) .nil);go_simp;go_at_call 29;refine (zhz _).mono ?_;rintro e w6 ⟨tb, td, rfl, hx6, hb6⟩;have hw6 : Below w5.heap.size w5 w6 := Below.trans (zxc (by assumption)) (hb6.mono (Below.size (B := w5.heap.size) (w := w5) (zxc (by assumption))));go_wp2_with fail;refine hK.out _ _ ?_ (fun hHeld => ?_)
 ·try dsimp only
  exact HKS.o _ hw6
 clear hK K
 try simp only [tkS]
 refine tkR 3 (.cons rfl (fun K hK => ?_) .nil);go_simp;go_at_call 17;refine (zsj (HR5.o.keep hw6) tb td hx6).mono ?_;rintro e w7 ⟨rfl, hb7⟩;have hw7 : Below w5.heap.size w5 w7 := hw6.trans (hb7.mono hw6.size);go_wp2_with fail;refine hK.out _ _ ?_ (fun hHeld => ?_)
 ·try dsimp only
  exact HKS.o _ hw7
 clear hK K
 try simp only [tkS]
 refine tkV 4 21 rfl rfl ?_; try simp only [tkS]
 refine tkV 5 26 rfl rfl ?_; try simp only [tkS]
 refine tkV 6 27 rfl rfl ?_; try simp only [tkS]
 refine tkV 7 4 rfl rfl ?_; try simp only [tkS]
 refine tkV 8 5 rfl rfl ?_; try simp only [tkS]
 refine wpAnyH_done (by kernel_rfl) ?_ _;have q7 := Q4.o.later (HB5.o.trans (hw7.mono HB5.o.size));have g0 := q7.cell 0;have g1 := q7.cell 1;have gz := q7.lt;have HR7 := lh (HR5.o.keep hw7);have HB7 := lh hw7;have HW7 := lh (HBW4.o.trans ((HB5.o.trans (hw7.mono HB5.o.size)).mono HBW4.o.size));clear q7 hw6 hw7 hb6 hb7 hx6 d0 d1 z5;go_wp2_with fail;refine (zxm HR7.o).mono ?_;rintro e w8 ⟨rfl, hb8⟩;have HR8 := lh (HR7.o.keep hb8);have HW8 := lh (HW7.o.trans (hb8.mono HW7.o.size));have h0 := zaa hb8 g0;have h1 := zaa hb8 g1;have hz : nb < w8.heap.size := Nat.lt_of_lt_of_le gz hb8.size;clear hb8 g0 g1 gz
 go_wp2_with fail;refine (zxl HR8.o).mono ?_;rintro e w9 ⟨rfl, hb9⟩;have HR9 := lh (HR8.o.keep hb9);have HW9 := lh (HW8.o.trans (hb9.mono HW8.o.size));have k0 := zaa hb9 h0;have k1 := zaa hb9 h1;have kz : nb < w9.heap.size := Nat.lt_of_lt_of_le hz hb9.size;clear hb9 h0 h1 hz;go_wp2_with fail;refine (zwt HR9.o).mono ?_;rintro e wA ⟨rfl, hbA⟩;have HWA := lh (HW9.o.trans (hbA.mono HW9.o.size));clear hbA k0 k1 kz;go_wp2;go_ret;exact ⟨rfl, HWA.o⟩
end Go.Proofs.YtfmmhjphopikgaaGreatDoor
