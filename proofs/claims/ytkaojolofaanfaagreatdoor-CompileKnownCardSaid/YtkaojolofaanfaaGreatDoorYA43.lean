/- Part of the proofs that laws of censuslaw24 return true for every input, where the tables that the rows list are laid. Texts: Fa, Fc, Fd, R20E, Fe. -/
import Derived.Test.YtkaojolofaanfaaGreatDoorYA31
import Derived.Test.YtkaojolofaanfaaGreatDoorYA6
import Derived.Test.YtkaojolofaanfaaGreatDoorYA17
import Derived.Test.YtkaojolofaanfaaGreatDoorYA29
import Derived.Test.YtkaojolofaanfaaGreatDoorYA40
import Derived.Test.YtkaojolofaanfaaGreatDoorYA1
import Derived.Test.YtkaojolofaanfaaGreatDoorYA33
import Derived.Deep.RegionHeld3
import Derived.Test.YtkaojolofaanfaaGreatDoorYA30
import Derived.Test.YtkaojolofaanfaaGreatDoorYA42
set_option maxHeartbeats 8000000
set_option maxRecDepth 100000
set_option linter.unusedSimpArgs false
set_option linter.unusedVariables false
namespace Go.Proofs.YtkaojolofaanfaaGreatDoor
open Go.RowKit Cen
theorem zic : ∀ (xs : List Int) (s : St) (v : Int), (xs.foldl St.add s).mem v = (s.mem v || (decide (1 <= v) && (decide (v <= 128) && xs.contains v)))
 | [], s, v => by simp
 | x :: xs, s, v => by
   show (xs.foldl St.add (s.add x)).mem v = _
   rw [zic xs (s.add x) v, St.mem_add, List.contains_cons]
   by_cases e : v = x
   ·subst e
    by_cases h1 : 1 <= v <;> by_cases h2 : v <= 128 <;> simp [h1, h2]
   ·rw [decide_eq_false e, show (v == x) = false by simpa using e]
    simp
theorem zwg (xs : List Int) : ofB xs = ofL xs := by
 apply St.ext (zvf xs) (zvg xs)
 intro v _ _;rw [zru];unfold ofL;rw [zic, St.mem_zero, Bool.false_or]
def ordB (xs : List Int) (n : Int) : Bool := decide ((xs.length : Int) = n) && eqSt (ofL xs) (zcy n)
theorem znr (oa : Option Addr) (oc : Nat) (xs : List Int) (n : Int) (w : World) (hn : n <= 1073741824) (hx : IntCells w oa xs) :
 Calls Tryz.prog 72 #[.slice oa xs.length oc, .int .i64 n] w fun e w' => e = .returned (.bool (ordB xs n)) /\ Below w.heap.size w w' := by
 by_cases h1 : (xs.length : Int) = n
 ·have HOF := lh (zrt oa oc xs w hx (by omega));rw [zwg] at HOF;have HAL := lh (fun W => zss n W)
  have HR : Hid (ordB xs n = eqSt (ofL xs) (zcy n)) := by show _ = _; unfold ordB; rw [decide_eq_true h1, Bool.true_and]
  have hb : ((xs.length : Int) == n) = true := by simpa using h1
  have hd : decide ((xs.length : Int) = n) = true := by simpa using h1
  have hgd := ze9;clear hx h1;generalize ofL xs = s1 at *;generalize zcy n = s2 at *
  have hn2 : ∀ w : World, (binOp .eql 54 (.agg #[.int .u64 (s1.a : Int), .int .u64 (s1.b : Int)]) (.agg #[.int .u64 (s2.a : Int), .int .u64 (s2.b : Int)])).run Tryz.prog w = .ok (.bool (eqSt s1 s2)) w := fun w => znv _ _ w
  generalize eqSt s1 s2 = r at *;go_enter Tryz.func72, Tryz.ntmps72;go_wp2_with fail;refine HOF.out.mono ?_;rintro e w1 ⟨rfl, hb1⟩;have HB1 := lh hb1;clear hb1;go_wp2_with fail;refine (HAL.out _).mono ?_;rintro e w2 ⟨rfl, hb2⟩;have HB2 := lh (HB1.out.trans (hb2.mono HB1.out.size));clear hb2;go_wp2;go_ret;exact ⟨zah HR.out.symm, HB2.out⟩
 ·have HR : Hid (ordB xs n = false) := by show _ = _; unfold ordB; rw [decide_eq_false h1, Bool.false_and]
  have hb : ((xs.length : Int) == n) = false := by simpa using h1
  have hd : decide ((xs.length : Int) = n) = false := by simpa using h1
  clear hx h1;go_enter Tryz.func72, Tryz.ntmps72;go_wp2;go_ret;exact ⟨zah HR.out.symm, Below.refl _ _⟩
theorem zh0 (n : Int) (a : Option Addr) (cap : Nat) (t : List Cl) (oa : Option Addr) (oc : Nat) (order : List Int) (w : World) (hl : t.length <= 1073741824) (hx : LsCells w a t) (ho : IntCells w oa order) :
 Calls Tryz.prog 25 #[.agg #[.int .i64 n, .slice a t.length cap], .slice oa order.length oc] w fun e w' => e = .returned (.int .i64 (za0 n t order)) /\ Below w.heap.size w w' := by
 have hb0 : Below w.heap.size w (w.alloc (.cells #[.int .i64 n, .slice a t.length cap] 39)) := (Below.refl _ _).alloc (Nat.le_refl _) _;have HB0 := lh hb0;have HX := lh hx;have HO := lh ho;have q0 := lh (Blk.new w #[.int .i64 n, .slice a t.length cap] 39);clear hb0 hx ho;go_enter Tryz.func25, Tryz.ntmps25;go_wp2_with fail;refine (zgd n a cap t _ hl (HX.out.keep HB0.out)).mono ?_;rintro e w1 ⟨rfl, hb1⟩;have HB1 := lh (HB0.out.trans (hb1.mono HB0.out.size));have p0 := q0.out.later hb1;have c0 := p0.cell 0;have hs1 := p0.lt;clear hb1 p0
 obtain ⟨c, hc⟩ : ∃ c, c = chkT n t := ⟨_, rfl⟩
 have HC := lh hc;rw [<- hc];clear hc
 by_cases hz : c = 0
 ·subst hz
  have hn8 : n <= 1073741824 := by
   have h := HC.out;unfold chkT at h
   split at h
   ·simp at h
   ·omega
  have HF : Hid (za0 n t order = if 0 < order.length /\ ((order.length : Int) ≠ n \/ ofL order ≠ zcy n) then 1 else 0) := by
   show _ = _
   unfold za0;rw [if_neg (by rw [<- HC.out]; simp)]
  by_cases h0 : order.length = 0
  ·have hi0 : ¬ (0 : Int) < (order.length : Int) := by omega
   have HR : Hid (za0 n t order = 0) := by
    show _ = _
    rw [HF.out, if_neg (by omega)]
   go_wp2;go_ret;exact ⟨by rw [HR.out]; rfl, HB1.out⟩
  ·have hi0 : (0 : Int) < (order.length : Int) := by omega
   have hp0 : 0 < order.length := by omega
   have HO2 := lh (fun W hb => znr oa oc order n W hn8 (HO.out.keep (HB1.out.trans (Below.mono (B := w1.heap.size) (w := w1) (w' := W) hb HB1.out.size))))
   have HR : Hid (za0 n t order = if ordB order n then 0 else 1) := by
    show _ = _
    rw [HF.out];unfold ordB eqSt
    by_cases h1 : (order.length : Int) = n <;> by_cases h2 : ofL order = zcy n <;> simp [h1, h2, hp0]
   cases ho : ordB order n
   all_goals
    rw [ho] at HO2 HR;clear ho;go_wp2_with fail;refine (HO2.out _ (Below.refl _ _)).mono ?_;rintro e w2 ⟨rfl, hb2⟩;have HB2 := lh (HB1.out.trans (hb2.mono HB1.out.size));clear hb2;go_wp2;go_ret;exact ⟨by rw [HR.out]; rfl, HB2.out⟩
 ·have HR : Hid (za0 n t order = c) := by
   show _ = _
   unfold za0;rw [<- HC.out, if_pos hz]
  go_wp2;go_ret;exact ⟨by rw [HR.out]; rfl, HB1.out⟩
def zch (n : Int) (t : List Cl) : Bool := decide (n <= 9) && (decide (t.length <= 40) && (decide (chkT n t = 0) && t.all fun c => decide (c.length <= 10)))
theorem zip (n : Int) (a : Option Addr) (cap : Nat) (t : List Cl) (w : World) (hx : LsCells w a t) :
 Calls Tryz.prog 26 #[.agg #[.int .i64 n, .slice a t.length cap]] w fun e w' => e = .returned (.bool (zch n t)) /\ Below w.heap.size w w' := by
 have hb0 : Below w.heap.size w (w.alloc (.cells #[.int .i64 n, .slice a t.length cap] 39)) := (Below.refl _ _).alloc (Nat.le_refl _) _;have HB0 := lh hb0;have HX := lh (hx.keep hb0);have Q0 := lh (Blk.new w #[.int .i64 n, .slice a t.length cap] 39);clear hb0 hx
 by_cases h1 : 9 < n
 ·have HR : Hid (zch n t = false) := by show _ = _; unfold zch; rw [decide_eq_false (show ¬ n <= 9 by omega), Bool.false_and]
  go_enter Tryz.func26, Tryz.ntmps26;go_wp2;go_ret;exact ⟨zah HR.out.symm, HB0.out⟩
 ·have h1' : n <= 9 := by omega
  have HR1 : Hid (zch n t = (decide (t.length <= 40) && (decide (chkT n t = 0) && t.all fun c => decide (c.length <= 10)))) := by show _ = _; unfold zch; rw [decide_eq_true h1', Bool.true_and]
  by_cases h2 : 40 < t.length
  ·have HR : Hid (zch n t = false) := by show _ = _; rw [HR1.out, decide_eq_false (show ¬ t.length <= 40 by omega), Bool.false_and]
   have h2i : (40 : Int) < (t.length : Int) := by omega
   go_enter Tryz.func26, Tryz.ntmps26;go_wp2;go_ret;exact ⟨zah HR.out.symm, HB0.out⟩
  ·have h2i : (t.length : Int) <= 40 := by omega
   have HR2 : Hid (zch n t = (decide (chkT n t = 0) && t.all fun c => decide (c.length <= 10))) := by show _ = _; rw [HR1.out, decide_eq_true (show t.length <= 40 by omega), Bool.true_and]
   have HC := lh (fun W hW => zgd n a cap t W (by omega) (HX.out.keep (w' := W) hW));generalize chkT n t = c at *
   by_cases hz : c = 0
   ·subst hz
    have HR3 : Hid (zch n t = (t.drop 0).all fun c => decide (c.length <= 10)) := by show _ = _; rw [HR2.out]; simp
    generalize zch n t = R at *;go_enter Tryz.func26, Tryz.ntmps26;go_wp2_with fail;refine (HC.out _ (Below.refl _ _)).mono ?_;rintro e w1 ⟨rfl, hb1⟩;have HB1 := lh hb1;clear hb1;generalize w.alloc (.cells #[.int .i64 n, .slice a t.length cap] 39) = w0 at *;go_wp2_with fail
    go_loopw [3] (fun i wr => ∃ k : Nat, k <= t.length /\ i = .int .i64 k /\ Below w0.heap.size w0 wr /\ R = (t.drop k).all fun c => decide (c.length <= 10)) (fun i _ => t.length - (intOf i).toNat)
    case atStart => exact ⟨0, Nat.zero_le _, rfl, HB1.out, HR3.out⟩
    case round =>
     obtain ⟨k, hk, rfl, hbr, hch⟩ := hrel;have HCH := lh hch;have HBR := lh hbr;have HBW := lh (HB0.out.trans (hbr.mono HB0.out.size));have HXR := lh (HX.out.keep hbr);have P0 := lh (Q0.out.later hbr);have k0 := P0.out.cell 0;have k1 := P0.out.cell 1;have y0 := P0.out.lt;clear hch hbr
     by_cases hlt : k < t.length
     ·obtain ⟨b1, off1, ai, ci, rfl, hc1, hi⟩ := HXR.out k hlt
      have HD : Hid (((t.drop k).all fun c => decide (c.length <= 10)) = (decide ((t.getD k []).length <= 10) && (t.drop (k + 1)).all fun c => decide (c.length <= 10))) := by
       show _ = _; rw [List.drop_eq_getElem_cons hlt, List.all_cons]; simp [List.getD_eq_getElem?_getD, hlt]
      have hki : (k : Int) < (t.length : Int) := by omega
      generalize t.getD k [] = c at *;clear hi
      by_cases h10 : 10 < c.length
      ·have hci : (10 : Int) < (c.length : Int) := by omega
       have HN : Hid (R = false) := by show _ = _; rw [HCH.out, HD.out, decide_eq_false (show ¬ c.length <= 10 by omega), Bool.false_and]
       go_wp2;go_ret;exact ⟨by rw [HN.out]; rfl, HBW.out⟩
      ·have hci : (c.length : Int) <= 10 := by omega
       have HN : Hid (R = (t.drop (k + 1)).all fun c => decide (c.length <= 10)) := by show _ = _; rw [HCH.out, HD.out, decide_eq_true (show c.length <= 10 by omega), Bool.true_and]
       go_wp2;go_roundw
       case rel => exact ⟨k + 1, by omega, by go_num, HBR.out, HN.out⟩
       case measure => simp [intOf]; omega
     ·have hke : k = t.length := by omega
      subst hke
      have HN : Hid (R = true) := by show _ = _; rw [HCH.out, List.drop_length]; rfl
      go_wp2;go_ret;exact ⟨by rw [HN.out]; rfl, HBW.out⟩
   ·have HR : Hid (zch n t = false) := by show _ = _; rw [HR2.out, decide_eq_false hz, Bool.false_and]
    have hcn : (c != 0) = true := by simpa using hz
    have hcd : decide (c = 0) = false := by simpa using hz
    go_enter Tryz.func26, Tryz.ntmps26;go_wp2_with fail;refine (HC.out _ (Below.refl _ _)).mono ?_;rintro e w1 ⟨rfl, hb1⟩;have HB1 := lh (HB0.out.trans (hb1.mono HB0.out.size));clear hb1;go_wp2;go_ret;exact ⟨zah HR.out.symm, HB1.out⟩
theorem zoo (n : Int) (a : Option Addr) (cap : Nat) (t : List Cl) (oa : Option Addr) (oc : Nat) (order : List Int) (o1 o2 : Bool) (w : World) (hl : t.length <= 1073741824) (hx : LsCells w a t) (ho : IntCells w oa order) :
 Calls Tryz.prog 29 #[.agg #[.int .i64 n, .slice a t.length cap], .agg #[.slice oa order.length oc, .bool o1, .bool o2]] w fun e w' => e = .returned (.bool (decide (za0 n t order = 0))) /\ Below w.heap.size w w' := by
 have hb0 : Below w.heap.size w ((w.alloc (.cells #[.int .i64 n, .slice a t.length cap] 39)).alloc (.cells #[.slice oa order.length oc, .bool o1, .bool o2] 42)) := ((Below.refl _ _).alloc (Nat.le_refl _) _).alloc (by simp) _;have HB0 := lh hb0;have HC := lh (zh0 n a cap t oa oc order _ hl (hx.keep hb0) (ho.keep hb0));clear hb0 hx ho;go_enter Tryz.func29, Tryz.ntmps29;go_wp2_with fail;refine HC.out.mono ?_;rintro e w1 ⟨rfl, hb1⟩;have HB1 := lh (HB0.out.trans (hb1.mono HB0.out.size));clear hb1
 obtain ⟨c, hc⟩ : ∃ c, c = za0 n t order := ⟨_, rfl⟩
 rw [<- hc];have HCE := lh hc;clear hc
 by_cases hz : c = 0
 ·subst hz
  have HR : Hid (decide (za0 n t order = 0) = true) := by show _ = _; rw [<- HCE.out]; rfl
  go_wp2;go_ret;exact ⟨zah HR.out.symm, HB1.out⟩
 ·have HR : Hid (decide (za0 n t order = 0) = false) := by show _ = _; rw [<- HCE.out]; exact decide_eq_false hz
  have hd : (c == 0) = false := by simpa using hz
  go_wp2;go_ret;exact ⟨zah HR.out.symm, HB1.out⟩
theorem zxb {n : Nat} {T : Cl} (h : gT n T) : T.length <= 129 := by
 have := zcj (l := T.map zac) (b := 129) (by show List.Pairwise _ _; rw [List.pairwise_map]; exact h.nd) (fun i hi => by
  obtain ⟨x, _, rfl⟩ := List.mem_map.1 hi;unfold zac
  split
  ·omega
  ·split <;> omega)
 simpa using this
theorem zs8 {ch : List Cl -> Int} {n : Nat} {t : List Cl} {cache : Bool} (hn : n <= 128) (hch : Chooses ch n) (ht : tOk n t) {i : Nat} {c : Nc} {l : List Cl} {term : Cl} (hc : (zae ch cache n t)[i]? = some c) (htag : c.tag = some (l, term)) : gT n term /\ l.length <= 4096 := by
 have hal : (zab n t).length <= 4096 := Nat.le_trans (zbx n t) ht.len
 by_cases h0 : zab n t = []
 ·rw [zbf h0] at hc;have := List.mem_of_getElem? hc;simp only [List.mem_singleton] at this;subst this;simp only [Option.some.injEq, Prod.mk.injEq] at htag;obtain ⟨rfl, rfl⟩ := htag;exact ⟨gT.nil n, by simp⟩
 ·have hC := core hn hch ht cache
  have hcore : ∀ (i : Nat) (c : Nc), (zao ch cache (zab n t)).1[i]? = some c -> c.tag = some (l, term) -> gT n term /\ l.length <= 4096 := fun i c hc htag => ⟨(hC.inv.tg i c l term hc htag).1, zsd hn hch ht ⟨c, term, hc, htag⟩⟩
  cases hr : zct (zao ch cache (zab n t)) (zab n t) with
  | true =>
    rw [zce h0 hr, List.getElem?_append] at hc
    split at hc
    ·exact hcore i c hc htag
    ·have := List.mem_of_getElem? hc;simp only [List.mem_singleton] at this;subst this;simp only [Option.some.injEq, Prod.mk.injEq] at htag;obtain ⟨rfl, rfl⟩ := htag;exact ⟨gT.nil n, hal⟩
  | false =>
    rw [zcf h0 hr, List.getElem?_set] at hc
    split at hc
    ·split at hc
     ·obtain rfl := (Option.some.inj hc).symm;simp only [Option.some.injEq, Prod.mk.injEq] at htag;obtain ⟨rfl, rfl⟩ := htag;exact ⟨gT.nil n, hal⟩
     ·simp at hc
    ·exact hcore i c hc htag
theorem zs4 {ch : List Cl -> Int} {n : Nat} {t : List Cl} {cache : Bool} (hn : n <= 12) (hch : Chooses ch n) (ht : tOk n t) : (zae ch cache n t).length <= 20000 := by
 have h1 := (zky (cache := cache) (show n <= 128 by omega) hch ht).1;have hg := za2 (show n <= 128 by omega) ht.rg
 have h3 := zm2 (show n <= 128 by omega) (l := zab n t) fun c hc x hx => (hg.gc c hc).rg x hx
 have h4 := zwz (show card (zaf (zab n t)) <= 12 by omega);have h5 : FB 12 = 16381 := rfl;omega
def zwx (ch : List Cl -> Int) (cache : Bool) (n : Nat) (t : List Cl) (C : List Clm) : Prop :=
 ∀ (i : Nat) (c : Nc), (zae ch cache n t)[i]? = some c -> match c.tag with | none => C.getD i ⟨[], []⟩ = ⟨[], []⟩ | some (l, term) => ∃ a, C.getD i ⟨[], []⟩ = ⟨term, a⟩ /\ ClOf n t l term a
theorem zv2 {ch : List Cl -> Int} {n : Nat} {t : List Cl} {cache : Bool} (hn : n <= 12) (hch : Chooses ch n) (ht : tOk n t) {C : List Clm} (hC : C.length = (zae ch cache n t).length) (hcl : zwx ch cache n t C) :
 PfB ⟨n, t, nds (zae ch cache n t), C⟩ /\ ∀ i, i < (nds (zae ch cache n t)).length -> Prf.node ⟨n, t, nds (zae ch cache n t), C⟩ i := by
 have hn2 : n <= 128 := by omega
 have hfew := zs4 (cache := cache) hn hch ht;refine ⟨⟨⟨hn2, ht, zs7 (n := n) (t := t) (cache := cache) hn2 hch ht (by omega), by simp only [za5]; exact hC, fun c hc => ?_⟩, zoe hn2 hch ht⟩, ?_⟩
 ·obtain ⟨i, hi, rfl⟩ := List.getElem_of_mem hc;simp only at hi ⊢
  have hgd : C[i] = C.getD i ⟨[], []⟩ := by simp [List.getD_eq_getElem?_getD, hi]
  have hci : (zae ch cache n t)[i]? = some ((zae ch cache n t)[i]'(by omega)) := List.getElem?_eq_getElem (by omega);have h1 := hcl i _ hci;rw [hgd]
  split at h1
  ·rw [h1]; simp
  ·rename_i l term htag
   obtain ⟨a, e, hcl2⟩ := h1;have h2 := zs8 hn2 hch ht hci htag;rw [e];obtain ⟨m, h3, h4, _⟩ := hcl2
   have h5 : a.length = l.length := by
    rw [h3, <- h4]; simp [zcu]
   have := zxb h2.1;exact ⟨by simp only; omega, by simp only; omega⟩
 ·exact zqv (p := ⟨n, t, nds (zae ch cache n t), C⟩) hn2 hch ht rfl rfl rfl fun i c l term hci htag => by
   have h1 := hcl i c hci;rw [htag] at h1;exact h1
theorem zk6 {p q r s t : Prop} (h : p /\ q /\ r /\ s /\ t) : t := h.2.2.2.2
theorem zr4 (n : Int) (a : Option Addr) (cap : Nat) (l : List Nd) (s : St) (w : World) (hl : l.length <= 1073741824) (hx : NdCells w a l) (hs : s.ok) :
 Calls Tryz.prog 31 #[.agg #[.int .i64 n, .slice a l.length cap], stv s] w fun e w' => e = .returned (.bool (zdi ⟨n, l⟩ && ev s.mem ⟨n, l⟩)) /\ Below w.heap.size w w' := by
 have hb0 : Below w.heap.size w ((w.alloc (.cells #[.int .i64 n, .slice a l.length cap] 24)).alloc (.cells #[.int .u64 (s.a : Int), .int .u64 (s.b : Int)] 54)) := ((Below.refl _ _).alloc (Nat.le_refl _) _).alloc (by simp) _;have HB0 := lh hb0;have HX := lh (hx.keep hb0);have q0 := lh ((Blk.new w #[.int .i64 n, .slice a l.length cap] 24).alloc (.cells #[.int .u64 (s.a : Int), .int .u64 (s.b : Int)] 54));have q1 := lh (Blk.new' (w.alloc (.cells #[.int .i64 n, .slice a l.length cap] 24)) (World.size_alloc _ _) #[.int .u64 (s.a : Int), .int .u64 (s.b : Int)] 54);have HS := lh hs;clear hb0 hx hs;go_enter Tryz.func31, Tryz.ntmps31
 go_wp2_with fail;generalize (w.alloc (.cells #[.int .i64 n, .slice a l.length cap] 24)).alloc (.cells #[.int .u64 (s.a : Int), .int .u64 (s.b : Int)] 54) = W at *;have HZ := lh HB0.out.size;have k0 : W.cell? ⟨w.heap.size, 0, none⟩ = some (.int .i64 n) := q0.out.cell 0;have k1 : W.cell? ⟨w.heap.size, 1, none⟩ = some (.slice a l.length cap) := q0.out.cell 1;have k2 : W.cell? ⟨w.heap.size + 1, 0, none⟩ = some (.int .u64 (s.a : Int)) := q1.out.cell 0;have k3 : W.cell? ⟨w.heap.size + 1, 1, none⟩ = some (.int .u64 (s.b : Int)) := q1.out.cell 1
 have HKS : Hid (∀ w' : World, Below W.heap.size W w' -> w'.cell? ⟨w.heap.size, 0, none⟩ = some (.int .i64 n) /\ w'.cell? ⟨w.heap.size, 1, none⟩ = some (.slice a l.length cap) /\ w'.cell? ⟨w.heap.size + 1, 0, none⟩ = some (.int .u64 (s.a : Int)) /\ w'.cell? ⟨w.heap.size + 1, 1, none⟩ = some (.int .u64 (s.b : Int)) /\ Below W.heap.size W w') := lh fun w' hb => ⟨zaa hb k0, zaa hb k1, zaa hb k2, zaa hb k3, hb⟩
 have HV : Hid (∀ V, Below W.heap.size W V -> Calls Tryz.prog 28 #[.agg #[.int .i64 n, .slice a l.length cap]] V fun e w' => e = .returned (.bool (zdi ⟨n, l⟩)) /\ Below V.heap.size V w') := lh fun V hb => zgp n a cap l V hl (HX.out.keep hb)
 cases hok : zdi ⟨n, l⟩ with
 | false =>
   rw [hok] at HV;have HOKF := lh hok;clear hok;refine wp_region_held_drew (S := (fun w' => w'.cell? ⟨w.heap.size, 0, none⟩ = some (.int .i64 n) /\ w'.cell? ⟨w.heap.size, 1, none⟩ = some (.slice a l.length cap) /\ w'.cell? ⟨w.heap.size + 1, 0, none⟩ = some (.int .u64 (s.a : Int)) /\ w'.cell? ⟨w.heap.size + 1, 1, none⟩ = some (.int .u64 (s.b : Int)) /\ Below W.heap.size W w')) (by kernel_rfl) ?_ (fun hHeld => ?_)
   ·try dsimp only
    exact HKS.out _ (Below.refl _ _).drew
   refine tkV 0 5 rfl rfl ?_; try simp only [tkS]
   refine tkR 1 (.cons rfl (fun K hK => ?_) .nil);go_simp;go_at_call 28;refine (HV.out _ (zk6 (by assumption))).mono ?_;rintro e w1 ⟨rfl, hb1⟩;have hw1 : Below W.heap.size W w1 := Below.trans (zk6 (by assumption)) (hb1.mono (Below.size (B := W.heap.size) (w := W) (zk6 (by assumption))));go_wp2_with fail;refine hK.out _ _ ?_ (fun hHeld => ?_)
   ·try dsimp only
    exact HKS.out _ hw1
   clear hK K
   try simp only [tkS]
   refine tkV 2 7 rfl rfl ?_; try simp only [tkS]
   refine tkO 3 8 rfl rfl ?_; try simp only [tkS]
   refine tkO 4 9 rfl rfl ?_; try simp only [tkS]
   refine tkO 5 10 rfl rfl ?_; try simp only [tkS]
   refine tkO 6 11 rfl rfl ?_; try simp only [tkS]
   refine tkO 7 12 rfl rfl ?_; try simp only [tkS]
   refine tkO 8 13 rfl rfl ?_; try simp only [tkS]
   refine tkO 9 14 rfl rfl ?_; try simp only [tkS]
   refine tkO 10 15 rfl rfl ?_; try simp only [tkS]
   refine tkO 11 16 rfl rfl ?_; try simp only [tkS]
   refine tkV 12 17 rfl rfl ?_; try simp only [tkS]
   refine tkV 13 4 rfl rfl ?_; try simp only [tkS]
   refine wpAnyH_done (by kernel_rfl) ?_ _
   all_goals
    have HFB := lh (HB0.out.trans (Below.mono (B := W.heap.size) (zk6 (by assumption)) HZ.out));go_wp2;go_ret;exact ⟨zah (by rw [HOKF.out]; rfl), HFB.out⟩
 | true =>
   rw [hok] at HV;have HOKT := lh hok
   obtain ⟨m, hm⟩ : ∃ m, l.length - 1 = m := ⟨_, rfl⟩
   have hl1 := (zcv hok).2.2.1;simp only at hl1
   have e1 : ((l.length : Int) - 1) = (m : Int) := by omega
   have hwr : IntKind.i64.wrap ((l.length : Int) - 1) = (m : Int) := by rw [e1]; exact IntWalk.i64_in _ (by omega)
   have hml : (m : Int) < (l.length : Int) := by omega
   have hm0 : (0 : Int) <= (m : Int) := by omega
   have h1l : (1 : Int) <= (l.length : Int) := by omega
   have hA : (0 : Int) <= (l.length : Int) - 1 := by omega
   have hB : (l.length : Int) - 1 < (l.length : Int) := by omega
   have hC : ((l.length : Int) - 1).toNat = m := by omega
   have hD : (l.length : Int).toNat - 1 = m := by omega
   clear e1;have hwr2 : IntKind.i64.wrap ((l.length : Int) - 1) = (l.length : Int) - 1 := IntWalk.i64_in _ (by omega);clear hwr
   have HML : Hid (m < l.length) := by show _ < _; omega
   have HTR : Hid (∀ V, Below W.heap.size W V -> Calls Tryz.prog 81 #[.agg #[.int .i64 n, .slice a l.length cap], stv s] V fun e w' => ∃ g cap', e = .returned (.slice (some ⟨g, 0, none⟩) l.length cap') /\ OwnL bc 4 1 w' V.heap.size (.slice (some ⟨g, 0, none⟩) l.length cap') (zc7 s.mem l) /\ Below V.heap.size V w') := lh fun V hb => zp0 n a cap l s V hok (HX.out.keep hb) HS.out
   have HEV : Hid (ev s.mem ⟨n, l⟩ = (zc7 s.mem l).getD m false) := by show _ = _; unfold ev; simp only [hm]
   have HTL := lh (zcl s.mem l);generalize zc7 s.mem l = vs at *
   have HVM : Hid (vs.getD m false = vs[m]'(by rw [HTL.out]; exact HML.out)) := by show _ = _; simp [List.getD_eq_getElem?_getD, HTL.out, HML.out]
   clear hok hm hl1;refine wp_region_held_drew (S := (fun w' => w'.cell? ⟨w.heap.size, 0, none⟩ = some (.int .i64 n) /\ w'.cell? ⟨w.heap.size, 1, none⟩ = some (.slice a l.length cap) /\ w'.cell? ⟨w.heap.size + 1, 0, none⟩ = some (.int .u64 (s.a : Int)) /\ w'.cell? ⟨w.heap.size + 1, 1, none⟩ = some (.int .u64 (s.b : Int)) /\ Below W.heap.size W w')) (by kernel_rfl) ?_ (fun hHeld => ?_)
   ·try dsimp only
    exact HKS.out _ (Below.refl _ _).drew
   refine tkV 0 5 rfl rfl ?_; try simp only [tkS]
   refine tkR 1 (.cons rfl (fun K hK => ?_) .nil);go_simp;go_at_call 28;refine (HV.out _ (zk6 (by assumption))).mono ?_;rintro e w1 ⟨rfl, hb1⟩;have hw1 : Below W.heap.size W w1 := Below.trans (zk6 (by assumption)) (hb1.mono (Below.size (B := W.heap.size) (w := W) (zk6 (by assumption))));go_wp2_with fail;refine hK.out _ _ ?_ (fun hHeld => ?_)
   ·try dsimp only
    exact HKS.out _ hw1
   clear hK K
   try simp only [tkS]
   refine tkV 2 7 rfl rfl ?_; try simp only [tkS]
   refine tkV 3 8 rfl rfl ?_; try simp only [tkS]
   refine tkV 4 9 rfl rfl ?_; try simp only [tkS]
   refine tkV 6 11 rfl rfl ?_; try simp only [tkS]
   refine tkV 7 12 rfl rfl ?_; try simp only [tkS]
   refine tkV 8 13 rfl rfl ?_; try simp only [tkS]
   refine tkV 9 14 rfl rfl ?_; try simp only [tkS]
   refine tkR 5 (.cons rfl (fun K hK => ?_) .nil);go_simp;go_at_call 81;refine (HTR.out _ (zk6 (by assumption))).mono ?_;rintro e w2 ⟨g, cap2, rfl, ho2, hb2⟩;have hw2 : Below W.heap.size W w2 := Below.trans hw1 (hb2.mono (Below.size (B := W.heap.size) (w := W) hw1))
   have f0 : w2.cell? ⟨g, m, none⟩ = some (.bool (vs.getD m false)) := by have := ho2.cell HTL.out.symm zht m 0 (by rw [HTL.out]; exact HML.out) (by omega); rw [HVM.out]; simpa [bc] using this
   clear ho2;go_wp2_with fail;refine hK.out _ _ ?_ (fun hHeld => ?_)
   ·try dsimp only
    exact HKS.out _ hw2
   clear hK K
   try simp only [tkS]
   refine tkV 10 15 rfl rfl ?_; try simp only [tkS]
   refine tkR 11 (.cons rfl (fun K hK => ?_) .nil);go_simp;refine hK.out _ _ ?_ (fun hHeld => ?_)
   ·try dsimp only
    exact HKS.out _ hw2
   clear hK K
   try simp only [tkS]
   refine tkV 12 17 rfl rfl ?_; try simp only [tkS]
   refine tkV 13 4 rfl rfl ?_; try simp only [tkS]
   refine wpAnyH_done (by kernel_rfl) ?_ _
   all_goals
    have HFB := lh (HB0.out.trans (Below.mono (B := W.heap.size) (zk6 (by assumption)) HZ.out));go_wp2;go_ret;exact ⟨zah (by rw [HOKT.out, HEV.out]; rfl), HFB.out⟩
structure Gdt (n : Nat) (t : List Cl) (order : List Int) : Prop where
 n9 : n <= 9
 tl : t.length <= 40
 cl : ∀ c ∈ t, c.length <= 10
 ck : za0 n t order = 0
theorem Gdt.ct {n : Nat} {t : List Cl} {order : List Int} (h : Gdt n t order) : chkT n t = 0 := by
 have := h.ck;unfold za0 at this
 split at this
 ·exact absurd this (by assumption)
 ·rename_i h; simpa using h
theorem Gdt.tok {n : Nat} {t : List Cl} {order : List Int} (h : Gdt n t order) : tOk n t := (zbu (by have := h.n9; omega)).1 h.ct
theorem Gdt.ol {n : Nat} {t : List Cl} {order : List Int} (h : Gdt n t order) : order.length <= n := by
 have := h.ck;unfold za0 at this
 split at this
 ·exact absurd this (by assumption)
 ·split at this
  ·simp at this
  ·rename_i h2
   refine Classical.byContradiction fun h3 => h2 ⟨by omega, .inl ?_⟩
   omega
theorem Gdt.of {z : Int} {t : List Cl} {order : List Int} (h1 : zch z t = true) (h2 : za0 z t order = 0) : ∃ n : Nat, z = n /\ Gdt n t order := by
 unfold zch at h1;simp only [Bool.and_eq_true, decide_eq_true_eq, List.all_eq_true] at h1;obtain ⟨h3, h4, h5, h6⟩ := h1
 have h0 : 0 <= z := by
  unfold chkT at h5
  split at h5
  ·simp at h5
  ·omega
 refine ⟨z.toNat, by omega, by omega, h4, h6, ?_⟩;rw [show ((z.toNat : Nat) : Int) = z by omega];exact h2
structure CRes (n : Nat) (t : List Cl) (order : List Int) (o1 o2 : Bool) (B : Nat) (w : World) (na : Option Addr) (nc : Nat) (ca : Option Addr) (cc : Nat) (N : List Nd) (C : List Clm) : Prop where
 eqN : N = nds (zae (chF order o1 n) o2 n t)
 cl : zwx (chF order o1 n) o2 n t C
 len : C.length = N.length
 n : NdCells w na N
 cp : NdCap w na N
 c : CmCells w ca C
 mem : ∃ L : List Me, CpMem w B (.slice na L.length nc) (.slice ca L.length cc) L /\ nds (L.map fun e => e.c) = N /\ clms L = C
section
variable {n : Nat} {t : List Cl} {order : List Int} {o1 o2 : Bool} {B : Nat} {w : World} {na : Option Addr} {nc : Nat} {ca : Option Addr} {cc : Nat} {N : List Nd} {C : List Clm}
theorem CRes.pf (h : CRes n t order o1 o2 B w na nc ca cc N C) (hg : Gdt n t order) : PfB ⟨n, t, N, C⟩ /\ ∀ i, i < N.length -> Prf.node ⟨n, t, N, C⟩ i := by
 have h9 := hg.n9;have := zv2 (ch := chF order o1 n) (cache := o2) (show n <= 12 by omega) (ze3 (by omega)) hg.tok (by have := h.len; rw [h.eqN, za5] at this; exact this) h.cl;rw [<- h.eqN] at this;exact this
theorem CRes.ok (h : CRes n t order o1 o2 B w na nc ca cc N C) (hg : Gdt n t order) : zdi ⟨n, N⟩ = true := (h.pf hg).1.ok.N
theorem CRes.ev (h : CRes n t order o1 o2 B w na nc ca cc N C) (hg : Gdt n t order) (s : Int -> Bool) : Cen.ev s ⟨n, N⟩ = evL s t := by
 have h9 := hg.n9;rw [h.eqN];exact zv1 (by omega) (ze3 (by omega)) hg.tok s
theorem CRes.small (h : CRes n t order o1 o2 B w na nc ca cc N C) (hg : Gdt n t order) : N.length <= 65536 := (h.pf hg).1.ok.len.2
theorem CpMem.later {w W : World} {base : Nat} {nv cv : Value} {L : List Me} (h : CpMem w base nv cv L) (hb : Below w.heap.size w W) : CpMem W base nv cv L :=
 ⟨h.rn.later hb, h.rc.later hb, fun e he => let ⟨a, b, c⟩ := h.me e he; ⟨a.later hb, b.later hb, c.later hb⟩, h.ap, h.ne⟩
theorem CRes.keep (h : CRes n t order o1 o2 B w na nc ca cc N C) {W : World} (hb : Below w.heap.size w W) : CRes n t order o1 o2 B W na nc ca cc N C :=
 ⟨h.eqN, h.cl, h.len, h.n.keep hb, h.cp.keep h.n hb, h.c.keep hb, let ⟨L, h1, h2⟩ := h.mem; ⟨L, h1.later hb, h2⟩⟩
theorem CRes.verify (h : CRes n t order o1 o2 B w na nc ca cc N C) (hg : Gdt n t order) {ta : Option Addr} (tc : Nat) (hx : LsCells w ta t) :
 Calls Tryz.prog 33 #[.agg #[.int .i64 (n : Int), .slice ta t.length tc], .agg #[.int .i64 (n : Int), .slice na N.length nc], .slice ca N.length cc] w fun e w' => e = .returned (.tuple #[.int .i64 0, .int .i64 0]) /\ Below w.heap.size w w' := by
 have hp := h.pf hg;have := zn3 ⟨n, t, N, C⟩ hp.1 hp.2 ta tc na nc ca cc w ⟨hx, h.n, h.c, h.cp⟩;dsimp only at this;rw [h.len] at this;exact this
theorem CRes.valid (h : CRes n t order o1 o2 B w na nc ca cc N C) (hg : Gdt n t order) : Calls Tryz.prog 28 #[.agg #[.int .i64 (n : Int), .slice na N.length nc]] w fun e w' => e = .returned (.bool true) /\ Below w.heap.size w w' := by
 have := zgp (n : Int) na nc N w (by have := h.small hg; omega) h.n
 rwa [h.ok hg] at this
theorem CRes.eval (h : CRes n t order o1 o2 B w na nc ca cc N C) (hg : Gdt n t order) (s : St) (hs : s.ok) : Calls Tryz.prog 31 #[.agg #[.int .i64 (n : Int), .slice na N.length nc], stv s] w fun e w' => e = .returned (.bool (evL s.mem t)) /\ Below w.heap.size w w' := by
 have := zr4 (n : Int) na nc N s w (by have := h.small hg; omega) h.n hs
 rwa [h.ok hg, h.ev hg, Bool.true_and] at this
end
def zwv (n : Nat) (t : List Cl) (order : List Int) (o1 o2 : Bool) (w : World) (e : Ending) (w' : World) : Prop :=
 ∃ (na : Option Addr) (nc : Nat) (ca : Option Addr) (cc : Nat) (N : List Nd) (C : List Clm), e = .returned (.tuple #[.agg #[.int .i64 (n : Int), .slice na N.length nc], .slice ca N.length cc, .int .i64 0]) /\ CRes n t order o1 o2 w.heap.size w' na nc ca cc N C /\ Below w.heap.size w w'
theorem zxj {w : World} (h : Tab w) : 1 < w.heap.size := by
 have := h.cell (g := 1) (by kernel_rfl) 0 (by decide +kernel);exact zak this
theorem zhd (n : Nat) (a : Option Addr) (cap : Nat) (t : List Cl) (oa : Option Addr) (oc : Nat) (order : List Int) (o1 o2 : Bool) (w : World) (hg : Gdt n t order) (hx : LsCells w a t) (ho : IntCells w oa order) (htab : Tab w) :
 Calls Tryz.prog 27 #[.agg #[.int .i64 (n : Int), .slice a t.length cap], .agg #[.slice oa order.length oc, .bool o1, .bool o2]] w (zwv n t order o1 o2 w) := by
 have h9 := hg.n9;have htl := hg.tl;have hol := hg.ol;refine (zqu n (by omega) a cap t oa oc order o1 o2 w (by omega) (fun c hc => ⟨by have := hg.cl c hc; omega, hg.tok.rg c hc⟩) hx (by omega) ho hg.ck hg.tok htab (zxj htab)).mono ?_;rintro e w' ⟨na, nc, ca, cc, C, L, rfl, hC, hN, hcap, hcm, hmem, hL1, hL2, hb, hcl⟩;refine ⟨na, nc, ca, cc, nds (zae (chF order o1 n) o2 n t), C, by rw [za5], ⟨rfl, hcl, by rw [za5]; exact hC, hN, hcap, hcm, L, hmem, hL1, hL2⟩, hb⟩
end Go.Proofs.YtkaojolofaanfaaGreatDoor
