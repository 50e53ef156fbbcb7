/- Part of the proofs that laws of censuslaw24 return true for every input, where the tables that the rows list are laid. Texts: R03A, Decomp, VarsM, RedL, RedT. -/
import Derived.Test.YtfmmhjphopikgaaGreatDoorYC5
import Derived.Test.YtfmmhjphopikgaaGreatDoorYC3
import Derived.Test.YtfmmhjphopikgaaGreatDoorYC4
import Derived.Test.YtfmmhjphopikgaaGreatDoorYC1
set_option maxHeartbeats 8000000
set_option maxRecDepth 100000
set_option linter.unusedSimpArgs false
set_option linter.unusedVariables false
namespace Go.Proofs.YtfmmhjphopikgaaGreatDoor
open Go.RowKit Cen
def blf (f : Nat -> Bool) : List Bool := (List.range 129).map f
theorem zdt (f : Nat -> Bool) : (blf f).length = 129 := by unfold blf; rw [List.length_map, List.length_range]
theorem zgc (f : Nat -> Bool) (j : Nat) (h : j < (blf f).length) : (blf f)[j] = f j := by simp only [blf, List.getElem_map, List.getElem_range]
theorem zlp {f g : Nat -> Bool} (h : ∀ j, j < 129 -> f j = g j) : blf f = blf g := by
 apply List.ext_getElem
 ·rw [zdt, zdt]
 intro i h1 h2; rw [zgc, zgc]; exact h i (by rw [zdt] at h1; exact h1)
theorem zqo : blf (fun _ => false) = List.replicate 129 false := by
 apply List.ext_getElem
 ·rw [zdt, List.length_replicate]
 intro i h1 h2; rw [zgc, List.getElem_replicate]
theorem zvx (f : Nat -> Bool) (i : Nat) (b : Bool) : (blf f).set i b = blf (fun j => if j = i then b else f j) := by
 apply List.ext_getElem
 ·rw [List.length_set, zdt, zdt]
 intro j h1 h2;rw [List.getElem_set, zgc _ _ h2]
 by_cases e : i = j
 ·rw [if_pos e, if_pos e.symm]
 rw [if_neg e, if_neg (fun x : j = i => e x.symm), zgc]
theorem zki {f g : Nat -> Bool} : ∀ (k : Nat), (∀ j, 1 <= j -> j <= k -> f j = g j) -> setB f k = setB g k
 | 0, _ => rfl
 | k + 1, h => by
   have ih := zki k (fun j h1 h2 => h j h1 (by omega));have h1 := h (k + 1) (by omega) (Nat.le_refl _)
   show (if f (k + 1) then (setB f k).add ((k : Int) + 1) else setB f k) = (if g (k + 1) then (setB g k).add ((k : Int) + 1) else setB g k)
   rw [ih, h1]
def zcy (n : Int) : St := setB (fun j : Nat => decide ((j : Int) <= n)) 128
theorem allSt_ok (n : Int) : (zcy n).ok := zi7 _ _
theorem zqn (n v : Int) : (zcy n).mem v = (decide (1 <= v) && (decide (v <= 128) && decide (v <= n))) := by
 unfold zcy;rw [zld _ _ _ (Nat.le_refl _)]
 by_cases h : 1 <= v
 ·rw [show ((v.toNat : Nat) : Int) = v by omega]; rfl
 rw [decide_eq_false h]; rfl
theorem zvj {g : Nat} {wr : World} {base : Nat} {f : Nat -> Bool} (h : OwnL bc 4 1 wr base (.slice (some ⟨g, 0, none⟩) 129 129) (blf f)) : ∀ j, j < 129 -> wr.cell? ⟨g, j, none⟩ = some (.bool (f j)) := fun j hj => by
 have h2 := h.cell (by rw [zdt]) zht j 0 (by rw [zdt]; exact hj) (by omega);rw [Nat.mul_one, Nat.add_zero, zgc] at h2;exact h2
theorem zss (n : Int) (w : World) : Calls Tryz.prog 22 #[.int .i64 n] w fun e w' => e = .returned (stv (zcy n)) /\ Below w.heap.size w w' := by
 have hb0 := (Below.refl w.heap.size w).alloc (Nat.le_refl _) (.cells #[.int .u64 0, .int .u64 0] 56);have HB0 := lh hb0;have q0 := lh (Blk.new w #[.int .u64 0, .int .u64 0] 56)
 have HZ0 : Hid ((w.alloc (.cells #[.int .u64 0, .int .u64 0] 56)).heap.size = w.heap.size + 1) := by show _ = _; simp
 clear hb0;go_enter Tryz.func22, Tryz.ntmps22;go_wp2_with fail;refine (zmr _).mono ?_;rintro e w1 ⟨g, rfl, hown1, hb1⟩;have HO1 := lh hown1;rw [HZ0.o] at HO1
 have HB1 : Hid (Below (w.heap.size + 1) (w.alloc (.cells #[.int .u64 0, .int .u64 0] 56)) w1) := by have h := hb1; rw [HZ0.o] at h; exact h
 clear hown1 hb1;go_wp2
 go_loopw [4] (fun i wr => ∃ v : Int, 1 <= v /\ v <= 129 /\ (1 < v -> v <= n + 1) /\ i = .int .i64 v /\ OwnL bc 4 1 wr (w.heap.size + 1) (.slice (some ⟨g, 0, none⟩) 129 129) (blf fun j => decide (1 <= j) && decide ((j : Int) < v)) /\ Below (w.heap.size + 1) (w.alloc (.cells #[.int .u64 0, .int .u64 0] 56)) wr) (fun i _ => 129 - (intOf i).toNat)
 case atStart => exact ⟨1, by omega, by omega, fun h => by omega, rfl, by
  rw [zlp (g := fun _ => false) (fun j _ => by
   by_cases h : 1 <= j
   ·rw [decide_eq_false (show ¬ (j : Int) < 1 by omega)]; simp
   rw [decide_eq_false h]; rfl), zqo]; exact HO1.o, HB1.o⟩
 obtain ⟨v, hv1, hv2, hvn, rfl, hown, hb⟩ := hrel;have HO := lh hown;have HB := lh hb;have HBA := lh (HB0.o.trans (hb.mono (by omega)));have R := lh (q0.out.laterB hb (by omega));have HG := lh hown.lt;have HVN := lh hvn;clear hown hb hvn
 by_cases hgo : v <= 128 /\ v <= n
 ·obtain ⟨h1, h2⟩ := hgo
  have hlt : v < 129 := by omega
  have hv0 : 0 <= v := by omega
  have HLN : Hid (129 = (blf fun j => decide (1 <= j) && decide ((j : Int) < v)).length) := by show _ = _; rw [zdt]
  have fr := HO.o.fr HLN.o v.toNat
  have HS : Hid (OwnL bc 4 1 (wr.setCell ⟨g, v.toNat, none⟩ (.bool true)) (w.heap.size + 1) (.slice (some ⟨g, 0, none⟩) 129 129) (blf fun j => decide (1 <= j) && decide ((j : Int) < v + 1))) := by
   have h := HO.o.put1 HLN.o zht v.toNat (by rw [<- HLN.o]; omega) true (.bool true) rfl
   rw [zvx, zlp (g := fun j => decide (1 <= j) && decide ((j : Int) < v + 1)) (fun j _ => by
    by_cases e : j = v.toNat
    ·rw [if_pos e, decide_eq_true (show 1 <= j by omega), decide_eq_true (show (j : Int) < v + 1 by omega)]; rfl
    rw [if_neg e]; congr 1; rw [Bool.eq_iff_iff, decide_eq_true_iff, decide_eq_true_iff]; omega)] at h
   exact h
  have cg : ∃ u, wr.cell? ⟨g, v.toNat, none⟩ = some u := ⟨_, zvj HO.o v.toNat (by omega)⟩
  obtain ⟨u, hu⟩ := cg;go_wp2;go_roundw
  case rel => exact ⟨v + 1, by omega, by omega, fun _ => by omega, rfl, HS.o, HB.o.setCell (by dsimp only; exact HG.o.2) _⟩
  case measure => simp [intOf]; omega
 have HE : Hid (setB (fun j => decide (1 <= j) && decide ((j : Int) < v)) 128 = zcy n) := by
  show _ = _
  unfold zcy
  refine zki 128 fun j h1 h2 => ?_
  rw [decide_eq_true h1, Bool.true_and, Bool.eq_iff_iff, decide_eq_true_iff, decide_eq_true_iff];have := HVN.o
  constructor
  ·intro h; have := this (by omega); omega
  intro h; omega
 have HST := lh (zo3 (fun j => decide (1 <= j) && decide ((j : Int) < v)) g wr (zvj HO.o));rw [HE.o] at HST
 obtain ⟨d, hd⟩ : ∃ d, d = zcy n := ⟨_, rfl⟩
 rw [<- hd] at HST;have HD := lh hd;clear hd
 by_cases h1 : v <= 128
 ·have hn1 : ¬ v <= n := fun h => hgo ⟨h1, h⟩
  have d2 : decide (v <= n) = false := by simpa using hn1
  clear hgo hn1;go_wp2_with fail;refine HST.o.mono ?_;rintro e w2 ⟨rfl, hb2⟩;have R2 := R.o.later hb2;have HB2 := lh (HBA.o.trans (hb2.mono HBA.o.size));have f0 := R2.fr 0;have f1 := R2.fr 1;have j0 : w2.cell? ⟨w.heap.size, 0, none⟩ = some (.int .u64 0) := R2.cell 0;have j1 : w2.cell? ⟨w.heap.size, 1, none⟩ = some (.int .u64 0) := R2.cell 1;have hz : w.heap.size < w2.heap.size := R2.lt;clear hb2;go_wp2;have hbr := (R2.set 0 (.int .u64 (d.a : Int))).set 1 (.int .u64 (d.b : Int));have e0 : ((w2.setCell ⟨w.heap.size, 0, none⟩ (.int .u64 (d.a : Int))).setCell ⟨w.heap.size, 1, none⟩ (.int .u64 (d.b : Int))).cell? ⟨w.heap.size, 0, none⟩ = some (.int .u64 (d.a : Int)) := hbr.cell 0
  have e1 : ((w2.setCell ⟨w.heap.size, 0, none⟩ (.int .u64 (d.a : Int))).setCell ⟨w.heap.size, 1, none⟩ (.int .u64 (d.b : Int))).cell? ⟨w.heap.size, 1, none⟩ = some (.int .u64 (d.b : Int)) := hbr.cell 1;exact bodyPost_ret (v := stv d) (by simp [results, Tryz.results22, go_sem, e0, e1]) rfl ⟨by rw [HD.o], (HB2.o.setCell (Nat.le_refl _) _).setCell (Nat.le_refl _) _⟩
 have d1 : decide (v <= 128) = false := by simpa using h1
 clear hgo h1;go_wp2_with fail;refine HST.o.mono ?_;rintro e w2 ⟨rfl, hb2⟩;have R2 := R.o.later hb2;have HB2 := lh (HBA.o.trans (hb2.mono HBA.o.size));have f0 := R2.fr 0;have f1 := R2.fr 1;have j0 : w2.cell? ⟨w.heap.size, 0, none⟩ = some (.int .u64 0) := R2.cell 0;have j1 : w2.cell? ⟨w.heap.size, 1, none⟩ = some (.int .u64 0) := R2.cell 1;have hz : w.heap.size < w2.heap.size := R2.lt;clear hb2;go_wp2;have hbr := (R2.set 0 (.int .u64 (d.a : Int))).set 1 (.int .u64 (d.b : Int));have e0 : ((w2.setCell ⟨w.heap.size, 0, none⟩ (.int .u64 (d.a : Int))).setCell ⟨w.heap.size, 1, none⟩ (.int .u64 (d.b : Int))).cell? ⟨w.heap.size, 0, none⟩ = some (.int .u64 (d.a : Int)) := hbr.cell 0
 have e1 : ((w2.setCell ⟨w.heap.size, 0, none⟩ (.int .u64 (d.a : Int))).setCell ⟨w.heap.size, 1, none⟩ (.int .u64 (d.b : Int))).cell? ⟨w.heap.size, 1, none⟩ = some (.int .u64 (d.b : Int)) := hbr.cell 1;exact bodyPost_ret (v := stv d) (by simp [results, Tryz.results22, go_sem, e0, e1]) rfl ⟨by rw [HD.o], (HB2.o.setCell (Nat.le_refl _) _).setCell (Nat.le_refl _) _⟩
theorem zel (d : Nat) (a b c e : Int) (w : World) :
 (Op.equalIn (d + 2) 56 (.agg #[.int .u64 a, .int .u64 b]) (.agg #[.int .u64 c, .int .u64 e])).run Tryz.prog w = .ok (a == c && b == e) w := by
 have hsz : ∀ w, (sizeOf 54).run Tryz.prog w = .ok 1 w := fun w => by kernel_rfl
 have hp0 : ∀ (x y : Value) w, (part 54 #[x, y] 0).run Tryz.prog w = .ok x w := fun x y w => by kernel_rfl
 have hp1 : ∀ (x y : Value) w, (part 54 #[x, y] 1).run Tryz.prog w = .ok y w := fun x y w => by kernel_rfl
 rw [Op.equalIn.eq_def];simp only [Sem.run_bind, run_underlying Tryz.underlying56, Result.andThen_ok, hsz]
 simp [List.range']
 simp [hp0, hp1, run_equalIn_int _ _ _ _ _ _ _ Tryz.underlying54]
 by_cases h1 : a = c <;> by_cases h2 : b = e <;> simp [h1, h2]
def eqSt (s t : St) : Bool := decide (s = t)
theorem zoh (s t : St) : ((s.a : Int) == (t.a : Int) && (s.b : Int) == (t.b : Int)) = eqSt s t := by
 unfold eqSt;rw [Bool.eq_iff_iff]
 cases s; cases t; simp; omega
theorem zi4 (s t : St) (w : World) : (binOp .neq 56 (stv s) (stv t)).run Tryz.prog w = .ok (.bool !(eqSt s t)) w := by
 rw [run_neq_struct, zel 9998]
 simp [Result.andThen_ok, <- zoh]
theorem znv (s t : St) (w : World) : (binOp .eql 56 (stv s) (stv t)).run Tryz.prog w = .ok (.bool (eqSt s t)) w := by
 rw [run_eql_struct, zel 9998]
 simp [Result.andThen_ok, <- zoh]
theorem ze9 : Tryz.prog.eqGuardType Tryz.prog.depth 56 = false := by kernel_rfl
theorem decomposable_any (n : Int) (a : Option Addr) (cap : Nat) (l : List Nd) (w : World) (hok : zdi ⟨n, l⟩ = true) (hx : NdCells w a l) :
 Calls Tryz.prog 25 #[.agg #[.int .i64 n, .slice a l.length cap]] w fun e w' => e = .returned (.bool (decL l)) /\ Below w.heap.size w w' := by
 have HB0 := lh ((Below.refl w.heap.size w).alloc (Nat.le_refl _) (.cells #[.int .i64 n, .slice a l.length cap] 33));have HX0 := lh (hx.keep HB0.o);have HK := lh hok;have hl1 : Hid (l.length <= 65536) := (zcv hok).2.2.2
 have hl2 : l.length <= 1073741824 := by have := hl1.out; omega
 have HCH := lh (fun W (h : NdCells W a l) => (check_any n a cap l W hl2 h).mono (R' := fun e w' => e = .returned (.int .i64 0) /\ Below W.heap.size W w') (fun e w' ⟨h1, h2⟩ => ⟨by rw [h1]; simp [chk, HK.o], h2⟩));clear hx hok;go_enter Tryz.func25, Tryz.ntmps25;go_wp2_with fail;refine (HCH.o _ HX0.o).mono ?_;rintro e w1 ⟨rfl, hb1⟩;have hbx := Blk.later (Blk.new w #[.int .i64 n, .slice a l.length cap] 33) hb1;have c0 : w1.cell? ⟨w.heap.size, 0, none⟩ = some (.int .i64 n) := hbx.cell 0;have c1 : w1.cell? ⟨w.heap.size, 1, none⟩ = some (.slice a l.length cap) := hbx.cell 1;have HBX := lh hbx;have HB1 := lh hb1
 clear hbx hb1;go_wp2_with fail;refine (nodeVars_any n a cap l _ HK.o hl1.out (HX0.o.keep HB1.o)).mono ?_;rintro e w2 ⟨g, rfl, hrow, hb2⟩;have c0' := zaa hb2 c0;have c1' := zaa hb2 c1;have HR := lh hrow;have HB2 := lh hb2;have HX2 := lh ((HX0.o.keep HB1.o).keep HB2.o);clear c0 c1 hrow hb2;go_wp2
 go_loopw [17] (fun i wr => ∃ k : Nat, k <= l.length /\ i = .int .i64 k /\ (∀ j, j < k -> ndSep (varsL l) (l.getD j default) = true) /\ Below w2.heap.size w2 wr) (fun i _ => l.length - (intOf i).toNat)
 case atStart => exact ⟨0, Nat.zero_le _, rfl, fun j h => absurd h (Nat.not_lt_zero _), Below.refl _ _⟩
 obtain ⟨wo, rfl⟩ : ∃ wo : World, wo = wr := ⟨_, rfl⟩
 obtain ⟨k, hk, rfl, hno, hbel⟩ := hrel;have HN := lh hno;have HB := lh hbel;clear hno hbel
 by_cases hlt : k < l.length
 ·obtain ⟨b, off, rfl, hc0⟩ := HX2.o k hlt;generalize hxe : l.getD k default = x at hc0;have HXG := lh hxe
  have HXE : Hid (l[k] = x) := by show _ = _; rw [<- hxe]; simp [List.getD_eq_getElem?_getD, hlt]
  clear hxe;obtain ⟨r1, r2, a', cap', r3, pi, pl⟩ := hc0;have p1 := zaa HB.o r1;have p2 := zaa HB.o r2;have p3 := zaa HB.o r3;have HPI := lh pi;have hbz : b < wo.heap.size := zak p1;have HSZ := lh HB.o.size;have hin := netOk_ins HK.o hlt;rw [HXE.o] at hin;have HIN := lh hin;clear hin pi r1 r2 r3
  by_cases hk3 : x.kind = 3
  ·have hk3' : (x.kind != 3) = false := by simp [hk3]
   have HND : Hid (ndSep (varsL l) x = sepF (varsL l) St.zero x.ins) := by show _ = _; simp [ndSep, hk3]
   clear hk3;have hvo := varsL_ok l;have hvl := varsL_length l
   have HVN : Hid (∀ q : Nat, q < (varsL l).length -> ∃ h : q < (varsL l).length, True) := fun q h => ⟨h, trivial⟩
   have HROW := HR.o;have HALL : Hid (Below w.heap.size w wo) := HB0.o.trans (((HB1.o.mono (by simp)).trans (HB2.o.mono (by have := HB1.o.size; simp at this; omega))).trans (HB.o.mono (by have := HB1.o.size; have := HB2.o.size; simp at *; omega)));have HSO := lh HALL.o.size;generalize hvsd : varsL l = vs at *;have HVSD := lh hvsd;clear hvsd;have HVO := lh hvo;have HVL := lh hvl;clear hvo hvl HVN;go_wp2
   go_loopw [27] (fun i wi => ∃ m : Nat, m <= x.ins.length /\ i = .int .i64 m /\ Blk wi (wo.heap.size + 1) (sts (insU vs St.zero (x.ins.take m))) 56 /\
    sepF vs St.zero x.ins = sepF vs (insU vs St.zero (x.ins.take m)) (x.ins.drop m) /\ Below wo.heap.size wo wi) (fun i _ => x.ins.length - (intOf i).toNat)
   case atStart => exact ⟨0, Nat.zero_le _, rfl, Blk.new' (wo.alloc _) (by simp) (sts St.zero) 56, rfl, ((Below.refl _ _).alloc (Nat.le_refl _) _).alloc (by simp) _⟩
   obtain ⟨wi, rfl⟩ : ∃ wi : World, wi = wr := ⟨_, rfl⟩
   obtain ⟨m, hm, rfl, hblk, hsep, hbel⟩ := hrel;have HBi := lh (hbel);have HBI := lh (HB.o.trans (hbel.mono HSZ.o));have HSEP := lh hsep;clear hsep
   by_cases hlm : m < x.ins.length
   ·obtain ⟨b2, off2, rfl, hi0⟩ := HPI.o m hlm;have hi1 := zaa HBI.o hi0;have hq := HIN.o (x.ins.getD m 0) (by simp [List.getD_eq_getElem?_getD, hlm]);generalize hye : x.ins.getD m 0 = y at hi1 hq
    have HYE : Hid (x.ins[m] = y) := by show _ = _; rw [<- hye]; simp [List.getD_eq_getElem?_getD, hlm]
    clear hi0 hye;obtain ⟨hq0, hq1⟩ := hq;obtain ⟨q, rfl⟩ := Int.eq_ofNat_of_zero_le hq0
    have hqk : q < vs.length := by have := HVL.o; omega
    have hql : q < l.length := by omega
    have hrow := HROW.later HBI.o;have HRI := lh hrow;have q0 : wi.cell? ⟨g, q * 2, none⟩ = some (.int .u64 (vs[q].a : Int)) := hrow.cell HVL.o.symm zc6 q 0 hqk (by omega);have q1 : wi.cell? ⟨g, q * 2 + 1, none⟩ = some (.int .u64 (vs[q].b : Int)) := hrow.cell HVL.o.symm zc6 q 1 hqk (by omega);have HTO : Hid (vs[q].ok) := HVO.o _ (List.getElem_mem hqk);have HCO : Hid ((insU vs St.zero (x.ins.take m)).ok) := insU_ok HVO.o _ St.zero_ok
    have hgq : vs.getD q St.zero = vs[q] := by simp [List.getD_eq_getElem?_getD, hqk]
    have HST : Hid (insU vs St.zero (x.ins.take (m + 1)) = (insU vs St.zero (x.ins.take m)).union vs[q]) := by
     show _ = _; rw [List.take_succ_eq_append_getElem hlm, insU_snoc, HYE.o, Int.toNat_natCast, hgq]
    have HSD : Hid (sepF vs (insU vs St.zero (x.ins.take m)) (x.ins.drop m) = if (insU vs St.zero (x.ins.take m)).cut vs[q] = St.zero then sepF vs ((insU vs St.zero (x.ins.take m)).union vs[q]) (x.ins.drop (m + 1)) else false) := by
     show _ = _; rw [sepF_drop _ _ _ _ hlm, HYE.o, Int.toNat_natCast, hgq]
    generalize insU vs St.zero (x.ins.take m) = cur at *;generalize vs[q] = tq at *;obtain ⟨m0, m1, f0, f1⟩ := hblk.sc;have HBLK := lh hblk;clear hblk hbel hrow hgq;have hgd := ze9
    have hnq : ∀ w : World, (binOp .neq 56 (.agg #[.int .u64 ((cur.cut tq).a : Int), .int .u64 ((cur.cut tq).b : Int)]) (.agg #[.int .u64 0, .int .u64 0])).run Tryz.prog w = .ok (.bool !(eqSt (cur.cut tq) St.zero)) w := fun w => zi4 _ St.zero w
    have HNQ := lh hnq
    cases hcz : eqSt (cur.cut tq) St.zero
    all_goals
     have HCZ := lh hcz;have hn2 : ∀ w : World, (binOp .neq 56 (.agg #[.int .u64 ((cur.cut tq).a : Int), .int .u64 ((cur.cut tq).b : Int)]) (.agg #[.int .u64 0, .int .u64 0])).run Tryz.prog w = .ok (.bool !(eqSt (cur.cut tq) St.zero)) w := HNQ.o;rw [hcz] at hn2;clear hcz hnq;clear HNQ
    ·have HFIN : Hid (decL l = false) := by
      refine decL_false hlt ?_;rw [HVSD.o, HXE.o, HND.o, HSEP.o, HSD.o, if_neg];intro h; have := HCZ.o; simp [eqSt, h] at this
     go_wp2_with fail
     go_region_with (go_at_call 64; refine (zqw cur tq _ HCO.o HTO.o).mono ?_; rintro e w5 ⟨rfl, hb5⟩)
     all_goals
      have HB5 := lh (zay hb5);clear hb5;go_wp2;go_ret;exact ⟨zah HFIN.o.symm, HALL.o.trans ((HBi.o.trans (HB5.o.mono HBi.o.size)).mono HSO.o)⟩
    have HZ : Hid (cur.cut tq = St.zero) := by show cur.cut tq = St.zero; have := HCZ.o; simpa [eqSt] using this
    go_wp2_with fail
    go_region_with (go_at_call 64; refine (zqw cur tq _ HCO.o HTO.o).mono ?_; rintro e w5 ⟨rfl, hb5⟩)
    all_goals
     have hb5' := zay hb5;have hblk5 := HBLK.o.later hb5';obtain ⟨k0, k1, g0, g1⟩ := hblk5.sc;have v0 := zaa hb5' q0;have v1 := zaa hb5' q1;have HB5 := lh hb5';have HBL5 := lh hblk5;clear hb5 hb5' hblk5 q0 q1 m0 m1 f0 f1;go_wp2_with fail
     go_region_with (go_at_call 50; refine (zsh cur tq _ HCO.o HTO.o).mono ?_; rintro e w6 ⟨rfl, hb6⟩; obtain ⟨j0, j1, i0, i1⟩ := HBL5.o.drewCall hb6)
     all_goals
      have HB6 := lh (zay hb6);clear hb6;go_wp2;go_roundw
      case rel =>
       refine ⟨m + 1, by omega, by go_num, ?_, ?_, ?_⟩
       ·rw [HST.o]; exact (HBL5.o.later HB6.o).putSet _
       ·rw [HSEP.o, HSD.o, if_pos HZ.o, HST.o]
       exact ((HBi.o.trans ((HB5.o.trans (HB6.o.mono HB5.o.size)).mono HBi.o.size)).setCell (by simp) _).setCell (by simp) _
      case measure => simp [intOf]; omega
   have : m = x.ins.length := by omega
   subst this;go_wp2;go_roundw
   case rel =>
    refine ⟨k + 1, by omega, by go_num, fun j hj => ?_, HBI.o⟩
    by_cases e : j = k
    ·subst e; rw [HXG.o, HND.o, HSEP.o]; simp [sepF]
    exact HN.o j (by omega)
   case measure => simp [intOf]; omega
  have hk3' : (x.kind != 3) = true := by simp [hk3]
  have HND : Hid (ndSep (varsL l) x = true) := by show _ = _; simp [ndSep, hk3]
  clear hk3;go_wp2;go_roundw
  case rel =>
   refine ⟨k + 1, by omega, by go_num, fun j hj => ?_, HB.o.trans (((Below.refl _ _).alloc (Nat.le_refl _) _).mono HSZ.o)⟩
   by_cases e : j = k
   ·subst e; rw [HXG.o]; exact HND.o
   exact HN.o j (by omega)
  case measure => simp [intOf]; omega
 have : k = l.length := by omega
 subst this;go_wp2;go_ret;exact ⟨zah (decL_true HN.o).symm, HB0.o.trans (((HB1.o.mono (by simp)).trans (HB2.o.mono (by have := HB1.o.size; simp at this; omega))).trans (HB.o.mono (by have := HB1.o.size; have := HB2.o.size; simp at *; omega)))⟩
theorem has_no (s : St) (v : Int) (w : World) (h : ¬ (1 <= v /\ v <= 128)) : Calls Tryz.prog 19 #[stv s, .int .i64 v] w fun e w' => e = .returned (.bool (s.mem v)) /\ Below w.heap.size w w' := by
 have HB : Hid (Below w.heap.size w (w.alloc (.cells #[.int .u64 (s.a : Int), .int .u64 (s.b : Int)] 56))) := (Below.refl _ _).alloc (Nat.le_refl _) _
 have HR : Hid (s.mem v = false) := by show _ = _; unfold St.mem; rw [if_neg (by omega), if_neg (by omega)]
 have HP := lh (fun V => zuf v V h);clear h;go_enter Tryz.func19, Tryz.ntmps19;go_wp2_with fail;refine (HP.o _).mono ?_;rintro e w' ⟨rfl, rfl⟩;go_wp2;go_ret;exact ⟨zah HR.o.symm, HB.o⟩
theorem and_bit {a k : Nat} (ha : a < U64) (hk : k < 64) : (bits .and .u64 (a : Int) ((2 ^ k : Nat) : Int) != 0) = a.testBit k := by
 rw [zst ha (zcc hk)]
 have h : a &&& 2 ^ k = (a.testBit k).toNat * 2 ^ k := by
  apply Nat.eq_of_testBit_eq
  intro i;rw [Nat.testBit_and, Nat.testBit_two_pow]
  cases hb : a.testBit k with
  | true =>
    simp only [Bool.toNat_true, Nat.one_mul, Nat.testBit_two_pow]
    by_cases e : k = i
    ·subst e; simp [hb]
    simp [e]
  | false =>
    simp only [Bool.toNat_false, Nat.zero_mul, Nat.zero_testBit]
    by_cases e : k = i
    ·subst e; simp [hb]
    simp [e]
 rw [h]
 cases a.testBit k with
 | false => simp
 | true =>
   have : 0 < 2 ^ k := Nat.pow_pos (by omega);simp only [Bool.toNat_true, Nat.one_mul];rw [bne_iff_ne]; intro h0;have := Int.ofNat_eq_zero.1 h0;omega
theorem has_any (s : St) (v : Int) (w : World) (hs : s.ok) : Calls Tryz.prog 19 #[stv s, .int .i64 v] w fun e w' => e = .returned (.bool (s.mem v)) /\ Below w.heap.size w w' := by
 by_cases h : 1 <= v /\ v <= 64
 ·have HB : Hid (Below w.heap.size w (w.alloc (.cells #[.int .u64 (s.a : Int), .int .u64 (s.b : Int)] 56))) := (Below.refl _ _).alloc (Nat.le_refl _) _
  have hr : (bits .and .u64 (s.a : Int) (zkt v : Int) != 0) = s.mem v := by
   unfold zkt;rw [and_bit hs.1 (by omega)]; unfold St.mem; rw [if_pos h]; congr 1; omega
  have HP := lh (fun V => zue v V h);clear h;go_enter Tryz.func19, Tryz.ntmps19;go_wp2_with fail;refine (HP.o _).mono ?_;rintro e w' ⟨rfl, rfl⟩;go_wp2;go_ret;exact ⟨rfl, HB.o⟩
 by_cases h2 : 65 <= v /\ v <= 128
 ·have HB : Hid (Below w.heap.size w (w.alloc (.cells #[.int .u64 (s.a : Int), .int .u64 (s.b : Int)] 56))) := (Below.refl _ _).alloc (Nat.le_refl _) _
  have hr : (bits .and .u64 (s.b : Int) (zkt v : Int) != 0) = s.mem v := by
   unfold zkt;rw [and_bit hs.2 (by omega)]; unfold St.mem; rw [if_neg h, if_pos h2]; congr 1; omega
  have HP := lh (fun V => zud v V h2);clear h h2;go_enter Tryz.func19, Tryz.ntmps19;go_wp2_with fail;refine (HP.o _).mono ?_;rintro e w' ⟨rfl, rfl⟩;go_wp2;go_ret;exact ⟨rfl, HB.o⟩
 exact has_no s v w (by omega)
def St.minus (s t : St) : St := ⟨s.a &&& (18446744073709551615 - t.a), s.b &&& (18446744073709551615 - t.b)⟩
theorem St.minus_ok {s t : St} (h : s.ok) : (St.minus s t).ok := ⟨zju h.1, zju h.2⟩
theorem testBit_not {b i : Nat} (hb : b < U64) (hi : i < 64) : (18446744073709551615 - b).testBit i = !b.testBit i := by
 have h := Nat.testBit_two_pow_sub_succ (n := 64) (x := b) (by rw [<- zm6]; exact hb) i;rw [show 2 ^ 64 - (b + 1) = 18446744073709551615 - b by unfold U64 at hb; omega, decide_eq_true hi] at h
 simpa using h
theorem St.mem_minus {s t : St} (ht : t.ok) (v : Int) : (St.minus s t).mem v = (s.mem v && !t.mem v) := by
 unfold St.mem St.minus
 by_cases h : 1 <= v /\ v <= 64
 ·rw [if_pos h, if_pos h, if_pos h, Nat.testBit_and, testBit_not ht.1 (by omega)]
 rw [if_neg h, if_neg h, if_neg h]
 by_cases h2 : 65 <= v /\ v <= 128
 ·rw [if_pos h2, if_pos h2, if_pos h2, Nat.testBit_and, testBit_not ht.2 (by omega)]
 rw [if_neg h2, if_neg h2, if_neg h2]; rfl
theorem minus_any (s t : St) (w : World) (hs : s.ok) (ht : t.ok) :
 Calls Tryz.prog 97 #[stv s, stv t] w fun e w' => e = .returned (stv (St.minus s t)) /\ Below w.heap.size w w' := by
 have e1 : bits .andNot .u64 (s.a : Int) (t.a : Int) = (((St.minus s t).a : Nat) : Int) := u64_andNot_nat s.a t.a hs.1 ht.1;have e2 : bits .andNot .u64 (s.b : Int) (t.b : Int) = (((St.minus s t).b : Nat) : Int) := u64_andNot_nat s.b t.b hs.2 ht.2;generalize St.minus s t = d at *;have HB : Hid (Below w.heap.size w (((w.alloc (.cells #[.int .u64 (s.a : Int), .int .u64 (s.b : Int)] 56)).alloc (.cells #[.int .u64 (t.a : Int), .int .u64 (t.b : Int)] 56)).alloc (.cells #[.int .u64 (d.a : Int), .int .u64 (d.b : Int)] 56))) := (((Below.refl _ _).alloc (Nat.le_refl _) _).alloc (by simp) _).alloc (by simp; omega) _
 go_enter Tryz.func97, Tryz.ntmps97;go_wp2;exact bodyPost_ret (v := stv d) (by simp [results, Tryz.results97, go_sem]) rfl ⟨rfl, HB.o⟩
theorem eq_zero_set (d : St) (w : World) : (Op.equalIn 10000 56 (.agg #[.int .u64 (d.a : Int), .int .u64 (d.b : Int)]) (.agg #[.int .u64 0, .int .u64 0])).run Tryz.prog w = .ok (decide (d = St.zero)) w := by
 rw [zel 9998]
 congr 1
 rw [Bool.eq_iff_iff]
 cases d
 simp only [Bool.and_eq_true, beq_iff_eq, decide_eq_true_eq, St.zero, St.mk.injEq];omega
theorem sub_any (s t : St) (w : World) (hs : s.ok) (ht : t.ok) :
 Calls Tryz.prog 61 #[stv s, stv t] w fun e w' => e = .returned (.bool (decide (St.minus s t = St.zero))) /\ Below w.heap.size w w' := by
 have HB0 : Hid (Below w.heap.size w ((w.alloc (.cells #[.int .u64 (s.a : Int), .int .u64 (s.b : Int)] 56)).alloc (.cells #[.int .u64 (t.a : Int), .int .u64 (t.b : Int)] 56))) := ((Below.refl _ _).alloc (Nat.le_refl _) _).alloc (by simp) _;have HM := lh (fun V => minus_any s t V hs ht);generalize St.minus s t = d at *;have heq := eq_zero_set d;go_enter Tryz.func61, Tryz.ntmps61;go_wp2_with fail;refine (HM.o _).mono ?_;rintro e w1 ⟨rfl, hb1⟩;have HB1 := lh (HB0.o.trans (hb1.mono HB0.o.size));clear hb1;go_wp2;go_ret;exact ⟨rfl, HB1.o⟩
theorem zi5 {f : Nat -> Bool} {k : Nat} : ∀ m, k <= m -> (∀ j, k < j -> j <= m -> f j = false) -> setB f m = setB f k
 | 0, h, _ => by rw [show k = 0 by omega]
 | m + 1, h, hf => by
   by_cases e : k = m + 1
   ·rw [e]
   have ih := zi5 m (by omega) (fun j h1 h2 => hf j h1 (by omega))
   show (if f (m + 1) then (setB f m).add ((m : Int) + 1) else setB f m) = _
   rw [hf (m + 1) (by omega) (Nat.le_refl _), ih]; rfl
theorem zvv (n : Int) (w : World) : Calls Tryz.prog 62 #[.int .i64 n] w fun e w' => e = .returned (stv (zcy n)) /\ Below w.heap.size w w' := by
 have HB0 : Hid (Below w.heap.size w ((w.alloc (.cells #[.int .u64 0, .int .u64 0] 56)).alloc (.cells #[.int .u64 0, .int .u64 0] 56))) := ((Below.refl _ _).alloc (Nat.le_refl _) _).alloc (by simp) _;go_enter Tryz.func62, Tryz.ntmps62;go_wp2
 go_loopw [4] (fun i wr => ∃ v : Int, 1 <= v /\ v <= 129 /\ (1 < v -> v <= n + 1) /\ i = .int .i64 v /\ Blk wr (w.heap.size + 1) (sts (setB (fun j : Nat => decide ((j : Int) <= n)) (v.toNat - 1))) 56 /\ Blk wr w.heap.size (sts St.zero) 56 /\ Below w.heap.size w wr) (fun i _ => 129 - (intOf i).toNat)
 case atStart => exact ⟨1, by omega, by omega, fun h => by omega, rfl, Blk.new' (w.alloc _) (by simp) (sts St.zero) 56, (Blk.new w _ _).alloc _, HB0.o⟩
 obtain ⟨v, hv1, hv2, hvn, rfl, hs, hz, hbel⟩ := hrel;obtain ⟨c0, c1, f0, f1⟩ := hs.sc;obtain ⟨d0, d1, g0, g1⟩ := hz.sc;have HS := lh hs;have HZ := lh hz;have HB := lh hbel;have HVN := lh hvn;have HOK := lh (zi7 (fun j : Nat => decide ((j : Int) <= n)) (v.toNat - 1));have hzz : w.heap.size + 1 < wr.heap.size := hs.lt;clear hs hz hbel hvn
 by_cases hn : 128 < n
 ·by_cases hgo : v <= 128 /\ v <= n
  ·obtain ⟨h1, h2⟩ := hgo
   have HSB : Hid (setB (fun j : Nat => decide ((j : Int) <= n)) v.toNat = (setB (fun j : Nat => decide ((j : Int) <= n)) (v.toNat - 1)).add v) := by
    have h := zi6 (fun j : Nat => decide ((j : Int) <= n)) hv1;rw [decide_eq_true (show ((v.toNat : Nat) : Int) <= n by omega), if_pos rfl] at h; exact h
   generalize setB (fun j : Nat => decide ((j : Int) <= n)) (v.toNat - 1) = s at *;have HWI := lh (fun V => zhm s v V HOK.o)
   obtain ⟨d, hd⟩ : ∃ d, d = s.add v := ⟨_, rfl⟩
   rw [<- hd] at HWI HSB;clear hd;go_wp2_with fail;refine (HWI.o _).mono ?_;rintro e w1 ⟨rfl, hb1⟩;have hs1 := HS.o.later hb1;obtain ⟨c0', c1', f0', f1'⟩ := hs1.sc;have HZ1 := lh (HZ.o.later hb1);have HB1 := lh (HB.o.trans (hb1.mono HB.o.size));have HS1 := lh hs1;have hz1 : w.heap.size + 1 < w1.heap.size := hs1.lt;clear hb1 c0 c1 f0 f1 d0 d1 g0 g1 hs1;go_wp2;go_roundw
   case rel => exact ⟨v + 1, by omega, by omega, fun _ => by omega, rfl, by rw [show (v + 1).toNat - 1 = v.toNat by omega, HSB.o]; exact HS1.o.putSet d, (HZ1.o.other _ _ (by simp)).other _ _ (by simp), (HB1.o.setCell (by simp) _).setCell (by simp) _⟩
   case measure => simp [intOf]; omega
  have hgo2 : ¬ v <= 128 \/ ¬ v <= n := by omega
  have HE : Hid (setB (fun j : Nat => decide ((j : Int) <= n)) (v.toNat - 1) = zcy n) := by
   show _ = _
   unfold zcy;refine (zi5 128 (by omega) fun j h1 h2 => ?_).symm;rw [decide_eq_false_iff_not];have := HVN.o;omega
  generalize setB (fun j : Nat => decide ((j : Int) <= n)) (v.toNat - 1) = s at *;go_wp2;exact bodyPost_ret (v := stv s) (by simp [results, Tryz.results62, go_sem, d0, d1]) rfl ⟨by rw [HE.o], (HB.o.setCell (Nat.le_refl _) _).setCell (Nat.le_refl _) _⟩
 have hn2 : n <= 128 := by omega
 by_cases hgo : v <= 128 /\ v <= n
 ·obtain ⟨h1, h2⟩ := hgo
  have HSB : Hid (setB (fun j : Nat => decide ((j : Int) <= n)) v.toNat = (setB (fun j : Nat => decide ((j : Int) <= n)) (v.toNat - 1)).add v) := by
   have h := zi6 (fun j : Nat => decide ((j : Int) <= n)) hv1;rw [decide_eq_true (show ((v.toNat : Nat) : Int) <= n by omega), if_pos rfl] at h; exact h
  generalize setB (fun j : Nat => decide ((j : Int) <= n)) (v.toNat - 1) = s at *;have HWI := lh (fun V => zhm s v V HOK.o)
  obtain ⟨d, hd⟩ : ∃ d, d = s.add v := ⟨_, rfl⟩
  rw [<- hd] at HWI HSB;clear hd;go_wp2_with fail;refine (HWI.o _).mono ?_;rintro e w1 ⟨rfl, hb1⟩;have hs1 := HS.o.later hb1;obtain ⟨c0', c1', f0', f1'⟩ := hs1.sc;have HZ1 := lh (HZ.o.later hb1);have HB1 := lh (HB.o.trans (hb1.mono HB.o.size));have HS1 := lh hs1;have hz1 : w.heap.size + 1 < w1.heap.size := hs1.lt;clear hb1 c0 c1 f0 f1 d0 d1 g0 g1 hs1;go_wp2;go_roundw
  case rel => exact ⟨v + 1, by omega, by omega, fun _ => by omega, rfl, by rw [show (v + 1).toNat - 1 = v.toNat by omega, HSB.o]; exact HS1.o.putSet d, (HZ1.o.other _ _ (by simp)).other _ _ (by simp), (HB1.o.setCell (by simp) _).setCell (by simp) _⟩
  case measure => simp [intOf]; omega
 have hgo2 : ¬ v <= 128 \/ ¬ v <= n := by omega
 have HE : Hid (setB (fun j : Nat => decide ((j : Int) <= n)) (v.toNat - 1) = zcy n) := by
  show _ = _
  unfold zcy;refine (zi5 128 (by omega) fun j h1 h2 => ?_).symm;rw [decide_eq_false_iff_not];have := HVN.o;omega
 generalize setB (fun j : Nat => decide ((j : Int) <= n)) (v.toNat - 1) = s at *;go_wp2;exact bodyPost_ret (v := stv s) (by simp [results, Tryz.results62, go_sem, d0, d1]) rfl ⟨by rw [HE.o], (HB.o.setCell (Nat.le_refl _) _).setCell (Nat.le_refl _) _⟩
end Go.Proofs.YtfmmhjphopikgaaGreatDoor
namespace Cen
structure RedOk (n : Int) (st : List Nd × List Int) (k : Nat) : Prop where
 nds : zno st.1 n st.1.length
 le : st.1.length <= k
 len : st.2.length = k
 at_ : ∀ i ∈ st.2, 0 <= i /\ i < (st.1.length : Int)
theorem RedOk.getD {n : Int} {st : List Nd × List Int} {k : Nat} (h : RedOk n st k) (i : Nat) (hi : i < k) : 0 <= st.2.getD i 0 /\ st.2.getD i 0 < (st.1.length : Int) := by
 have hi' : i < st.2.length := by rw [h.len]; exact hi
 have := h.at_ (st.2[i]) (List.getElem_mem hi')
 simpa [List.getD_eq_getElem?_getD, hi'] using this
theorem nd_get {L : List Nd} {i : Int} (h0 : 0 <= i) (h1 : i < L.length) : nd L i = L[i.toNat]'(by omega) := by
 unfold nd; simp [List.getD_eq_getElem?_getD, show i.toNat < L.length by omega]
theorem zro {L r : List Nd} {i : Int} (h0 : 0 <= i) (h1 : i < L.length) : nd (L ++ r) i = nd L i := by
 unfold nd; simp only [List.getD_eq_getElem?_getD]; rw [List.getElem?_append_left (by omega)]
theorem nd_ok {L : List Nd} {n : Int} (hL : zno L n L.length) {i : Int} (h0 : 0 <= i) (h1 : i < L.length) : ndOk (nd L i) n i = true := by
 have := hL i.toNat (by omega);rw [show ((i.toNat : Nat) : Int) = i by omega] at this; exact this
theorem zty {x : Nd} {n b : Int} (h : ndOk x n b = true) : ∀ i ∈ x.ins, 0 <= i /\ i < b := by
 simp only [ndOk, Bool.and_eq_true] at h; exact zdo.1 h.1
theorem T_nd (s : Int -> Bool) {L : List Nd} {n : Int} (hL : zno L n L.length) {i : Int} (h0 : 0 <= i) (h1 : i < L.length) : T s L i = evNd s (T s L) (nd L i) := by
 have e : ((i.toNat : Nat) : Int) = i := by omega
 have h := hL i.toNat (by omega);simp only [ndOk, Bool.and_eq_true] at h;have := T_eq s L i.toNat (by omega) h.1;rw [e] at this; exact this
end Cen
