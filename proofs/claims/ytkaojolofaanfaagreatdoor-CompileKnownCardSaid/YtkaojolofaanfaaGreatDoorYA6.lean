/- Part of the proofs that laws of censuslaw24 return true for every input, where the tables that the rows list are laid. Texts: R03W, R03A, Decomp, VarsM, RedT. -/
import Derived.Test.YtkaojolofaanfaaGreatDoorYA5
import Derived.Test.YtkaojolofaanfaaGreatDoorYA2
import Derived.Test.YtkaojolofaanfaaGreatDoorYA4
import Derived.Test.YtkaojolofaanfaaGreatDoorYA1
set_option maxHeartbeats 8000000
set_option maxRecDepth 100000
set_option linter.unusedSimpArgs false
set_option linter.unusedVariables false
namespace Go.Proofs.YtkaojolofaanfaaGreatDoor
open Go.RowKit Cen
theorem OwnInts.lower0' {w : World} {base B : Nat} {v : Value} {xs : List Int} (h : OwnInts w base v xs) (hB : B <= base) : OwnInts w B v xs := by
 refine ⟨h.1, ?_⟩
 rcases h.2 with h1 | ⟨g, cap, cur, hv, hg, r⟩
 ·exact .inl h1
 ·exact .inr ⟨g, cap, cur, hv, Nat.le_trans hB hg, r⟩
def zdz (s : St) : Nat -> List Int
 | 0 => []
 | k + 1 => if s.mem ((k : Int) + 1) then zdz s k ++ [(k : Int) + 1] else zdz s k
theorem ziq (s : St) : ∀ k, (zdz s k).length <= k
 | 0 => by simp [zdz]
 | k + 1 => by
   have := ziq s k
   show (if s.mem ((k : Int) + 1) then zdz s k ++ [(k : Int) + 1] else zdz s k).length <= _
   split
   ·simp; omega
   ·omega
theorem zmm (s : St) (v : Int) : ∀ k, v ∈ zdz s k ↔ 1 <= v /\ v <= k /\ s.mem v = true
 | 0 => by simp [zdz]; omega
 | k + 1 => by
   have ih := zmm s v k
   show v ∈ (if s.mem ((k : Int) + 1) then zdz s k ++ [(k : Int) + 1] else zdz s k) ↔ _
   by_cases e : v = (k : Int) + 1
   ·subst e
    cases hm : s.mem ((k : Int) + 1) with
    | true => simp; omega
    | false => simp only [Bool.false_eq_true, if_false]; rw [ih]; simp [hm]
   ·split
    ·rw [List.mem_append, ih]; simp [e]; omega
    ·rw [ih]; constructor
     ·intro h; exact ⟨h.1, by omega, h.2.2⟩
     ·intro h; exact ⟨h.1, by omega, h.2.2⟩
theorem zpo (s : St) {v : Int} (h1 : 1 <= v) : zdz s v.toNat = if s.mem v then zdz s (v.toNat - 1) ++ [v] else zdz s (v.toNat - 1) := by
 obtain ⟨k, rfl⟩ : ∃ k : Nat, v = (k : Int) + 1 := ⟨(v - 1).toNat, by omega⟩
 rw [show ((k : Int) + 1).toNat = k + 1 by omega]; rfl
theorem zrh (s : St) (w : World) (hs : s.ok) : Calls Tryz.prog 151 #[stv s] w fun e w' => ∃ v, e = .returned v /\ OwnInts w' w.heap.size v (zdz s 128) /\ Below w.heap.size w w' := by
 have hb0 := (Below.refl w.heap.size w).alloc (Nat.le_refl _) (.cells #[.int .u64 (s.a : Int), .int .u64 (s.b : Int)] 54);have HB0 := lh hb0;have q0 := lh (Blk.new w #[.int .u64 (s.a : Int), .int .u64 (s.b : Int)] 54);have HH := lh (fun v V => ztk s v V hs)
 have HZ0 : Hid ((w.alloc (.cells #[.int .u64 (s.a : Int), .int .u64 (s.b : Int)] 54)).heap.size = w.heap.size + 1) := by show _ = _; simp
 clear hb0;go_enter Tryz.func151, Tryz.ntmps151;go_wp2;generalize w.alloc (.cells #[.int .u64 (s.a : Int), .int .u64 (s.b : Int)] 54) = W at *
 go_loopw [3, 4] (fun o i wr => ∃ v : Int, 1 <= v /\ v <= 129 /\ i = .int .i64 v /\ OwnInts wr (w.heap.size + 1) o (zdz s (v.toNat - 1)) /\ Below (w.heap.size + 1) W wr) (fun _ i _ => 129 - (intOf i).toNat)
 case atStart => exact ⟨1, by omega, by omega, rfl, OwnInts.nil _ _, Below.refl _ _⟩
 case round =>
  obtain ⟨v, hv1, hv2, rfl, hown, hb⟩ := hrel;have HO := lh hown;have HB := lh hb;have R := lh (q0.out.laterB hb (by omega));have HBA := lh (HB0.out.trans (hb.mono (by omega)));have k0 : wr.cell? ⟨w.heap.size, 0, none⟩ = some (.int .u64 (s.a : Int)) := R.out.cell 0;have k1 : wr.cell? ⟨w.heap.size, 1, none⟩ = some (.int .u64 (s.b : Int)) := R.out.cell 1;clear hown hb
  by_cases hlt : v <= 128
  ·have HN := lh (zpo s hv1);have HL := lh (ziq s (v.toNat - 1));have HHV := lh (HH.out v wr);generalize zdz s (v.toNat - 1) = ys at *
   cases hm : s.mem v with
   | false =>
     rw [hm] at HHV;rw [hm, if_neg (by simp)] at HN;clear hm;go_wp2_with fail;refine HHV.out.mono ?_;rintro e w1 ⟨rfl, hb1⟩;have HB1 := lh hb1;clear hb1;go_wp2;go_roundw
     case rel => exact ⟨v + 1, by omega, by omega, rfl, by rw [show (v + 1).toNat - 1 = v.toNat by omega, HN.out]; exact HO.out.kept (M := fun _ => False) (Kp.below HB1.out) (fun _ _ h => h), HB.out.trans (HB1.out.mono (by have := HB.out.size; have := HZ0.out; omega))⟩
     case measure => simp [intOf]; omega
   | true =>
     rw [hm] at HHV;rw [hm, if_pos rfl] at HN;clear hm;go_wp2_with fail;refine HHV.out.mono ?_;rintro e w1 ⟨rfl, hb1⟩;have HB1 := lh hb1;have HO1 := lh (HO.out.kept (M := fun _ => False) (Kp.below hb1) (fun _ _ h => h))
     have HZ1 : Hid (w.heap.size + 1 <= w1.heap.size) := by show _ <= _; have h1 := HB.out.size; have h2 := HZ0.out; have h3 := hb1.size; omega
     clear hb1
     have HOB : Hid (∀ q, u3.ownBlock = some q -> w.heap.size + 1 <= q) := fun q hq => (HO.out.lt q hq).1
     go_wp2_with (at_builtin; refine zhs rfl _ _ rfl (w.heap.size + 1) u3 ys v rfl HO1.out rfl (by have := HL.out; omega) HZ1.out ?_);intro v' w2 hown2 hgrow2 _;have HO2 := lh hown2;have HB2 : Hid (Below (w.heap.size + 1) W w2) := (HB.out.trans (HB1.out.mono (by have := HB.out.size; have := HZ0.out; omega))).grown hgrow2 HZ1.out HOB.out;clear hown2 hgrow2;go_wp2;go_roundw
     case rel => exact ⟨v + 1, by omega, by omega, rfl, by rw [show (v + 1).toNat - 1 = v.toNat by omega, HN.out]; exact HO2.out, HB2.out⟩
     case measure => simp [intOf]; omega
  ·have : v = 129 := by omega
   subst this;go_wp2;go_ret;exact ⟨_, rfl, OwnInts.lower0' HO.out (by omega), HBA.out⟩
def bl (ys : List Int) : List Bool := (List.range 129).map fun j : Nat => decide (1 <= j) && ys.contains (j : Int)
def ofB (ys : List Int) : St := setB (fun j : Nat => decide (1 <= j) && ys.contains (j : Int)) 128
theorem zgv (ys : List Int) : (bl ys).length = 129 := by unfold bl; rw [List.length_map, List.length_range]
theorem zlo (ys : List Int) (j : Nat) (h : j < (bl ys).length) : (bl ys)[j] = (decide (1 <= j) && ys.contains (j : Int)) := by
 simp only [bl, List.getElem_map, List.getElem_range]
theorem zw4 : bl [] = List.replicate 129 false := by
 apply List.ext_getElem
 ·rw [zgv, List.length_replicate]
 ·intro i h1 h2; rw [zlo, List.getElem_replicate]; simp
theorem zfp (ys : List Int) (y v : Int) : (ys ++ [y]).contains v = (ys.contains v || decide (v = y)) := by
 rw [Bool.eq_iff_iff]; simp
theorem zvw (ys : List Int) (y : Int) : bl (ys ++ [y]) = if 1 <= y /\ y <= 128 then (bl ys).set y.toNat true else bl ys := by
 apply List.ext_getElem
 ·split
  ·rw [zgv, List.length_set, zgv]
  ·rw [zgv, zgv]
 ·intro i h1 h2
  have hi : i < 129 := by rw [zgv] at h1; exact h1
  rw [zlo, zfp]
  by_cases h : 1 <= y /\ y <= 128
  ·simp only [if_pos h, List.getElem_set]
   by_cases e : y.toNat = i
   ·rw [if_pos e, decide_eq_true (show (i : Int) = y by omega), decide_eq_true (show 1 <= i by omega)]; simp
   ·rw [if_neg e, decide_eq_false (show ¬ (i : Int) = y by omega), zlo]; simp
  ·simp only [if_neg h];rw [zlo]
   by_cases e : (i : Int) = y
   ·have : i = 0 := by omega
    subst this; simp
   ·rw [decide_eq_false e]; simp
theorem zru (ys : List Int) (v : Int) : (ofB ys).mem v = (decide (1 <= v) && (decide (v <= 128) && ys.contains v)) := by
 unfold ofB;rw [zld _ _ _ (Nat.le_refl _)]
 by_cases h : 1 <= v
 ·rw [decide_eq_true h, decide_eq_true (show 1 <= v.toNat by omega), show ((v.toNat : Nat) : Int) = v by omega]; simp
 ·rw [decide_eq_false h]; rfl
theorem zvf (ys : List Int) : (ofB ys).ok := zi7 _ _
theorem zrt (b : Option Addr) (cap2 : Nat) (xs : List Int) (w : World) (hxs : IntCells w b xs) (hxl : xs.length <= 1073741824) :
 Calls Tryz.prog 139 #[.slice b xs.length cap2] w fun e w' => e = .returned (stv (ofB xs)) /\ Below w.heap.size w w' := by
 have hb0 := (Below.refl w.heap.size w).alloc (Nat.le_refl _) (.cells #[.int .u64 0, .int .u64 0] 54);have HB0 := lh hb0;have q0 := lh (Blk.new w #[.int .u64 0, .int .u64 0] 54);have HXS := lh hxs
 have HZ0 : Hid ((w.alloc (.cells #[.int .u64 0, .int .u64 0] 54)).heap.size = w.heap.size + 1) := by show _ = _; simp
 clear hb0 hxs;go_enter Tryz.func139, Tryz.ntmps139;go_wp2_with fail;refine (zmr _).mono ?_;rintro e w1 ⟨g, rfl, hown1, hb1⟩;have HO1 := lh hown1;rw [HZ0.out] at HO1
 have HB1 : Hid (Below (w.heap.size + 1) (w.alloc (.cells #[.int .u64 0, .int .u64 0] 54)) w1) := by have h := hb1; rw [HZ0.out] at h; exact h
 clear hown1 hb1;go_wp2
 go_loopw [4] (fun i wr => ∃ k : Nat, k <= xs.length /\ i = .int .i64 k /\ OwnL bc 4 1 wr (w.heap.size + 1) (.slice (some ⟨g, 0, none⟩) 129 129) (bl (xs.take k)) /\ Below (w.heap.size + 1) (w.alloc (.cells #[.int .u64 0, .int .u64 0] 54)) wr) (fun i _ => xs.length - (intOf i).toNat)
 case atStart => exact ⟨0, Nat.zero_le _, rfl, by rw [List.take_zero, zw4]; exact HO1.out, HB1.out⟩
 case round =>
  obtain ⟨k, hk, rfl, hown, hb⟩ := hrel;have HO := lh hown;have HB := lh hb;have HBA := lh (HB0.out.trans (hb.mono (by omega)));have R := lh (q0.out.laterB hb (by omega));have HG := lh hown.lt;clear hown hb
  by_cases hlt : k < xs.length
  ·obtain ⟨b2, off2, rfl, c0⟩ := (HXS.out.keep HBA.out) k hlt;have HBL := lh (zvw (xs.take k) xs[k]);rw [<- List.take_succ_eq_append_getElem hlt] at HBL
   have hgd : xs.getD k 0 = xs[k] := by simp [List.getD_eq_getElem?_getD, hlt]
   rw [hgd] at c0;generalize xs[k] = x at *
   have HLN : Hid (129 = (bl (xs.take k)).length) := by show _ = _; rw [zgv]
   have hki : (k : Int) < (xs.length : Int) := by omega
   have hk0 : (0 : Int) <= (k : Int) := by omega
   clear hgd
   by_cases h1 : 1 <= x
   ·have d1 : decide (1 <= x) = true := by simpa using h1
    by_cases h2 : x <= 128
    ·have d2 : decide (x <= 128) = true := by simpa using h2
     have h3 : x < 129 := by omega
     have h0 : 0 <= x := by omega
     have fr := HO.out.fr HLN.out x.toNat
     have HS : Hid (OwnL bc 4 1 (wr.setCell ⟨g, x.toNat, none⟩ (.bool true)) (w.heap.size + 1) (.slice (some ⟨g, 0, none⟩) 129 129) (bl (xs.take (k + 1)))) := by
      rw [HBL.out, if_pos ⟨h1, h2⟩];exact HO.out.put1 HLN.out zht x.toNat (by rw [<- HLN.out]; omega) true (.bool true) rfl
     have cg : ∃ u, wr.cell? ⟨g, x.toNat, none⟩ = some u := ⟨_, by have h := HO.out.cell HLN.out zht x.toNat 0 (by rw [<- HLN.out]; omega) (by omega); rw [Nat.mul_one, Nat.add_zero] at h; rw [h]; rfl⟩
     obtain ⟨u, hu⟩ := cg;clear h1;go_wp2;go_roundw
     case rel => exact ⟨k + 1, by omega, by go_num, HS.out, HB.out.setCell (by dsimp only; exact HG.out.2) _⟩
     case measure => simp [intOf]; omega
    ·have d2 : decide (x <= 128) = false := by simpa using h2
     rw [if_neg (fun h => h2 h.2)] at HBL;clear h1 h2;go_wp2;go_roundw
     case rel => exact ⟨k + 1, by omega, by go_num, by rw [HBL.out]; exact HO.out, HB.out⟩
     case measure => simp [intOf]; omega
   ·have d1 : decide (1 <= x) = false := by simpa using h1
    rw [if_neg (fun h => h1 h.1)] at HBL;clear h1;go_wp2;go_roundw
    case rel => exact ⟨k + 1, by omega, by go_num, by rw [HBL.out]; exact HO.out, HB.out⟩
    case measure => simp [intOf]; omega
  ·have : k = xs.length := by omega
   subst this;rw [List.take_length] at HO
   have HLN : Hid (129 = (bl xs).length) := by show _ = _; rw [zgv]
   have HST := lh (zo3 (fun j => decide (1 <= j) && xs.contains (j : Int)) g wr (fun j hj => by
    have h := HO.out.cell HLN.out zht j 0 (by rw [<- HLN.out]; exact hj) (by omega);rw [Nat.mul_one, Nat.add_zero, zlo] at h
    exact h))
   go_wp2_with fail;refine HST.out.mono ?_;rintro e w2 ⟨rfl, hb2⟩;have R2 := R.out.later hb2;have HB2 := lh (HBA.out.trans (hb2.mono HBA.out.size));have f0 := R2.fr 0;have f1 := R2.fr 1;have j0 : w2.cell? ⟨w.heap.size, 0, none⟩ = some (.int .u64 0) := R2.cell 0;have j1 : w2.cell? ⟨w.heap.size, 1, none⟩ = some (.int .u64 0) := R2.cell 1;have hz : w.heap.size < w2.heap.size := R2.lt;clear hb2;have HE : Hid (setB (fun j => decide (1 <= j) && xs.contains (j : Int)) 128 = ofB xs) := rfl
   obtain ⟨d, hd⟩ : ∃ d, d = ofB xs := ⟨_, rfl⟩
   rw [HE.out, <- hd];have HD := lh hd;clear hd;go_wp2;have hbr := (R2.set 0 (.int .u64 (d.a : Int))).set 1 (.int .u64 (d.b : Int));have e0 : ((w2.setCell ⟨w.heap.size, 0, none⟩ (.int .u64 (d.a : Int))).setCell ⟨w.heap.size, 1, none⟩ (.int .u64 (d.b : Int))).cell? ⟨w.heap.size, 0, none⟩ = some (.int .u64 (d.a : Int)) := hbr.cell 0;have e1 : ((w2.setCell ⟨w.heap.size, 0, none⟩ (.int .u64 (d.a : Int))).setCell ⟨w.heap.size, 1, none⟩ (.int .u64 (d.b : Int))).cell? ⟨w.heap.size, 1, none⟩ = some (.int .u64 (d.b : Int)) := hbr.cell 1;exact bodyPost_ret (v := stv d) (by simp [results, Tryz.results139, go_sem, e0, e1]) rfl ⟨by rw [HD.out], (HB2.out.setCell (Nat.le_refl _) _).setCell (Nat.le_refl _) _⟩
theorem zt3 {s : St} (hs : s.ok) (v : Int) : ofB (zdz s 128 ++ [v]) = s.add v := by
 apply St.ext (zvf _) (St.add_ok hs v)
 intro u h1 h2;rw [zru, St.mem_add, zfp, decide_eq_true h1, decide_eq_true h2]
 have e : (zdz s 128).contains u = s.mem u := by
  rw [Bool.eq_iff_iff, List.contains_iff_mem, zmm];exact ⟨fun h => h.2.2, fun h => ⟨h1, by omega, h⟩⟩
 rw [e]
 by_cases e : u = v
 ·subst e; rw [decide_eq_true h1, decide_eq_true h2]; simp
 ·rw [decide_eq_false e]; simp
theorem zsi (s : St) (v : Int) (w : World) (hs : s.ok) : Calls Tryz.prog 80 #[stv s, .int .i64 v] w fun e w' => e = .returned (stv (s.add v)) /\ Below w.heap.size w w' := by
 have hb0 := ((Below.refl w.heap.size w).alloc (Nat.le_refl _) (.cells #[.int .u64 (s.a : Int), .int .u64 (s.b : Int)] 54)).alloc (by simp) (.cells #[.int .u64 0, .int .u64 0] 54);have HB0 := lh hb0;have q1 := lh (Blk.new' (w.alloc (.cells #[.int .u64 (s.a : Int), .int .u64 (s.b : Int)] 54)) (World.size_alloc _ _) #[.int .u64 0, .int .u64 0] 54);have HLI := lh (fun V => zrh s V hs);have HW := lh (zt3 hs v);have HLL := lh (ziq s 128);clear hb0;generalize zdz s 128 = ys at *;generalize s.add v = d at *
 have HLZ : Hid ((ys ++ [v]).length <= 1073741824) := by show _ <= _; have := HLL.out; simp; omega
 go_enter Tryz.func80, Tryz.ntmps80;go_wp2_with fail;refine (HLI.out _).mono ?_;rintro e w1 ⟨vl, rfl, hown1, hb1⟩;have R1 := lh (q1.out.later hb1);have HO1 := lh hown1;have HB1 := lh (HB0.out.trans (hb1.mono HB0.out.size));have HZ1 := lh hb1.size;clear hb1 hown1;go_wp2_with (at_builtin; refine zhs rfl _ _ rfl _ vl ys v rfl HO1.out rfl (by have := HLL.out; omega) HZ1.out ?_);intro v' w2 hown2 hgrow2 _;generalize ys ++ [v] = zs at hown2 HW HLZ
 have HB2' : Hid (Below w.heap.size w w2) := HB1.out.grown hgrow2 HB1.out.size (fun g hg => by
  have := (HO1.out.lt g hg).1; simp at this; omega)
 have R2 : Hid (Blk w2 (w.heap.size + 1) #[.int .u64 0, .int .u64 0] 54) := by
  show w2.heap[w.heap.size + 1]? = _
  rw [hgrow2.block _ R1.out.lt (fun hg => by have := (HO1.out.lt _ hg.symm).1; simp at this; omega)];exact R1.out
 obtain ⟨a3, c3, rfl, hi3, _⟩ := hown2.cells;have HOF := lh (zrt a3 c3 zs w2 hi3 HLZ.out);rw [HW.out] at HOF;clear hown2 hgrow2 hi3;go_wp2_with fail;refine HOF.out.mono ?_;rintro e w3 ⟨rfl, hb3⟩;have R3 := R2.out.later hb3;have HB3 := lh (HB2'.out.trans (hb3.mono HB2'.out.size));have f0 := R3.fr 0;have f1 := R3.fr 1;have j0 : w3.cell? ⟨w.heap.size + 1, 0, none⟩ = some (.int .u64 0) := R3.cell 0;have j1 : w3.cell? ⟨w.heap.size + 1, 1, none⟩ = some (.int .u64 0) := R3.cell 1;have hz : w.heap.size + 1 < w3.heap.size := R3.lt;clear hb3;go_wp2;have hbr := (R3.set 0 (.int .u64 (d.a : Int))).set 1 (.int .u64 (d.b : Int))
 have e0 : ((w3.setCell ⟨w.heap.size + 1, 0, none⟩ (.int .u64 (d.a : Int))).setCell ⟨w.heap.size + 1, 1, none⟩ (.int .u64 (d.b : Int))).cell? ⟨w.heap.size + 1, 0, none⟩ = some (.int .u64 (d.a : Int)) := hbr.cell 0;have e1 : ((w3.setCell ⟨w.heap.size + 1, 0, none⟩ (.int .u64 (d.a : Int))).setCell ⟨w.heap.size + 1, 1, none⟩ (.int .u64 (d.b : Int))).cell? ⟨w.heap.size + 1, 1, none⟩ = some (.int .u64 (d.b : Int)) := hbr.cell 1;exact bodyPost_ret (v := stv d) (by simp [results, Tryz.results80, go_sem, e0, e1]) rfl ⟨rfl, (HB3.out.setCell (show w.heap.size <= (⟨w.heap.size + 1, 0, none⟩ : Addr).block by dsimp only; omega) _).setCell (show w.heap.size <= (⟨w.heap.size + 1, 1, none⟩ : Addr).block by dsimp only; omega) _⟩
def blf (f : Nat -> Bool) : List Bool := (List.range 129).map f
theorem zdt (f : Nat -> Bool) : (blf f).length = 129 := by unfold blf; rw [List.length_map, List.length_range]
theorem zgc (f : Nat -> Bool) (j : Nat) (h : j < (blf f).length) : (blf f)[j] = f j := by simp only [blf, List.getElem_map, List.getElem_range]
theorem zlp {f g : Nat -> Bool} (h : ∀ j, j < 129 -> f j = g j) : blf f = blf g := by
 apply List.ext_getElem
 ·rw [zdt, zdt]
 ·intro i h1 h2; rw [zgc, zgc]; exact h i (by rw [zdt] at h1; exact h1)
theorem zqo : blf (fun _ => false) = List.replicate 129 false := by
 apply List.ext_getElem
 ·rw [zdt, List.length_replicate]
 ·intro i h1 h2; rw [zgc, List.getElem_replicate]
theorem zvx (f : Nat -> Bool) (i : Nat) (b : Bool) : (blf f).set i b = blf (fun j => if j = i then b else f j) := by
 apply List.ext_getElem
 ·rw [List.length_set, zdt, zdt]
 ·intro j h1 h2;rw [List.getElem_set, zgc _ _ h2]
  by_cases e : i = j
  ·rw [if_pos e, if_pos e.symm]
  ·rw [if_neg e, if_neg (fun x : j = i => e x.symm), zgc]
theorem zki {f g : Nat -> Bool} : ∀ (k : Nat), (∀ j, 1 <= j -> j <= k -> f j = g j) -> setB f k = setB g k
 | 0, _ => rfl
 | k + 1, h => by
   have ih := zki k (fun j h1 h2 => h j h1 (by omega));have h1 := h (k + 1) (by omega) (Nat.le_refl _)
   show (if f (k + 1) then (setB f k).add ((k : Int) + 1) else setB f k) = (if g (k + 1) then (setB g k).add ((k : Int) + 1) else setB g k)
   rw [ih, h1]
def zcy (n : Int) : St := setB (fun j : Nat => decide ((j : Int) <= n)) 128
theorem zqn (n v : Int) : (zcy n).mem v = (decide (1 <= v) && (decide (v <= 128) && decide (v <= n))) := by
 unfold zcy;rw [zld _ _ _ (Nat.le_refl _)]
 by_cases h : 1 <= v
 ·rw [show ((v.toNat : Nat) : Int) = v by omega]; rfl
 ·rw [decide_eq_false h]; rfl
theorem zvj {g : Nat} {wr : World} {base : Nat} {f : Nat -> Bool} (h : OwnL bc 4 1 wr base (.slice (some ⟨g, 0, none⟩) 129 129) (blf f)) : ∀ j, j < 129 -> wr.cell? ⟨g, j, none⟩ = some (.bool (f j)) := fun j hj => by
 have h2 := h.cell (by rw [zdt]) zht j 0 (by rw [zdt]; exact hj) (by omega);rw [Nat.mul_one, Nat.add_zero, zgc] at h2;exact h2
theorem zss (n : Int) (w : World) : Calls Tryz.prog 44 #[.int .i64 n] w fun e w' => e = .returned (stv (zcy n)) /\ Below w.heap.size w w' := by
 have hb0 := (Below.refl w.heap.size w).alloc (Nat.le_refl _) (.cells #[.int .u64 0, .int .u64 0] 54);have HB0 := lh hb0;have q0 := lh (Blk.new w #[.int .u64 0, .int .u64 0] 54)
 have HZ0 : Hid ((w.alloc (.cells #[.int .u64 0, .int .u64 0] 54)).heap.size = w.heap.size + 1) := by show _ = _; simp
 clear hb0;go_enter Tryz.func44, Tryz.ntmps44;go_wp2_with fail;refine (zmr _).mono ?_;rintro e w1 ⟨g, rfl, hown1, hb1⟩;have HO1 := lh hown1;rw [HZ0.out] at HO1
 have HB1 : Hid (Below (w.heap.size + 1) (w.alloc (.cells #[.int .u64 0, .int .u64 0] 54)) w1) := by have h := hb1; rw [HZ0.out] at h; exact h
 clear hown1 hb1;go_wp2
 go_loopw [4] (fun i wr => ∃ v : Int, 1 <= v /\ v <= 129 /\ (1 < v -> v <= n + 1) /\ i = .int .i64 v /\ OwnL bc 4 1 wr (w.heap.size + 1) (.slice (some ⟨g, 0, none⟩) 129 129) (blf fun j => decide (1 <= j) && decide ((j : Int) < v)) /\ Below (w.heap.size + 1) (w.alloc (.cells #[.int .u64 0, .int .u64 0] 54)) wr) (fun i _ => 129 - (intOf i).toNat)
 case atStart => exact ⟨1, by omega, by omega, fun h => by omega, rfl, by
  rw [zlp (g := fun _ => false) (fun j _ => by
   by_cases h : 1 <= j
   ·rw [decide_eq_false (show ¬ (j : Int) < 1 by omega)]; simp
   ·rw [decide_eq_false h]; rfl), zqo]; exact HO1.out, HB1.out⟩
 case round =>
  obtain ⟨v, hv1, hv2, hvn, rfl, hown, hb⟩ := hrel;have HO := lh hown;have HB := lh hb;have HBA := lh (HB0.out.trans (hb.mono (by omega)));have R := lh (q0.out.laterB hb (by omega));have HG := lh hown.lt;have HVN := lh hvn;clear hown hb hvn
  by_cases hgo : v <= 128 /\ v <= n
  ·obtain ⟨h1, h2⟩ := hgo
   have hlt : v < 129 := by omega
   have hv0 : 0 <= v := by omega
   have HLN : Hid (129 = (blf fun j => decide (1 <= j) && decide ((j : Int) < v)).length) := by show _ = _; rw [zdt]
   have fr := HO.out.fr HLN.out v.toNat
   have HS : Hid (OwnL bc 4 1 (wr.setCell ⟨g, v.toNat, none⟩ (.bool true)) (w.heap.size + 1) (.slice (some ⟨g, 0, none⟩) 129 129) (blf fun j => decide (1 <= j) && decide ((j : Int) < v + 1))) := by
    have h := HO.out.put1 HLN.out zht v.toNat (by rw [<- HLN.out]; omega) true (.bool true) rfl
    rw [zvx, zlp (g := fun j => decide (1 <= j) && decide ((j : Int) < v + 1)) (fun j _ => by
     by_cases e : j = v.toNat
     ·rw [if_pos e, decide_eq_true (show 1 <= j by omega), decide_eq_true (show (j : Int) < v + 1 by omega)]; rfl
     ·rw [if_neg e]; congr 1; rw [Bool.eq_iff_iff, decide_eq_true_iff, decide_eq_true_iff]; omega)] at h
    exact h
   have cg : ∃ u, wr.cell? ⟨g, v.toNat, none⟩ = some u := ⟨_, zvj HO.out v.toNat (by omega)⟩
   obtain ⟨u, hu⟩ := cg;go_wp2;go_roundw
   case rel => exact ⟨v + 1, by omega, by omega, fun _ => by omega, rfl, HS.out, HB.out.setCell (by dsimp only; exact HG.out.2) _⟩
   case measure => simp [intOf]; omega
  ·have HE : Hid (setB (fun j => decide (1 <= j) && decide ((j : Int) < v)) 128 = zcy n) := by
    show _ = _
    unfold zcy
    refine zki 128 fun j h1 h2 => ?_
    rw [decide_eq_true h1, Bool.true_and, Bool.eq_iff_iff, decide_eq_true_iff, decide_eq_true_iff];have := HVN.out
    constructor
    ·intro h; have := this (by omega); omega
    ·intro h; omega
   have HST := lh (zo3 (fun j => decide (1 <= j) && decide ((j : Int) < v)) g wr (zvj HO.out));rw [HE.out] at HST
   obtain ⟨d, hd⟩ : ∃ d, d = zcy n := ⟨_, rfl⟩
   rw [<- hd] at HST;have HD := lh hd;clear hd
   by_cases h1 : v <= 128
   ·have hn1 : ¬ v <= n := fun h => hgo ⟨h1, h⟩
    have d2 : decide (v <= n) = false := by simpa using hn1
    clear hgo hn1;go_wp2_with fail;refine HST.out.mono ?_;rintro e w2 ⟨rfl, hb2⟩;have R2 := R.out.later hb2;have HB2 := lh (HBA.out.trans (hb2.mono HBA.out.size));have f0 := R2.fr 0;have f1 := R2.fr 1;have j0 : w2.cell? ⟨w.heap.size, 0, none⟩ = some (.int .u64 0) := R2.cell 0;have j1 : w2.cell? ⟨w.heap.size, 1, none⟩ = some (.int .u64 0) := R2.cell 1;have hz : w.heap.size < w2.heap.size := R2.lt;clear hb2;go_wp2;have hbr := (R2.set 0 (.int .u64 (d.a : Int))).set 1 (.int .u64 (d.b : Int));have e0 : ((w2.setCell ⟨w.heap.size, 0, none⟩ (.int .u64 (d.a : Int))).setCell ⟨w.heap.size, 1, none⟩ (.int .u64 (d.b : Int))).cell? ⟨w.heap.size, 0, none⟩ = some (.int .u64 (d.a : Int)) := hbr.cell 0
    have e1 : ((w2.setCell ⟨w.heap.size, 0, none⟩ (.int .u64 (d.a : Int))).setCell ⟨w.heap.size, 1, none⟩ (.int .u64 (d.b : Int))).cell? ⟨w.heap.size, 1, none⟩ = some (.int .u64 (d.b : Int)) := hbr.cell 1;exact bodyPost_ret (v := stv d) (by simp [results, Tryz.results44, go_sem, e0, e1]) rfl ⟨by rw [HD.out], (HB2.out.setCell (Nat.le_refl _) _).setCell (Nat.le_refl _) _⟩
   ·have d1 : decide (v <= 128) = false := by simpa using h1
    clear hgo h1;go_wp2_with fail;refine HST.out.mono ?_;rintro e w2 ⟨rfl, hb2⟩;have R2 := R.out.later hb2;have HB2 := lh (HBA.out.trans (hb2.mono HBA.out.size));have f0 := R2.fr 0;have f1 := R2.fr 1;have j0 : w2.cell? ⟨w.heap.size, 0, none⟩ = some (.int .u64 0) := R2.cell 0;have j1 : w2.cell? ⟨w.heap.size, 1, none⟩ = some (.int .u64 0) := R2.cell 1;have hz : w.heap.size < w2.heap.size := R2.lt;clear hb2;go_wp2;have hbr := (R2.set 0 (.int .u64 (d.a : Int))).set 1 (.int .u64 (d.b : Int));have e0 : ((w2.setCell ⟨w.heap.size, 0, none⟩ (.int .u64 (d.a : Int))).setCell ⟨w.heap.size, 1, none⟩ (.int .u64 (d.b : Int))).cell? ⟨w.heap.size, 0, none⟩ = some (.int .u64 (d.a : Int)) := hbr.cell 0
    have e1 : ((w2.setCell ⟨w.heap.size, 0, none⟩ (.int .u64 (d.a : Int))).setCell ⟨w.heap.size, 1, none⟩ (.int .u64 (d.b : Int))).cell? ⟨w.heap.size, 1, none⟩ = some (.int .u64 (d.b : Int)) := hbr.cell 1;exact bodyPost_ret (v := stv d) (by simp [results, Tryz.results44, go_sem, e0, e1]) rfl ⟨by rw [HD.out], (HB2.out.setCell (Nat.le_refl _) _).setCell (Nat.le_refl _) _⟩
theorem zel (d : Nat) (a b c e : Int) (w : World) :
 (Op.equalIn (d + 2) 54 (.agg #[.int .u64 a, .int .u64 b]) (.agg #[.int .u64 c, .int .u64 e])).run Tryz.prog w = .ok (a == c && b == e) w := by
 have hsz : ∀ w, (sizeOf 52).run Tryz.prog w = .ok 1 w := fun w => by kernel_rfl
 have hp0 : ∀ (x y : Value) w, (part 52 #[x, y] 0).run Tryz.prog w = .ok x w := fun x y w => by kernel_rfl
 have hp1 : ∀ (x y : Value) w, (part 52 #[x, y] 1).run Tryz.prog w = .ok y w := fun x y w => by kernel_rfl
 rw [Op.equalIn.eq_def];simp only [Sem.run_bind, run_underlying Tryz.underlying54, Result.andThen_ok, hsz]
 simp [List.range']
 simp [hp0, hp1, run_equalIn_int _ _ _ _ _ _ _ Tryz.underlying52]
 by_cases h1 : a = c <;> by_cases h2 : b = e <;> simp [h1, h2]
def eqSt (s t : St) : Bool := decide (s = t)
theorem zoh (s t : St) : ((s.a : Int) == (t.a : Int) && (s.b : Int) == (t.b : Int)) = eqSt s t := by
 unfold eqSt;rw [Bool.eq_iff_iff]
 cases s; cases t; simp; omega
theorem zi4 (s t : St) (w : World) : (binOp .neq 54 (stv s) (stv t)).run Tryz.prog w = .ok (.bool !(eqSt s t)) w := by
 rw [run_neq_struct, zel 9998]
 simp [Result.andThen_ok, <- zoh]
theorem znv (s t : St) (w : World) : (binOp .eql 54 (stv s) (stv t)).run Tryz.prog w = .ok (.bool (eqSt s t)) w := by
 rw [run_eql_struct, zel 9998]
 simp [Result.andThen_ok, <- zoh]
theorem ze9 : Tryz.prog.eqGuardType Tryz.prog.depth 54 = false := by kernel_rfl
theorem zi5 {f : Nat -> Bool} {k : Nat} : ∀ m, k <= m -> (∀ j, k < j -> j <= m -> f j = false) -> setB f m = setB f k
 | 0, h, _ => by rw [show k = 0 by omega]
 | m + 1, h, hf => by
   by_cases e : k = m + 1
   ·rw [e]
   ·have ih := zi5 m (by omega) (fun j h1 h2 => hf j h1 (by omega))
    show (if f (m + 1) then (setB f m).add ((m : Int) + 1) else setB f m) = _
    rw [hf (m + 1) (by omega) (Nat.le_refl _), ih]; rfl
theorem zvv (n : Int) (w : World) : Calls Tryz.prog 107 #[.int .i64 n] w fun e w' => e = .returned (stv (zcy n)) /\ Below w.heap.size w w' := by
 have HB0 : Hid (Below w.heap.size w ((w.alloc (.cells #[.int .u64 0, .int .u64 0] 54)).alloc (.cells #[.int .u64 0, .int .u64 0] 54))) := ((Below.refl _ _).alloc (Nat.le_refl _) _).alloc (by simp) _;go_enter Tryz.func107, Tryz.ntmps107;go_wp2
 go_loopw [4] (fun i wr => ∃ v : Int, 1 <= v /\ v <= 129 /\ (1 < v -> v <= n + 1) /\ i = .int .i64 v /\ Blk wr (w.heap.size + 1) (sts (setB (fun j : Nat => decide ((j : Int) <= n)) (v.toNat - 1))) 54 /\ Blk wr w.heap.size (sts St.zero) 54 /\ Below w.heap.size w wr) (fun i _ => 129 - (intOf i).toNat)
 case atStart => exact ⟨1, by omega, by omega, fun h => by omega, rfl, Blk.new' (w.alloc _) (by simp) (sts St.zero) 54, (Blk.new w _ _).alloc _, HB0.out⟩
 case round =>
  obtain ⟨v, hv1, hv2, hvn, rfl, hs, hz, hbel⟩ := hrel;obtain ⟨c0, c1, f0, f1⟩ := hs.sc;obtain ⟨d0, d1, g0, g1⟩ := hz.sc;have HS := lh hs;have HZ := lh hz;have HB := lh hbel;have HVN := lh hvn;have HOK := lh (zi7 (fun j : Nat => decide ((j : Int) <= n)) (v.toNat - 1));have hzz : w.heap.size + 1 < wr.heap.size := hs.lt;clear hs hz hbel hvn
  by_cases hn : 128 < n
  ·by_cases hgo : v <= 128 /\ v <= n
   ·obtain ⟨h1, h2⟩ := hgo
    have HSB : Hid (setB (fun j : Nat => decide ((j : Int) <= n)) v.toNat = (setB (fun j : Nat => decide ((j : Int) <= n)) (v.toNat - 1)).add v) := by
     have h := zi6 (fun j : Nat => decide ((j : Int) <= n)) hv1;rw [decide_eq_true (show ((v.toNat : Nat) : Int) <= n by omega), if_pos rfl] at h; exact h
    generalize setB (fun j : Nat => decide ((j : Int) <= n)) (v.toNat - 1) = s at *;have HWI := lh (fun V => zhm s v V HOK.out)
    obtain ⟨d, hd⟩ : ∃ d, d = s.add v := ⟨_, rfl⟩
    rw [<- hd] at HWI HSB;clear hd;go_wp2_with fail;refine (HWI.out _).mono ?_;rintro e w1 ⟨rfl, hb1⟩;have hs1 := HS.out.later hb1;obtain ⟨c0', c1', f0', f1'⟩ := hs1.sc;have HZ1 := lh (HZ.out.later hb1);have HB1 := lh (HB.out.trans (hb1.mono HB.out.size));have HS1 := lh hs1;have hz1 : w.heap.size + 1 < w1.heap.size := hs1.lt;clear hb1 c0 c1 f0 f1 d0 d1 g0 g1 hs1;go_wp2;go_roundw
    case rel => exact ⟨v + 1, by omega, by omega, fun _ => by omega, rfl, by rw [show (v + 1).toNat - 1 = v.toNat by omega, HSB.out]; exact HS1.out.putSet d, (HZ1.out.other _ _ (by simp)).other _ _ (by simp), (HB1.out.setCell (by simp) _).setCell (by simp) _⟩
    case measure => simp [intOf]; omega
   ·have hgo2 : ¬ v <= 128 \/ ¬ v <= n := by omega
    have HE : Hid (setB (fun j : Nat => decide ((j : Int) <= n)) (v.toNat - 1) = zcy n) := by
     show _ = _
     unfold zcy;refine (zi5 128 (by omega) fun j h1 h2 => ?_).symm;rw [decide_eq_false_iff_not];have := HVN.out;omega
    generalize setB (fun j : Nat => decide ((j : Int) <= n)) (v.toNat - 1) = s at *;go_wp2;exact bodyPost_ret (v := stv s) (by simp [results, Tryz.results107, go_sem, d0, d1]) rfl ⟨by rw [HE.out], (HB.out.setCell (Nat.le_refl _) _).setCell (Nat.le_refl _) _⟩
  ·have hn2 : n <= 128 := by omega
   by_cases hgo : v <= 128 /\ v <= n
   ·obtain ⟨h1, h2⟩ := hgo
    have HSB : Hid (setB (fun j : Nat => decide ((j : Int) <= n)) v.toNat = (setB (fun j : Nat => decide ((j : Int) <= n)) (v.toNat - 1)).add v) := by
     have h := zi6 (fun j : Nat => decide ((j : Int) <= n)) hv1;rw [decide_eq_true (show ((v.toNat : Nat) : Int) <= n by omega), if_pos rfl] at h; exact h
    generalize setB (fun j : Nat => decide ((j : Int) <= n)) (v.toNat - 1) = s at *;have HWI := lh (fun V => zhm s v V HOK.out)
    obtain ⟨d, hd⟩ : ∃ d, d = s.add v := ⟨_, rfl⟩
    rw [<- hd] at HWI HSB;clear hd;go_wp2_with fail;refine (HWI.out _).mono ?_;rintro e w1 ⟨rfl, hb1⟩;have hs1 := HS.out.later hb1;obtain ⟨c0', c1', f0', f1'⟩ := hs1.sc;have HZ1 := lh (HZ.out.later hb1);have HB1 := lh (HB.out.trans (hb1.mono HB.out.size));have HS1 := lh hs1;have hz1 : w.heap.size + 1 < w1.heap.size := hs1.lt;clear hb1 c0 c1 f0 f1 d0 d1 g0 g1 hs1;go_wp2;go_roundw
    case rel => exact ⟨v + 1, by omega, by omega, fun _ => by omega, rfl, by rw [show (v + 1).toNat - 1 = v.toNat by omega, HSB.out]; exact HS1.out.putSet d, (HZ1.out.other _ _ (by simp)).other _ _ (by simp), (HB1.out.setCell (by simp) _).setCell (by simp) _⟩
    case measure => simp [intOf]; omega
   ·have hgo2 : ¬ v <= 128 \/ ¬ v <= n := by omega
    have HE : Hid (setB (fun j : Nat => decide ((j : Int) <= n)) (v.toNat - 1) = zcy n) := by
     show _ = _
     unfold zcy;refine (zi5 128 (by omega) fun j h1 h2 => ?_).symm;rw [decide_eq_false_iff_not];have := HVN.out;omega
    generalize setB (fun j : Nat => decide ((j : Int) <= n)) (v.toNat - 1) = s at *;go_wp2;exact bodyPost_ret (v := stv s) (by simp [results, Tryz.results107, go_sem, d0, d1]) rfl ⟨by rw [HE.out], (HB.out.setCell (Nat.le_refl _) _).setCell (Nat.le_refl _) _⟩
end Go.Proofs.YtkaojolofaanfaaGreatDoor
namespace Cen
theorem nd_get {L : List Nd} {i : Int} (h0 : 0 <= i) (h1 : i < L.length) : nd L i = L[i.toNat]'(by omega) := by
 unfold nd; simp [List.getD_eq_getElem?_getD, show i.toNat < L.length by omega]
theorem zro {L r : List Nd} {i : Int} (h0 : 0 <= i) (h1 : i < L.length) : nd (L ++ r) i = nd L i := by
 unfold nd; simp only [List.getD_eq_getElem?_getD]; rw [List.getElem?_append_left (by omega)]
theorem nd_ok {L : List Nd} {n : Int} (hL : zno L n L.length) {i : Int} (h0 : 0 <= i) (h1 : i < L.length) : ndOk (nd L i) n i = true := by
 have := hL i.toNat (by omega);rw [show ((i.toNat : Nat) : Int) = i by omega] at this; exact this
theorem zty {x : Nd} {n b : Int} (h : ndOk x n b = true) : ∀ i ∈ x.ins, 0 <= i /\ i < b := by
 simp only [ndOk, Bool.and_eq_true] at h; exact zdo.1 h.1
theorem T_nd (s : Int -> Bool) {L : List Nd} {n : Int} (hL : zno L n L.length) {i : Int} (h0 : 0 <= i) (h1 : i < L.length) : T s L i = evNd s (T s L) (nd L i) := by
 have e : ((i.toNat : Nat) : Int) = i := by omega
 have h := hL i.toNat (by omega);simp only [ndOk, Bool.and_eq_true] at h;have := T_eq s L i.toNat (by omega) h.1;rw [e] at this; exact this
end Cen
