/- Part of the proofs that laws of censuslaw24 return true for every input, where the tables that the rows list are laid. Texts: AppAny, Er. -/
import Derived.Test.YtfmmhjphopikgaaGreatDoorYC5
import Derived.Maps.AppendAt
import Derived.Deep.RegionHeld3
import Derived.Test.YtfmmhjphopikgaaGreatDoorYC1
import Derived.Test.YtfmmhjphopikgaaGreatDoorYC38
import Derived.BigRegion
import Derived.BigQuiet
set_option maxHeartbeats 8000000
set_option maxRecDepth 100000
set_option linter.unusedSimpArgs false
set_option linter.unusedVariables false
namespace Go.Proofs.YtfmmhjphopikgaaGreatDoor
open Go.RowKit Cen
theorem zgq (w : World) (base : Nat) (ty : TypeId) (v : Value) (ys : List Int) (hown : OwnInts w base v ys) (c : Nat) : (Builtin.append_ #[25, 25] ty #[v, .slice none 0 c]).run Tryz.prog w = .ok v w := by
 obtain ⟨ht, i, hi, hz, hsz, hby, hzs, h0⟩ := ze8
 rcases hown.2 with ⟨rfl, hn⟩ | ⟨g, cap, cur, rfl, _, _, hnc, _⟩
 ·simp [Builtin.append_, run_underlying ht, sizeOf, typeInfo, hi, Builtin.lenOf, Builtin.firstCells]
 simp [Builtin.append_, run_underlying ht, sizeOf, typeInfo, hi, Builtin.lenOf, Builtin.firstCells, hnc, storeCells]
theorem zpc {w : World} {b : Option Addr} {xs : List Int} (h : IntCells w b xs) (hb : b = none) : xs = [] := by
 subst hb
 cases xs with
 | nil => rfl
 | cons x xs => obtain ⟨_, _, e, _⟩ := h 0 (by simp); simp at e
theorem zi3 (w : World) (base : Nat) (ty : TypeId) (v : Value) (ys : List Int) (hown : OwnInts w base v ys) (b : Option Addr) (c : Nat) (xs : List Int) (hx : IntCells w b xs)
 (h1 : ys.length <= 1073741824) (h2 : xs.length <= 1073741824) (hbase : base <= w.heap.size) :
 ∃ v' w', (Builtin.append_ #[25, 25] ty #[v, .slice b xs.length c]).run Tryz.prog w = .ok v' w' /\ OwnInts w' base v' (ys ++ xs) /\ w.grownBy w' v.ownBlock := by
 obtain ⟨ht, i, hi, hz, hsz, hby, hzs, h0⟩ := ze8
 cases b with
 | none =>
   have hn := zpc hx rfl;subst hn;exact ⟨v, w, zgq w base ty v ys hown c, by simpa using hown, World.grownBy.refl w _⟩
 | some ad =>
   obtain ⟨v', w', hrun, r1, r2, _⟩ := run_append_own (P := Tryz.prog) w base 25 ty 3 i _ 1 8 ht hi hz hsz hby hzs h0 v ys.length (ys.map (Value.int .i64)) hown ad xs.length c (xs.map (Value.int .i64)) (by simp) (ze2 hx) (znq xs)
    (by unfold maxLen; omega) (by omega) hbase
   exact ⟨v', w', hrun, by unfold OwnInts; rw [List.length_append, List.map_append]; exact r1, r2⟩
theorem zjs {o : Oper} {a : Act} {w : World} {K : Act -> World -> Prop} {Q : Exit -> Act -> World -> Prop} (s x : Operand)
 (ho : o.op = .call { callee := .builtin .append, args := #[s, x], argTypes := #[25, 25] })
 (base : Nat) (v : Value) (ys : List Int) (hs : a.eval s = v) (hown : OwnInts w base v ys) (b : Option Addr) (c : Nat) (xs : List Int) (hx : a.eval x = .slice b xs.length c) (hxc : IntCells w b xs)
 (h1 : ys.length <= 1073741824) (h2 : xs.length <= 1073741824) (hbase : base <= w.heap.size)
 (h : ∀ v' w', OwnInts w' base v' (ys ++ xs) -> w.grownBy w' v.ownBlock -> K (a.put o.dst v') w') : o.wp Tryz.prog a w K Q := by
 obtain ⟨v', w', hrun, r1, r2⟩ := zi3 w base o.type v ys hown b c xs hxc h1 h2 hbase;unfold Oper.wp execOp;simp only [ho, resolve, invoke, builtin, Sem.run_bind, Sem.run_pure, Result.andThen_ok, List.map_toArray, List.map_cons, List.map_nil, hs, hx, hrun];exact h v' w' r1 r2
theorem zb9 {ops : Array Oper} {rest : List Oper} {o : Oper} {a : Act} {w : World} {Q : Exit -> Act -> World -> Prop} (hgd : o.guard = none) (s x : Operand)
 (ho : o.op = .call { callee := .builtin .append, args := #[s, x], argTypes := #[25, 25] })
 (base : Nat) (v : Value) (ys : List Int) (hs : a.eval s = v) (hown : OwnInts w base v ys) (b : Option Addr) (c : Nat) (xs : List Int) (hx : a.eval x = .slice b xs.length c) (hxc : IntCells w b xs)
 (h1 : ys.length <= 1073741824) (h2 : xs.length <= 1073741824) (hbase : base <= w.heap.size)
 (h : ∀ v' w', OwnInts w' base v' (ys ++ xs) -> w.grownBy w' v.ownBlock -> wpList Tryz.prog ops Q rest (a.put o.dst v') w') : wpList Tryz.prog ops Q (o :: rest) a w :=
 wpList_plain hgd fun _ hK => zjs s x ho base v ys hs hown b c xs hx hxc h1 h2 hbase fun v' w' r1 r2 => hK _ _ (h v' w' r1 r2)
theorem zh9 {n : Nat} {f : Nat -> Bool} (h : ∀ j, j < n -> f j = false) : (List.range n).find? f = none := by
 rw [List.find?_eq_none]; intro j hj; rw [h j (List.mem_range.1 hj)]; simp
theorem zia {n k : Nat} {f : Nat -> Bool} (h : ∀ j, j < k -> f j = false) (hk : k < n) (hf : f k = true) : (List.range n).find? f = some k := by
 rw [List.find?_eq_some_iff_getElem];refine ⟨hf, k, by simpa using hk, by simp, fun j hj => ?_⟩
 simp [h j hj]
structure PfB (p : Prf) : Prop where
 ok : PfOk p
 il : ∀ x ∈ p.N, x.ins.length <= 8192
theorem PfB.ins {p : Prf} (h : PfB p) {j : Nat} (hj : j < p.N.length) : (p.N.getD j default).ins.length <= 8192 /\ ∀ i ∈ (p.N.getD j default).ins, 0 <= i /\ i < p.N.length := by
 have hm : p.N.getD j default ∈ p.N := by rw [List.getD_eq_getElem?_getD, List.getElem?_eq_getElem hj]; exact List.getElem_mem hj
 refine ⟨h.il _ hm, fun i hi => ?_⟩;have h1 := ((zeg _).1 h.ok.N).2 j hj;unfold ndOk at h1;rw [Bool.and_eq_true] at h1;have := (zdo.1 h1.1) i hi;omega
theorem zkj (p : Prf) (hp : PfB p) (ta : Option Addr) (tc : Nat) (na : Option Addr) (nc : Nat) (ca : Option Addr) (cc : Nat) (n' : Int) (ra : Option Addr) (rc : Nat) (r : List Cl) (i l : Int) (w : World)
 (hn' : n' = p.n) (hr : tOk p.n r) (hi0 : 0 <= i) (hi1 : i < p.N.length) (hl : litN p.n l) (h : PfAt p w ta na ca) (hrx : LsCells w ra r) :
 Calls Tryz.prog 92 #[.agg #[.int .i64 p.n, .slice ta p.t.length tc, .int .i64 p.n, .slice na p.N.length nc, .slice ca p.C.length cc], .agg #[.int .i64 n', .slice ra r.length rc], .int .i64 i, .int .i64 l] w
  fun e w' => e = .returned (.bool (p.side r i l)) /\ Below w.heap.size w w' := by
 subst hn'
 obtain ⟨j, rfl⟩ : ∃ j : Nat, i = (j : Int) := ⟨i.toNat, by omega⟩
 have hjl : j < p.N.length := by omega
 have hfd : ∀ (x : Int) (v : Value) (w : World), (Instr.field 24 (.agg #[.int .i64 x, v]) 1).run Tryz.prog w = .ok v w := fun _ _ _ => by kernel_rfl
 obtain ⟨w0, hw0⟩ : ∃ w0, w0 = (w.alloc (.cells #[.int .i64 p.n, .slice ta p.t.length tc, .int .i64 p.n, .slice na p.N.length nc, .slice ca p.C.length cc] 87)).alloc (.cells #[.int .i64 p.n, .slice ra r.length rc] 24) := ⟨_, rfl⟩
 have hb0 : Below w.heap.size w w0 := by rw [hw0]; exact ((Below.refl _ _).alloc (Nat.le_refl _) _).alloc (by simp) _
 have hs0 : w0.heap.size = w.heap.size + 1 + 1 := by rw [hw0]; simp
 have q0 : Blk w0 w.heap.size #[.int .i64 p.n, .slice ta p.t.length tc, .int .i64 p.n, .slice na p.N.length nc, .slice ca p.C.length cc] 87 := by rw [hw0]; exact (Blk.new w _ _).alloc _
 have q1 : Blk w0 (w.heap.size + 1) #[.int .i64 p.n, .slice ra r.length rc] 24 := by rw [hw0]; exact Blk.new' _ (by simp) _ _
 obtain ⟨nb, noff, hne, d0, d1, xa, xc, d2, hxi, hxl⟩ := h.n j hjl;have hcap := h.cp j hjl _ _ _ _ _ hne d2;obtain ⟨hil, hib⟩ := hp.ins hjl;have hnd : nd p.N (j : Int) = p.N.getD j default := rfl
 have HSD : Hid (p.side r j l = if (nd p.N j).kind = 2 then decide ((nd p.N j).lit = l) && decide (zab p.n (givT [l] r) = [])
  else if (nd p.N j).kind = 3 then match p.pos (nd p.N j).ins l with
   | some k => p.fit (zab p.n (givT [l] r)) ((nd p.N j).ins.take k ++ (nd p.N j).ins.drop (k + 1))
   | none => false
  else false) := rfl
 rw [hnd] at HSD;generalize p.side r j l = R at *;generalize p.N.getD j default = x at *;have znb : nb < w.heap.size := zak d0
 obtain ⟨w1, hw1⟩ : ∃ w1, w1 = w0.alloc (.cells #[.int .i64 x.kind, .int .i64 x.lit, .slice xa x.ins.length xc] 48) := ⟨_, rfl⟩
 have hb1 : Below w0.heap.size w0 w1 := by rw [hw1]; exact (Below.refl _ _).alloc (Nat.le_refl _) _
 have hb01 : Below w.heap.size w w1 := hb0.trans (hb1.mono hb0.size);have p0 := q0.later hb1;have p1 := q1.later hb1
 have p2 : Blk w1 (w.heap.size + 1 + 1) #[.int .i64 x.kind, .int .i64 x.lit, .slice xa x.ins.length xc] 48 := by rw [hw1]; exact Blk.new' _ hs0 _ _
 have HP := lh hp;have hpn := hp.ok.n;have HAT := lh h;have HRX := lh hrx;have HB1 := lh hb01;have HIB := lh hib;have HXI := lh hxi;have P0 := lh p0;have P1 := lh p1;have P2 := lh p2;have HR := lh hr;have HL := lh hl
 have hji : (j : Int) < (p.N.length : Int) := by omega
 have hnl : p.N.length <= 65536 := hp.ok.len.2;have x0 := p2.cell 0;have x1 := p2.cell 1;have x2 := p2.cell 2;have xz := p2.lt;have y0 := p1.cell 0;have y1 := p1.cell 1;have yz := p1.lt;have u3 := p0.cell 3;have uz := p0.lt;subst hne;clear h hrx hb0 hb1 hb01 hib hxi p0 p1 p2 q0 q1 hr hl hp hxl hnd
 by_cases hk2 : x.kind = 2
 ·have hkd : (x.kind == 2) = true := by simpa using hk2
  have HR1 : Hid (R = (decide (x.lit = l) && decide (zab p.n (givT [l] r) = []))) := by show _ = _; rw [HSD.o, if_pos hk2]
  by_cases hl2 : x.lit = l
  ·have hld : (x.lit == l) = true := by simpa using hl2
   have HR2 : Hid (R = decide (zab p.n (givT [l] r) = [])) := by show _ = _; rw [HR1.o, decide_eq_true hl2]; rfl
   have HGI := lh (zfa p.n hpn ra rc r l w1 HR.o HL.o (HRX.o.keep HB1.o));clear hk2 hl2;go_enter Tryz.func92, Tryz.ntmps92;go_wp2_with fail;rw [<- hw0];rw [<- hw1];refine HGI.o.mono ?_;rintro e w5 ⟨ga, gc, rfl, hgl, hb5⟩;have HB5 := lh (HB1.o.trans (hb5.mono HB1.o.size))
   have hfd1 : ∀ W : World, (Instr.field 24 (.agg #[.int .i64 p.n, .slice ga (zab p.n (givT [l] r)).length gc]) 1).run Tryz.prog W = .ok (.slice ga (zab p.n (givT [l] r)).length gc) W := fun W => hfd _ _ W
   have HD : Hid (decide (zab p.n (givT [l] r) = []) = (((zab p.n (givT [l] r)).length : Int) == 0)) := by show _ = _; rw [Bool.eq_iff_iff]; simp
   rw [HD.o] at HR2;clear hgl hb5 HD hfd;generalize zab p.n (givT [l] r) = Q at *;go_wp2;go_ret;exact ⟨by rw [HR2.o]; rfl, HB5.o⟩
  have hld : (x.lit == l) = false := by simpa using hl2
  have HR2 : Hid (R = false) := by show _ = _; rw [HR1.o, decide_eq_false hl2]; rfl
  clear hk2 hl2 hfd;go_enter Tryz.func92, Tryz.ntmps92;go_wp2_with fail;rw [<- hw0];rw [<- hw1];go_ret;exact ⟨by rw [HR2.o]; rfl, HB1.o⟩
 have hkd : (x.kind == 2) = false := by simpa using hk2
 clear hfd
 have HKS : Hid (∀ w' : World, Below w1.heap.size w1 w' -> w'.cell? ⟨w.heap.size, 0, none⟩ = some (.int .i64 p.n) /\ w'.cell? ⟨w.heap.size, 1, none⟩ = some (.slice ta p.t.length tc) /\ w'.cell? ⟨w.heap.size, 2, none⟩ = some (.int .i64 p.n) /\ w'.cell? ⟨w.heap.size, 3, none⟩ = some (.slice (some ⟨nb, noff, none⟩) p.N.length nc) /\ w'.cell? ⟨w.heap.size, 4, none⟩ = some (.slice ca p.C.length cc) /\ w'.cell? ⟨w.heap.size + 1, 0, none⟩ = some (.int .i64 p.n) /\ w'.cell? ⟨w.heap.size + 1, 1, none⟩ = some (.slice ra r.length rc)) := fun w' h => ⟨(P0.o.later h).cell 0, (P0.o.later h).cell 1, (P0.o.later h).cell 2, (P0.o.later h).cell 3, (P0.o.later h).cell 4, (P1.o.later h).cell 0, (P1.o.later h).cell 1⟩
 have HGI : Hid (∀ W, Below w1.heap.size w1 W -> Calls Tryz.prog 122 #[.agg #[.int .i64 p.n, .slice ra r.length rc], .int .i64 l] W (zuz p.n (zab p.n (givT [l] r)) W)) := fun W hW => zfa p.n hpn ra rc r l W HR.o HL.o ((HRX.o.keep HB1.o).keep hW)
 have HGK : Hid (tOk p.n (zab p.n (givT [l] r))) := tOk.norm hpn (zig HR.o);have hk2' := lh hk2;clear hk2;go_enter Tryz.func92, Tryz.ntmps92;go_wp2_with fail;rw [<- hw0];rw [<- hw1]
 go_loopw [10] (fun i wr => ∃ k : Nat, k <= x.ins.length /\ i = .int .i64 k /\ (∀ q, q < k -> (decide ((nd p.N (x.ins.getD q 0)).kind = 2) && decide ((nd p.N (x.ins.getD q 0)).lit = l)) = false) /\ Below w1.heap.size w1 wr) (fun i _ => x.ins.length - (intOf i).toNat)
 case atStart => exact ⟨0, Nat.zero_le _, rfl, fun j h => absurd h (Nat.not_lt_zero _), Below.refl _ _⟩
 obtain ⟨k, hk, rfl, hno, hb⟩ := hrel;have HN := lh hno;have HBR := lh hb;have HBW := lh (HB1.o.trans (hb.mono HB1.o.size));have p2 := P2.o.later hb;have p0 := P0.o.later hb;have r0 := p2.cell 0;have r1 := p2.cell 1;have r2 := p2.cell 2;have rz := p2.lt;have s3 := p0.cell 3;have sz := p0.lt;have HXR := lh ((HXI.o.keep HB1.o).keep hb);have HNR := lh ((HAT.o.n.keep HB1.o).keep hb);clear hno hb p2 p0 x0 x1 x2 xz y0 y1 yz u3 uz
 by_cases hk3 : x.kind = 3
 ·have hk3d : (x.kind == 3) = true := by simpa using hk3
  have HR3 : Hid (R = match p.pos x.ins l with | some k => p.fit (zab p.n (givT [l] r)) (x.ins.take k ++ x.ins.drop (k + 1)) | none => false) := by show _ = _; rw [HSD.o, if_neg hk2'.out, if_pos hk3]
  clear hk3
  by_cases hlt : k < x.ins.length
  ·have hij := HIB.o _ (zbd hlt);obtain ⟨b2, off2, hae, e0⟩ := HXR.o k hlt
   have hki : (k : Int) < (x.ins.length : Int) := by omega
   have HNX : Hid ((decide ((nd p.N (x.ins.getD k 0)).kind = 2) && decide ((nd p.N (x.ins.getD k 0)).lit = l)) = false -> ∀ q, q < k + 1 -> (decide ((nd p.N (x.ins.getD q 0)).kind = 2) && decide ((nd p.N (x.ins.getD q 0)).lit = l)) = false) := fun he q hq => by
    by_cases e : q = k
    ·subst e; exact he
    exact HN.o q (by omega)
   have HPS : Hid ((decide ((nd p.N (x.ins.getD k 0)).kind = 2) && decide ((nd p.N (x.ins.getD k 0)).lit = l)) = true -> p.pos x.ins l = some k) := fun he => zia HN.o hlt he
   generalize x.ins.getD k 0 = v at *
   obtain ⟨m, rfl⟩ : ∃ m : Nat, v = (m : Int) := ⟨v.toNat, by omega⟩
   have hml : m < p.N.length := by omega
   obtain ⟨nb2, noff2, hne2, d0', d1', ya, yc, d2', hyi, hyl⟩ := HNR.o m hml;simp only [Option.some.injEq, Addr.mk.injEq, and_true] at hne2;obtain ⟨rfl, rfl⟩ := hne2;have hnd2 : nd p.N (m : Int) = p.N.getD m default := rfl;rw [hnd2] at HNX HPS;generalize p.N.getD m default = y at *
   have hmi : (m : Int) < (p.N.length : Int) := by omega
   have zb2 : b2 < wr.heap.size := zak e0;have znb2 : nb < wr.heap.size := zak d0';have HAE := lh hae;subst hae;clear hij hyi hyl hnd2;go_wp2_with fail;go_region
   obtain ⟨V, hV⟩ : ∃ V, V = (wr.alloc (.cells #[.int .i64 y.kind, .int .i64 y.lit, .slice ya y.ins.length yc] 48)).drew := ⟨_, rfl⟩
   obtain ⟨bx, hbx⟩ : ∃ bx, bx = wr.heap.size := ⟨_, rfl⟩
   have hbv : Below wr.heap.size wr V := by rw [hV]; exact ((Below.refl _ _).alloc (Nat.le_refl _) _).drew
   have hxv : Blk V bx #[.int .i64 y.kind, .int .i64 y.lit, .slice ya y.ins.length yc] 48 := by rw [hV, hbx]; exact Blk.new _ _ _
   rw [<- hV, <- hbx];have HBV := lh (HBR.o.trans (hbv.mono HBR.o.size));have HBVW := lh (HB1.o.trans ((HBR.o.trans (hbv.mono HBR.o.size)).mono HB1.o.size));have g0 := hxv.cell 0;have g1 := hxv.cell 1;have gz := hxv.lt;have t2 := zaa hbv r2;have tz : w.heap.size + 1 + 1 < V.heap.size := Nat.lt_of_lt_of_le rz hbv.size;have HXV := lh (HXR.o.keep hbv);clear hV hbx hbv hxv r0 r1 r2 rz s3 sz e0 d0' d1' d2' zb2 znb2
   by_cases hh : y.kind = 2 /\ y.lit = l
   ·have hp1 := HPS.o (by rw [decide_eq_true hh.1, decide_eq_true hh.2]; rfl)
    have HR4 : Hid (R = p.fit (zab p.n (givT [l] r)) (x.ins.take k ++ x.ins.drop (k + 1))) := by show _ = _; rw [HR3.o, hp1]
    have e1 : (y.kind == 2) = true := by simpa using hh.1
    have e2 : (y.lit == l) = true := by simpa using hh.2
    clear hh hp1
    have hkl : (x.ins.take k).length = k := by rw [List.length_take]; omega
    have hkr : (x.ins.drop (k + 1)).length = x.ins.length - (k + 1) := List.length_drop
    have HT1 : Hid (IntCells V (some ⟨b2, off2, none⟩) (x.ins.take k)) := fun q hq => by
     obtain ⟨b9, o9, e9, h9⟩ := HXV.o q (by omega);exact ⟨b9, o9, e9, by rw [show (x.ins.take k).getD q 0 = x.ins.getD q 0 by simp [List.getD_eq_getElem?_getD, List.getElem?_take, show q < k by omega]]; exact h9⟩
    have HT2 : Hid (IntCells V (some ⟨b2, off2 + (k + 1), none⟩) (x.ins.drop (k + 1))) := fun q hq => by
     obtain ⟨b9, o9, e9, h9⟩ := HXV.o (k + 1 + q) (by omega);simp only [Option.some.injEq, Addr.mk.injEq, and_true] at e9;obtain ⟨rfl, rfl⟩ := e9;exact ⟨b2, off2 + (k + 1), rfl, by rw [show (x.ins.drop (k + 1)).getD q 0 = x.ins.getD (k + 1 + q) 0 by simp [List.getD_eq_getElem?_getD], show off2 + (k + 1) + q = off2 + (k + 1 + q) by omega]; exact h9⟩
    have HKL := lh hkl;have HKR := lh hkr;clear hkl hkr;go_wp2_with (at_builtin; refine zb9 rfl (.tmp 65) (.tmp 69) rfl V.heap.size (.slice none 0 0) [] rfl (OwnInts.nil _ _) (some ⟨b2, off2, none⟩) xc (x.ins.take k) (by rw [HKL.o]; rfl) HT1.o (by simp) (by have := HKL.o; omega) (Nat.le_refl _) ?_);intro v1 w3 hown3 hg3
    have HO3 : Hid (OwnInts w3 V.heap.size v1 (x.ins.take k)) := by show OwnInts _ _ _ _; simpa using hown3
    have hb3 : Below V.heap.size V w3 := Kp.toBelow (M := fun _ => False) (Kp.grown hg3 fun k h => by cases h) (Nat.le_refl _) fun k _ h => h
    have HB3 := lh hb3;have t3 := zaa hb3 t2;have tz3 : w.heap.size + 1 + 1 < w3.heap.size := Nat.lt_of_lt_of_le tz hb3.size;have HT3 := lh (HT2.o.keep hb3);have HZ3 : Hid (V.heap.size <= w3.heap.size) := hb3.size
    have hk1 : (k : Int) + 1 <= (x.ins.length : Int) := by omega
    clear hown3 hg3 hb3 t2 tz g0 g1 gz
    by_cases hxc : xc = k + 1
    case' pos =>
     have HE0 : Hid (x.ins.drop (k + 1) = []) := List.drop_eq_nil_of_le (by omega)
     have hxl : x.ins.length = k + 1 := by omega
     subst hxc;go_wp2_with (at_builtin; refine zb9 rfl (.tmp 71) (.tmp 76) rfl V.heap.size v1 (x.ins.take k) rfl HO3.o (some ⟨b2, off2, none⟩) 0 (x.ins.drop (k + 1)) (by rw [HE0.o]; first | rfl | simp) (by rw [HE0.o]; exact IntCells.nil _ _) (by have := HKL.o; omega) (by rw [HE0.o]; simp) HZ3.o ?_)
    case' neg =>
     have hxc2 : k + 1 < xc := by omega
     go_wp2_with (at_builtin; refine zb9 rfl (.tmp 71) (.tmp 76) rfl V.heap.size v1 (x.ins.take k) rfl HO3.o (some ⟨b2, off2 + (k + 1), none⟩) (xc - (k + 1)) (x.ins.drop (k + 1)) (by rw [HKR.o]; first | rfl | simp) HT3.o (by have := HKL.o; omega) (by have := HKR.o; omega) HZ3.o ?_)
    all_goals
     intro v2 w4 hown4 hg4;have hb4 : Below V.heap.size V w4 := HB3.o.grown hg4 HZ3.o (fun q hq => (HO3.o.lt q hq).1);obtain ⟨av, cv, hv2, hic4, _⟩ := hown4.cells;subst hv2;have HWZ : Hid (Below w1.heap.size w1 w4) := HBV.o.trans (hb4.mono HBV.o.size);have HRST := lh hic4
     have HFI : Hid (∀ W ga gc, Below w1.heap.size w1 W -> LsCells W ga (zab p.n (givT [l] r)) -> IntCells W av (x.ins.take k ++ x.ins.drop (k + 1)) -> Calls Tryz.prog 89 #[.agg #[.int .i64 p.n, .slice ta p.t.length tc, .int .i64 p.n, .slice (some ⟨nb, noff, none⟩) p.N.length nc, .slice ca p.C.length cc], .agg #[.int .i64 p.n, .slice ga (zab p.n (givT [l] r)).length gc], .slice av (x.ins.take k ++ x.ins.drop (k + 1)).length cv] W fun e w' => e = .returned (.bool (p.fit (zab p.n (givT [l] r)) (x.ins.take k ++ x.ins.drop (k + 1)))) /\ Below W.heap.size W w') := fun W ga gc hW hg hi =>
      zl9 p HP.o.ok ta tc (some ⟨nb, noff, none⟩) nc ca cc p.n ga gc _ av cv _ W rfl HGK.o (by rw [List.length_append]; have := HKL.o; have := HKR.o; omega) (fun i hi => by
       rcases List.mem_append.1 hi with hi | hi
       ·exact HIB.o i (List.mem_of_mem_take hi)
       exact HIB.o i (List.mem_of_mem_drop hi)) ((HAT.o.keep HB1.o).keep hW) hg hi
     rw [<- HR4.o] at HFI;generalize x.ins.take k ++ x.ins.drop (k + 1) = rest at *;clear hown4 hg4 hic4 hb4 t3 tz3;have sw := HKS.o _ HWZ.o;obtain ⟨sa, sb, sc, sd, se, sf, sg⟩ := sw;have zz0 : w.heap.size + 1 < w4.heap.size := (P1.o.later HWZ.o).lt;go_wp2_with fail;refine wp_region_held_drew (S := (fun w' => w'.cell? ⟨w.heap.size, 0, none⟩ = some (.int .i64 p.n) /\ w'.cell? ⟨w.heap.size, 1, none⟩ = some (.slice ta p.t.length tc) /\ w'.cell? ⟨w.heap.size, 2, none⟩ = some (.int .i64 p.n) /\ w'.cell? ⟨w.heap.size, 3, none⟩ = some (.slice (some ⟨nb, noff, none⟩) p.N.length nc) /\ w'.cell? ⟨w.heap.size, 4, none⟩ = some (.slice ca p.C.length cc) /\ w'.cell? ⟨w.heap.size + 1, 0, none⟩ = some (.int .i64 p.n) /\ w'.cell? ⟨w.heap.size + 1, 1, none⟩ = some (.slice ra r.length rc))) (by kernel_rfl) ?_ (fun hHeld => ?_)
     ·try dsimp only
      exact HKS.o _ (HWZ.o.trans (Below.refl _ _).drew)
     refine tkV 0 78 rfl rfl ?_; try simp only [tkS]
     refine tkV 1 79 rfl rfl ?_; try simp only [tkS]
     refine tkV 2 80 rfl rfl ?_; try simp only [tkS]
     refine tkV 4 82 rfl rfl ?_; try simp only [tkS]
     refine tkR 3 (.cons rfl (fun K hK => ?_) .nil);go_simp;go_at_call 122;refine (HGI.o _ (HWZ.o.trans (Below.refl _ _).drew)).mono ?_;rintro e w5 ⟨ga, gc, rfl, hgl, hb5⟩;have hw5 : Below w1.heap.size w1 w5 := HWZ.o.trans ((zay hb5).mono HWZ.o.size);have HRS5 := lh (HRST.o.keep (zay hb5));go_wp2_with fail;refine hK.out _ _ ?_ (fun hHeld => ?_)
     ·try dsimp only
      exact HKS.o _ hw5
     clear hK K
     try simp only [tkS]
     refine tkR 5 (.cons rfl (fun K hK => ?_) .nil);go_simp;go_at_call 89;refine (HFI.o _ ga gc hw5 hgl.ls HRS5.o).mono ?_;rintro e w6 ⟨rfl, hb6⟩;have hw6 : Below w1.heap.size w1 w6 := hw5.trans (hb6.mono hw5.size);go_wp2_with fail;refine hK.out _ _ ?_ (fun hHeld => ?_)
     ·try dsimp only
      exact HKS.o _ hw6
     clear hK K
     try simp only [tkS]
     refine tkV 6 8 rfl rfl ?_; try simp only [tkS]
     refine wpAnyH_done (by kernel_rfl) ?_ _;go_wp2;go_ret;exact ⟨rfl, HB1.o.trans (hw6.mono HB1.o.size)⟩
   have HNN := lh (HNX.o (by
    rw [Bool.and_eq_false_iff, decide_eq_false_iff_not, decide_eq_false_iff_not]
    by_cases e : y.kind = 2
    ·exact .inr fun e2 => hh ⟨e, e2⟩
    exact .inl e))
   by_cases hy2 : y.kind = 2
   ·have e1 : (y.kind == 2) = true := by simpa using hy2
    have e2 : (y.lit == l) = false := by simpa using fun e => hh ⟨hy2, e⟩
    clear hh hy2;go_wp2;go_roundw
    case rel => exact ⟨k + 1, by omega, by go_num, HNN.o, HBV.o⟩
    case measure => simp [intOf]; omega
   have e1 : (y.kind == 2) = false := by simpa using hy2
   clear hh hy2;go_wp2;go_roundw
   case rel => exact ⟨k + 1, by omega, by go_num, HNN.o, HBV.o⟩
   case measure => simp [intOf]; omega
  have hke : k = x.ins.length := by omega
  subst hke
  have HR4 : Hid (R = false) := by show _ = _; rw [HR3.o, show p.pos x.ins l = none from zh9 HN.o]
  go_wp2;go_ret;exact ⟨by rw [HR4.o]; rfl, HBW.o⟩
 have hk3d : (x.kind == 3) = false := by simpa using hk3
 have HR3 : Hid (R = false) := by show _ = _; rw [HSD.o, if_neg hk2'.out, if_neg hk3]
 clear hk3
 by_cases hlt : k < x.ins.length
 ·have hki : (k : Int) < (x.ins.length : Int) := by omega
  go_wp2;go_ret;exact ⟨by rw [HR3.o]; rfl, HBW.o⟩
 have hki : ¬ (k : Int) < (x.ins.length : Int) := by omega
 go_wp2;go_ret;exact ⟨by rw [HR3.o]; rfl, HBW.o⟩
end Go.Proofs.YtfmmhjphopikgaaGreatDoor
