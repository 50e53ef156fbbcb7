/- Part of the proofs that laws of censuslaw24 return true for every input, where the tables that the rows list are laid. Texts: Ek. -/
import Derived.Test.YtfmmhjphopikgaaGreatDoorYC33
import Derived.Test.YtfmmhjphopikgaaGreatDoorYC4
import Derived.Test.YtfmmhjphopikgaaGreatDoorYC1
set_option maxHeartbeats 8000000
set_option maxRecDepth 100000
set_option linter.unusedSimpArgs false
set_option linter.unusedVariables false
namespace Go.Proofs.YtfmmhjphopikgaaGreatDoor
open Go.RowKit Cen
def RSR (n : Nat) (t : List Cl) (a : Option Addr) (cap : Nat) (ta : Option Addr) (tc : Nat) (tm : Cl) (aa : Option Addr) (ac : Nat) (at' : List Int) (w : World) (sb : Nat) (wr : World) (i : Value) : Prop :=
 ∃ (k : Nat) (L : List Sl) (oa : Option Addr) (oc : Nat), k <= at'.length /\ i = .int .i64 (k : Int) /\ Below w.heap.size w wr /\ Blk wr w.heap.size #[.int .i64 n, .slice a t.length cap] 24 /\
  Blk wr (w.heap.size + 1) #[.slice ta tm.length tc, .slice aa at'.length ac] 44 /\ Blk wr (w.heap.size + 1 + 1) #[.int .i64 0, .slice none 0 0] 24 /\
  Blk wr sb #[.int .i64 n, .slice oa L.length oc] 24 /\ OwnS (fun k => k ≠ sb) wr (sb + 1) (.slice oa L.length oc) L /\ (L.map fun e => e.xs) = pick t (at'.take k)
theorem zr2 (t : List Cl) {at' : List Int} {k : Nat} (h : k < at'.length) : pick t (at'.take (k + 1)) = pick t (at'.take k) ++ [t.getD (at'.getD k 0).toNat []] := by
 unfold pick;rw [List.take_succ_eq_append_getElem h, List.map_append]
 simp [List.getD_eq_getElem?_getD, h]
theorem zr6 (n : Nat) (hn : n <= 128) (a : Option Addr) (cap : Nat) (t : List Cl) (ta : Option Addr) (tc : Nat) (tm : Cl) (aa : Option Addr) (ac : Nat) (at' : List Int) (w : World) (ht : tOk n t) (hl : tm.length <= 1073741824) (hl2 : at'.length <= 1073741824) (hx : LsCells w a t) (hy : IntCells w ta tm) (hz : IntCells w aa at') (hf : zbk n t.length ⟨tm, at'⟩ = false) :
 Calls Tryz.prog 14 #[.agg #[.int .i64 n, .slice a t.length cap], .agg #[.slice ta tm.length tc, .slice aa at'.length ac]] w fun e w' => e = .returned (.tuple #[.agg #[.int .i64 0, .slice none 0 0], .int .i64 1]) /\ Below w.heap.size w w' := by
 obtain ⟨w0, hw0⟩ : ∃ w0, w0 = ((w.alloc (.cells #[.int .i64 n, .slice a t.length cap] 24)).alloc (.cells #[.slice ta tm.length tc, .slice aa at'.length ac] 44)).alloc (.cells #[.int .i64 0, .slice none 0 0] 24) := ⟨_, rfl⟩
 have hb0 : Below w.heap.size w w0 := by rw [hw0]; exact (((Below.refl _ _).alloc (Nat.le_refl _) _).alloc (by simp) _).alloc (by simp; omega) _
 have q0 : Blk w0 w.heap.size #[.int .i64 n, .slice a t.length cap] 24 := by rw [hw0]; exact ((Blk.new w _ _).alloc _).alloc _
 have q1 : Blk w0 (w.heap.size + 1) #[.slice ta tm.length tc, .slice aa at'.length ac] 44 := by rw [hw0]; exact (Blk.new' _ (by simp) _ _).alloc _
 have q2 : Blk w0 (w.heap.size + 1 + 1) #[.int .i64 0, .slice none 0 0] 24 := by rw [hw0]; exact Blk.new' _ (by simp) _ _
 have htl := ht.len;have HC := lh (zby n a cap t w0 (by omega) (fun c hc => by have := (ht.cl c hc).1; omega) (hx.keep hb0));rw [(zbu hn).2 ht] at HC;have HB0 := lh hb0;have Q0 := lh q0;have Q1 := lh q1;have Q2 := lh q2
 have HFM : Hid (∀ W, Below w.heap.size w W -> Calls Tryz.prog 39 #[.agg #[.slice ta tm.length tc, .slice aa at'.length ac], .int .i64 n, .int .i64 t.length] W fun e w' => e = .returned (.bool false) /\ Below W.heap.size W w') := fun W hW => by
  have := zgz n t.length hn ta tc tm aa ac at' W (by omega) hl hl2 (hy.keep hW) (hz.keep hW)
  rwa [hf] at this
 clear hx hy hz hb0 q0 q1 q2 hf ht hn;go_enter Tryz.func14, Tryz.ntmps14;go_wp2_with fail;rw [<- hw0];refine HC.o.mono ?_;rintro e w1 ⟨rfl, hb1⟩;have R0 := lh (Q0.o.later hb1);have R1 := lh (Q1.o.later hb1);have R2 := lh (Q2.o.later hb1);have HB1 := lh (HB0.o.trans (hb1.mono HB0.o.size));have c0 := R0.o.cell 0;have c1 := R0.o.cell 1;have d0 := R1.o.cell 0;have d1 := R1.o.cell 1;have s2 : w.heap.size + 1 + 1 < w1.heap.size := R2.o.lt
 have s1 : w.heap.size + 1 < w1.heap.size := by omega
 have s0 : w.heap.size < w1.heap.size := by omega
 clear hb1 hw0;go_wp2_with fail;refine (HFM.o _ HB1.o).mono ?_;rintro e w2 ⟨rfl, hb2⟩;have S2 := lh (R2.o.later hb2);have HB2 := lh (HB1.o.trans (hb2.mono HB1.o.size));have a0 := S2.o.cell 0;have a1 := S2.o.cell 1;have f0 := S2.o.fr 0;have f1 := S2.o.fr 1;have t2 : w.heap.size + 1 + 1 < w2.heap.size := S2.o.lt;clear hb2 c0 c1 d0 d1 s0 s1 s2;go_wp2;exact bodyPost_ret (v := .tuple #[.agg #[.int .i64 0, .slice none 0 0], .int .i64 1]) (by simp [results, Tryz.results14, go_sem, a0, a1, t2]) rfl ⟨rfl, (HB2.o.setCell (show w.heap.size <= w.heap.size + 1 + 1 by omega) _).setCell (show w.heap.size <= w.heap.size + 1 + 1 by omega) _⟩
theorem zuh (n : Nat) (hn : n <= 128) (a : Option Addr) (cap : Nat) (t : List Cl) (ta : Option Addr) (tc : Nat) (tm : Cl) (aa : Option Addr) (ac : Nat) (at' : List Int) (w : World) (ht : tOk n t) (hl : tm.length <= 1073741824) (hl2 : at'.length <= 1073741824) (hx : LsCells w a t) (hy : IntCells w ta tm) (hz : IntCells w aa at') (hf : zbk n t.length ⟨tm, at'⟩ = true) :
 Calls Tryz.prog 14 #[.agg #[.int .i64 n, .slice a t.length cap], .agg #[.slice ta tm.length tc, .slice aa at'.length ac]] w (zqf n (zab n (givT tm (pick t at'))) w) := by
 obtain ⟨w0, hw0⟩ : ∃ w0, w0 = ((w.alloc (.cells #[.int .i64 n, .slice a t.length cap] 24)).alloc (.cells #[.slice ta tm.length tc, .slice aa at'.length ac] 44)).alloc (.cells #[.int .i64 0, .slice none 0 0] 24) := ⟨_, rfl⟩
 have hb0 : Below w.heap.size w w0 := by rw [hw0]; exact (((Below.refl _ _).alloc (Nat.le_refl _) _).alloc (by simp) _).alloc (by simp; omega) _
 have q0 : Blk w0 w.heap.size #[.int .i64 n, .slice a t.length cap] 24 := by rw [hw0]; exact ((Blk.new w _ _).alloc _).alloc _
 have q1 : Blk w0 (w.heap.size + 1) #[.slice ta tm.length tc, .slice aa at'.length ac] 44 := by rw [hw0]; exact (Blk.new' _ (by simp) _ _).alloc _
 have q2 : Blk w0 (w.heap.size + 1 + 1) #[.int .i64 0, .slice none 0 0] 24 := by rw [hw0]; exact Blk.new' _ (by simp) _ _
 have htl := ht.len;have HC := lh (zby n a cap t w0 (by omega) (fun c hc => by have := (ht.cl c hc).1; omega) (hx.keep hb0));rw [(zbu hn).2 ht] at HC;have HB0 := lh hb0;have Q0 := lh q0;have Q1 := lh q1;have Q2 := lh q2
 have HFM : Hid (∀ W, Below w.heap.size w W -> Calls Tryz.prog 39 #[.agg #[.slice ta tm.length tc, .slice aa at'.length ac], .int .i64 n, .int .i64 t.length] W fun e w' => e = .returned (.bool true) /\ Below W.heap.size W w') := fun W hW => by
  have := zgz n t.length hn ta tc tm aa ac at' W (by omega) hl hl2 (hy.keep hW) (hz.keep hW)
  rwa [hf] at this
 obtain ⟨f1, f2, f3⟩ := zie hn hf;have HTB := lh f1;have HIX : Hid (∀ i ∈ at', 0 <= i /\ i < t.length) := f3;have HAL : Hid (at'.length <= 4096) := Nat.le_trans (zj2 hf) htl;have HPK := lh (zr1 ht hf hn);have HX := lh (LsIn.old hx);have HY := lh hy;have HZ' := lh hz;have HN := lh hn;clear hx hy hz hb0 q0 q1 q2 hf ht hn f1 f2 f3;go_enter Tryz.func14, Tryz.ntmps14;go_wp2_with fail;rw [<- hw0];refine HC.o.mono ?_;rintro e w1 ⟨rfl, hb1⟩;have R0 := lh (Q0.o.later hb1);have R1 := lh (Q1.o.later hb1);have R2 := lh (Q2.o.later hb1);have HB1 := lh (HB0.o.trans (hb1.mono HB0.o.size));have c0 := R0.o.cell 0
 have c1 := R0.o.cell 1;have d0 := R1.o.cell 0;have d1 := R1.o.cell 1;have s2 : w.heap.size + 1 + 1 < w1.heap.size := R2.o.lt
 have s1 : w.heap.size + 1 < w1.heap.size := by omega
 have s0 : w.heap.size < w1.heap.size := by omega
 clear hb1 hw0;go_wp2_with fail;refine (HFM.o _ HB1.o).mono ?_;rintro e w2 ⟨rfl, hb2⟩;have S0 := lh (R0.o.later hb2);have S1 := lh (R1.o.later hb2);have S2 := lh (R2.o.later hb2);have HB2 := lh (HB1.o.trans (hb2.mono HB1.o.size));have a0 := S0.o.cell 0;have t2 : w.heap.size + 1 + 1 < w2.heap.size := S2.o.lt
 have t1 : w.heap.size + 1 < w2.heap.size := by omega
 have t0 : w.heap.size < w2.heap.size := by omega
 clear hb2 c0 c1 d0 d1 s0 s1 s2
 obtain ⟨sb, hsb⟩ : ∃ sb, sb = w2.heap.size := ⟨_, rfl⟩
 have HIN : Hid (RSR n t a cap ta tc tm aa ac at' w w2.heap.size (w2.alloc (.cells #[.int .i64 n, .slice none 0 0] 24)) (.int .i64 0)) :=
  ⟨0, [], none, 0, Nat.zero_le _, rfl, HB2.o.alloc (Nat.le_of_lt t0) _, S0.o.alloc _, S1.o.alloc _, S2.o.alloc _, Blk.new _ _ _, OwnS.nil _ _ _, rfl⟩
 rw [<- hsb] at HIN;have HSB := lh hsb;go_wp2_with fail;rw [<- hsb];clear hsb
 go_loopw [7] (fun i wr => RSR n t a cap ta tc tm aa ac at' w sb wr i) (fun i _ => at'.length - (intOf i).toNat)
 case atStart => exact HIN.o
 obtain ⟨k, L, oa, oc, hk, rfl, hb, p0, p1, p2, p3, hO, hLX⟩ := hrel;have HB := lh hb;have P0 := lh p0;have P1 := lh p1;have P2 := lh p2;have P3 := lh p3;have HO := lh hO;have HLX := lh hLX;have HXR := lh (HX.o.later hb);have HZR := lh (HZ'.out.keep hb);have k1 := p0.cell 1;have l1 := p1.cell 1;have m1 := p3.cell 1;have z0 := p0.lt;have z1 := p1.lt;have z3 := p3.lt;have HZ : Hid (w.heap.size <= wr.heap.size) := hb.size
 have HSW : Hid (w.heap.size + 1 + 1 < sb) := by rw [HSB.o]; exact t2
 clear hb hO hLX
 by_cases hlt : k < at'.length
 ·obtain ⟨b1, off1, hae, e0⟩ := HZR.o k hlt;have hix := HIX.o _ (zbd hlt);have HPS := lh (zr2 t hlt)
  have hki : (k : Int) < (at'.length : Int) := by omega
  have HLL : Hid (L.length <= 4096) := by
   show _ <= _
   have h1 := congrArg List.length HLX.o;rw [List.length_map] at h1;unfold pick at h1;rw [List.length_map, List.length_take] at h1;have := HAL.o;omega
  generalize at'.getD k 0 = x at e0 hix HPS
  obtain ⟨j, rfl⟩ : ∃ j : Nat, x = (j : Int) := ⟨x.toNat, by omega⟩
  have hjl : j < t.length := by omega
  obtain ⟨b2, off2, ai, ci, hae2, hc2, hi2⟩ := HXR.o.get hjl
  have HPS2 : Hid (pick t (at'.take (k + 1)) = pick t (at'.take k) ++ [t.getD j []]) := by show _ = _; rw [HPS.o]; rfl
  have hji : (j : Int) < (t.length : Int) := by omega
  generalize t.getD j [] = c at *;have HI2 := lh hi2;subst hae hae2;have HZA : Hid (at'.length <= 4096) := HAL.o;have hal := HAL.o;clear HPS hix hi2
  obtain ⟨e, hee⟩ : ∃ e : Sl, e = ⟨ai, ci, c⟩ := ⟨_, rfl⟩
  have HEE := lh hee
  have HNW : Hid (∀ j u, (sle e)[j]? = some u -> (wr.alloc (.cells #[.slice ai c.length ci] 25)).cell? ⟨wr.heap.size, j, none⟩ = some u) := fun j u h => by
   rw [World.cell?_alloc_at _ _ _ _ rfl]; rw [hee] at h; simpa [sle] using h
  have HLM : Hid (L.length <= 1073741824) := by have := HLL.o; show _ <= _; omega
  have HNB : Hid (¬ (Value.slice oa L.length oc).ownBlock = some sb) := fun e => by have := (World.ownsRow.lt HO.o.own _ e).1; omega
  have HZS : Hid (sb + 1 <= wr.heap.size) := z3;clear p0 p1 p2 p3 hee;go_wp2_with fail
  go_region_law (first | (refine zbn zd5 rfl _ _ rfl (sb + 1) (.slice oa L.length oc) L e rfl (HO.o.own.alloc _).drew wr.heap.size rfl rfl HNW.o (zcp _) HLM.o (by decide) (Nat.le_trans HZS.o (by simp [World.drew])) ?_; intro g3 cap3 w3 ho3 hg3 hl3; have hk3 := Kp.grown (M := fun k => (Value.slice oa L.length oc).ownBlock = some k) hg3 (fun k hk => hk); have hb3 : Blk w3 sb #[.int .i64 n, .slice oa L.length oc] 24 := Blk.kept (by exact P3.o.alloc _) hk3 HNB.o; have mm1 : w3.cell? ⟨sb, 1, none⟩ = some (.slice oa L.length oc) := hb3.cell 1; have mm2 := hb3.fr 1))
  all_goals
   have HG3 : Hid (wr.grownBy w3 (Value.slice oa L.length oc).ownBlock) := by first | exact zaz hg3 | exact za1 hg3
   have hl3' : (Value.slice oa L.length oc).ownBlock = some g3 \/ wr.heap.size <= g3 := hl3.imp id (fun h => by rw [h]; simp)
   have hlo : ∀ k, (Value.slice oa L.length oc).ownBlock = some k -> sb + 1 <= k := fun k e => (World.ownsRow.lt HO.o.own k e).1
   have hkg : Kp (fun k => (Value.slice oa L.length oc).ownBlock = some k) wr w3 := Kp.grown HG3.o fun k h => h
   have V0 := P0.o.kept hkg fun e => by have := hlo _ e; have := HSW.o; omega
   have V1 := P1.o.kept hkg fun e => by have := hlo _ e; have := HSW.o; omega
   have V2 := P2.o.kept hkg fun e => by have := hlo _ e; have := HSW.o; omega
   have hBB : Below w.heap.size w w3 := HB.o.grown HG3.o HZ.o (fun q hq => by have := hlo _ hq; have := HSW.o; omega)
   have hO3 : OwnS (fun k => k ≠ sb) w3 (sb + 1) (.slice (some ⟨g3, 0, none⟩) (L ++ [e]).length cap3) (L ++ [e]) := by
    refine HO.o.push ?_ ho3 HG3.o hl3';rw [HEE.o]
    exact HI2.o.mono fun k _ hk => ⟨by have := HSW.o; omega, fun e => by have := hlo _ e; have := HSW.o; omega⟩
   have hks : Kp (fun y => y = sb) w3 (w3.setCell ⟨sb, 1, none⟩ (.slice (some ⟨g3, 0, none⟩) (L.length + 1) cap3)) := Kp.setCell _ _ _ rfl
   have hg3' : sb + 1 <= g3 := by
    rcases hl3' with h | h
    ·exact hlo _ h
    have := HZS.o; omega
   have HF : Hid (RSR n t (some ⟨b2, off2, none⟩) cap ta tc tm (some ⟨b1, off1, none⟩) ac at' w sb (w3.setCell ⟨sb, 1, none⟩ (.slice (some ⟨g3, 0, none⟩) (L.length + 1) cap3)) (.int .i64 ((k : Int) + 1))) :=
    ⟨k + 1, L ++ [e], some ⟨g3, 0, none⟩, cap3, by omega, by go_num, hBB.setCell (by have := HSW.o; show w.heap.size <= sb; omega) _, V0.kept hks (by have := HSW.o; omega), V1.kept hks (by have := HSW.o; omega), V2.kept hks (by have := HSW.o; omega),
      by rw [List.length_append]; exact hb3.set 1 _, hO3.kept hks (fun k hk => hk) (fun k hk => by simp [Value.ownBlock] at hk; omega), by rw [HPS2.o, List.map_append, HLX.o, HEE.o]; rfl⟩
   clear ho3 hg3 hl3 hk3 hb3 mm1 mm2 hl3' hlo hkg V0 V1 V2 hBB hO3 hks hg3';go_wp2;go_roundw
   case rel => exact HF.o
   case measure => simp [intOf]; omega
 have hke : k = at'.length := by omega
 subst hke;rw [List.take_length] at HLX;have hOL := HO.o.ls (fun k hk => by omega);rw [HLX.o] at hOL
 have HLE : Hid ((pick t at').length = L.length) := by show _ = _; rw [<- HLX.o, List.length_map]
 have HGV : Hid (Calls Tryz.prog 40 #[.agg #[.int .i64 n, .slice oa L.length oc], .slice ta tm.length tc] wr (zqf n (givT tm (pick t at')) wr)) := by
  have := zmc n HN.o oa oc (pick t at') ta tc tm wr HPK.o HTB.o hl hOL.2.ls (HY.o.keep HB.o)
  rwa [HLE.o] at this
 have m0 := p3.cell 0;have l0 := p1.cell 0;clear p0 p1 p2 p3 hOL;go_wp2_with fail;refine HGV.o.mono ?_;rintro e w5 ⟨ga, gc, rfl, hgl, hb5⟩;have HNM := lh (zer n HN.o ga gc (givT tm (pick t at')) (w5.alloc (.cells #[.int .i64 n, .slice ga (givT tm (pick t at')).length gc] 24)) (zig HPK.o) (hgl.ls.keep ((Below.refl _ _).alloc (Nat.le_refl _) _)));have HB5 := lh (HB.o.trans (hb5.mono HZ.o));have U2 := lh (P2.o.later hb5);have HZ5 : Hid (w.heap.size + 1 + 1 < w5.heap.size) := U2.o.lt;clear hgl hb5;go_wp2_with fail;refine HNM.o.mono ?_;rintro e w6 ⟨na, nc, rfl, hnl, hb6⟩;have V2 := (U2.o.alloc (.cells #[.int .i64 n, .slice ga (givT tm (pick t at')).length gc] 24)).later hb6
 have HB6 : Hid (Below w.heap.size w w6) := by
  have h1 := HB5.o.alloc (by have := HZ5.o; omega) (.cells #[.int .i64 n, .slice ga (givT tm (pick t at')).length gc] 24);exact h1.trans (hb6.mono h1.size)
 have a0 := V2.cell 0;have a1 := V2.cell 1;have f0 := V2.fr 0;have f1 := V2.fr 1;have vz := V2.lt
 have HLF : Hid (LsIn (fun k => w.heap.size <= k) ((w6.setCell ⟨w.heap.size + 1 + 1, 0, none⟩ (.int .i64 n)).setCell ⟨w.heap.size + 1 + 1, 1, none⟩ (.slice na (zab n (givT tm (pick t at'))).length nc)) na (zab n (givT tm (pick t at')))) :=
  ((hnl.kept (M := fun y => y = w.heap.size + 1 + 1) (Kp.trans (M := fun y => y = w.heap.size + 1 + 1) (Kp.setCell w6 ⟨w.heap.size + 1 + 1, 0, none⟩ (.int .i64 n) rfl) (Kp.setCell _ ⟨w.heap.size + 1 + 1, 1, none⟩ (.slice na (zab n (givT tm (pick t at'))).length nc) rfl)) (fun k hk => by have := HZ5.o; simp at hk; omega))).mono fun k _ hk => by have := HZ5.o; simp at hk; omega
 clear hnl hb6 V2;generalize zab n (givT tm (pick t at')) = R at *;go_wp2;exact bodyPost_ret (v := .tuple #[.agg #[.int .i64 n, .slice na R.length nc], .int .i64 0]) (by simp [results, Tryz.results14, go_sem, a0, a1, vz]) rfl ⟨na, nc, rfl, HLF.o, (HB6.o.setCell (show w.heap.size <= w.heap.size + 1 + 1 by omega) _).setCell (show w.heap.size <= w.heap.size + 1 + 1 by omega) _⟩
end Go.Proofs.YtfmmhjphopikgaaGreatDoor
