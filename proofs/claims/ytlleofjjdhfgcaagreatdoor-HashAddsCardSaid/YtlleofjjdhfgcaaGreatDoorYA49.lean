/- Parts of the proofs of laws. Texts: Jm. -/
import Derived.Test.YtlleofjjdhfgcaaGreatDoorYA45
import Derived.Test.YtlleofjjdhfgcaaGreatDoorYA48
set_option maxHeartbeats 8000000
set_option maxRecDepth 100000
set_option linter.all false
namespace Go.Proofs.YtlleofjjdhfgcaaGreatDoor
open Go.RowKit Cen
theorem hadds_any (z : Int) (a : Option Addr) (cap : Nat) (t : List Cl) (nn : Nat) (la : Option Addr) (lc : Nat) (l : List Pr) (s : St) (w : World) (hnn : nn < 256) (hl : t.length <= 9223372036854775807) (hx : LsCells w a t) (hxi : ∀ c ∈ t, ∀ x ∈ c, -9223372036854775808 <= x /\ x <= 9223372036854775807)
 (hll : l.length <= 9223372036854775807) (hp : PrCells w la l) (hok : ∀ p ∈ l, p.ok) (hs : s.ok) (htab : Tab w) (hdt : Dtab w) :
 Calls Tryz.prog 5 #[.agg #[.int .i64 z, .slice a t.length cap], .int .u8 (nn : Int), .slice la l.length lc, .agg #[.int .u64 (s.a : Int), .int .u64 (s.b : Int)]] w fun e w' => e = .returned (.bool true) /\ Below w.heap.size w w' := by
 obtain ⟨w0, hw0⟩ := nm ((w.alloc (.cells #[.int .i64 z, .slice a t.length cap] 24)).alloc (.cells #[.int .u64 (s.a : Int), .int .u64 (s.b : Int)] 40))
 have hb0 : Below w.heap.size w w0 := by rw [hw0]; exact (ba _ _).alloc (by simp) _
 have q0 : Blk w0 w.heap.size #[.int .i64 z, .slice a t.length cap] 24 := by rw [hw0]; exact (Blk.new _ _ _).alloc _
 have q1 : Blk w0 (w.heap.size + 1) #[.int .u64 (s.a : Int), .int .u64 (s.b : Int)] 40 := by rw [hw0]; exact Blk.new' _ (by simp) _ _
 have HLI := lh (fun V (hV : Below w.heap.size w V) => zla z a cap t V hl (hx.keep hV));have HWK := lh (fun V (hV : Below w.heap.size w V) => zfz V (htab.keep hV) (hdt.keep hV));have HB0 := lh hb0;have HQ0 := lh q0;have HQ1 := lh q1;have k0 := q0.cell 0;have k1 := q0.cell 1;have kz := q0.lt
 cases hlt : zdz t with
 | false =>
   rw [hlt] at HLI;clear hb0 q0 q1 hx hl hxi hlt hll hp hok hs htab hdt hnn;go_enter Tryz.func5, Tryz.ntmps5;go_wp2_with fail;rw [<- hw0];clear hw0;refine (HLI.o _ HB0.o).mono ?_;rintro e w1 ⟨rfl, hb1⟩;have HB1 := bt HB0 hb1;clear hb1 k0 k1 kz;go_wp2_with fail;refine (HWK.o _ HB1.o).mono ?_;rintro e w2 ⟨rfl, hb2⟩;go_wp2;go_ret;exact ⟨rfl, HB1.o.trans (hb2.mono HB1.o.size)⟩
 | true =>
   rw [hlt] at HLI
   by_cases h5 : 5 < l.length
   ·have h5i : (5 : Int) < (l.length : Int) := by omega
    clear hb0 q0 q1 hx hl hxi hlt hll hp hok hs htab hdt hnn h5;go_enter Tryz.func5, Tryz.ntmps5;go_wp2_with fail;rw [<- hw0];clear hw0;refine (HLI.o _ HB0.o).mono ?_;rintro e w1 ⟨rfl, hb1⟩;have HB1 := bt HB0 hb1;clear hb1 k0 k1 kz;go_wp2_with fail;refine (HWK.o _ HB1.o).mono ?_;rintro e w2 ⟨rfl, hb2⟩;go_wp2;go_ret;exact ⟨rfl, HB1.o.trans (hb2.mono HB1.o.size)⟩
   have h60 : t.length <= 60 /\ ∀ c ∈ t, c.length <= 140 := by
    unfold zdz at hlt;simp only [Bool.and_eq_true, List.all_eq_true, decide_eq_true_eq] at hlt;exact ⟨hlt.2, hlt.1⟩
   obtain ⟨n, hn⟩ := nm (nn % 9)
   have hmod : ((nn : Int) % 9) = (n : Int) := by omega
   have hmod2 : ((nn : Int).tmod 9) = (n : Int) := by rw [hn]; exact (Int.ofNat_tmod nn 9).symm
   have h8 : n <= 8 := by omega
   have HG : Hid (Gdt n (fewT n t) []) := zzi (n := n) (by omega) (by omega);have HFW := lh (fun V (hV : Below w.heap.size w V) => zuj z n a cap t V (hx.keep hV) (by omega) (fun c hc => ⟨by have := h60.2 c hc; omega, hxi c hc⟩) (by omega))
   have HTL : Hid (t.length = (fewT n t).length) := by show _ = _; simp [fewT]
   obtain ⟨tt, htt⟩ := nm (fewT n t)
   have HFW2 : Hid (∀ V, Below w.heap.size w V -> Calls Tryz.prog 11 #[.agg #[.int .i64 z, .slice a t.length cap], .int .i64 (n : Int)] V fun e w' => ∃ a cap, e = .returned (.agg #[.int .i64 (n : Int), .slice a tt.length cap]) /\ LsIn (fun k => V.heap.size <= k) w' a tt /\ Below V.heap.size V w') := fun V hV => (HFW.o V hV).mono fun e w' h => by
    obtain ⟨a, c, h1, h2, h3⟩ := h;exact ⟨a, c, by rw [htt, <- HTL.o]; exact h1, by rw [htt]; exact h2, h3⟩
   rw [<- htt] at HG;have HPC := lh (fun V (hV : Below w.heap.size w V) => hp.keep hV);have HOK := lh hok;have HTB := lh (fun V (hV : Below w.heap.size w V) => And.intro (htab.keep hV) (hdt.keep hV))
   have hl5 : l.length <= 5 := by omega
   have h5i : ¬ (5 : Int) < (l.length : Int) := by omega
   obtain ⟨M, hM⟩ := nm (2 ^ n - 1)
   have hM255 : M <= 255 := by
    have : 2 ^ n <= 2 ^ 8 := Nat.pow_le_pow_right (by omega) h8;rw [hM]; omega
   have HMK : Hid (IntKind.u64.wrap (IntKind.u64.wrap ((2 : Int) ^ n) - 1) = (M : Int)) := by
    show _ = _
    have h1 : 2 ^ n <= 2 ^ 8 := Nat.pow_le_pow_right (by omega) h8;have h2 : 1 <= 2 ^ n := Nat.one_le_two_pow
    have e0 : (2 : Int) ^ n = ((2 ^ n : Nat) : Int) := by push_cast; rfl
    rw [e0, hM];generalize 2 ^ n = P at *
    simp [IntKind.wrap, IntKind.bits, IntKind.signed]; omega
   have HMM := lh hM
   have HMU : Hid (M < U64) := by show _ < _; unfold U64; omega
   have hn64 : (n : Int) < 64 := by omega
   have HX64 : Hid (bits .and .u64 (s.a : Int) (M : Int) = ((s.a &&& M : Nat) : Int)) := ztt hs.1 HMU.o
   have HXI : Hid (∀ o, (Pr.mk ⟨s.a &&& M, 0⟩ o).ok /\ ∀ v, (Pr.mk ⟨s.a &&& M, 0⟩ o).v.mem v = true -> v <= n) := fun o => by
    have h := msk_in h8 (p := ⟨s, o⟩) hs;unfold mskP at h;rw [<- hM] at h;exact h
   have HX0 : Hid (s.a &&& M < U64) := zc7 hs.1;generalize s.a &&& M = X at *
   have h8i : (n : Int) <= 8 := by omega
   clear hb0 q0 q1 hx hl hxi hlt hll hp hok hs htab hdt hnn h60 hn htt HFW HTL h5 hM;go_enter Tryz.func5, Tryz.ntmps5;go_wp2_with fail;rw [<- hw0];clear hw0;refine (HLI.o _ HB0.o).mono ?_;rintro e w1 ⟨rfl, hb1⟩;have HB1 := bt HB0 hb1;have HQ2 := lh (HQ0.o.later hb1);have HS2 := lh (HQ1.o.later hb1);clear hb1 k0 k1 kz HLI HQ0 HQ1 HB0;have k0 := HQ2.o.cell 0;have k1 := HQ2.o.cell 1;have kz := HQ2.o.lt;go_wp2_with fail;refine (HFW2.o _ HB1.o).mono ?_;rintro e w3 ⟨a3, c3, rfl, hls, hb3⟩;have hq3 := HQ2.o.later hb3;have HB3 := bt HB1 hb3;have hz2 := HQ2.o.lt;have hs3 := HS2.o.later hb3;clear k0 k1 kz HQ2
   have k0 := hq3.cell 0;have k1 := hq3.cell 1;have f0 := hq3.fr 0;have f1 := hq3.fr 1;have kz := hq3.lt;obtain ⟨w4, hw4⟩ := nm ((w3.setCell ⟨w.heap.size, 0, none⟩ (.int .i64 (n : Int))).setCell ⟨w.heap.size, 1, none⟩ (.slice a3 tt.length c3))
   have hq4 : Blk w4 w.heap.size #[.int .i64 (n : Int), .slice a3 tt.length c3] 24 := by rw [hw4]; exact (hq3.set 0 _).set 1 _
   have hs4 : Blk w4 (w.heap.size + 1) #[.int .u64 (s.a : Int), .int .u64 (s.b : Int)] 40 := by
    rw [hw4];exact (hs3.kept (M := fun y => y = w.heap.size) (Kp.setCell _ _ _ rfl) (by omega)).kept (M := fun y => y = w.heap.size) (Kp.setCell _ _ _ rfl) (by omega)
   have hls4 : LsIn (fun k => w1.heap.size <= k) w4 a3 tt := by
    rw [hw4];exact (hls.kept (M := fun y => y = w.heap.size) (Kp.setCell _ _ _ rfl) (fun y hy e => by omega)).kept (M := fun y => y = w.heap.size) (Kp.setCell _ _ _ rfl) (fun y hy e => by omega)
   have hb4 : Below w.heap.size w w4 := by rw [hw4]; exact (HB3.o.setCell (Nat.le_refl _) _).setCell (Nat.le_refl _) _
   obtain ⟨w5, hw5⟩ := nm (w4.alloc (.cells #[.slice none 0 0] 38));obtain ⟨ob, hob⟩ := nm w4.heap.size
   have hb45 : Below w4.heap.size w4 w5 := by rw [hw5]; exact ba _ _
   have HB5 := lh (hb4.trans (hb45.mono hb4.size));have HQ5 := lh hq4;have HS5 := lh hs4;have HL5 := lh hls4.ls;have HB45 := lh hb45;have HOB := lh hob
   have HO5 : Hid (Blk w5 ob #[.slice none 0 0] 38) := by show Blk _ _ _ _; rw [hw5, hob]; exact Blk.new _ _ _
   have hzob : w.heap.size + 1 < ob := by rw [hob]; exact hs4.lt
   have HZOB := lh hzob
   have HZ5 : Hid (w5.heap.size = ob + 1) := by show _ = _; rw [hw5, hob]; exact World.size_alloc _ _
   clear hq4 hs4 hls4 hls hb3 hq3 hs3 hz2 HB3 HFW2 HS2 HB1 hb45 hb4;go_wp2_with fail
   have hob3 : ob = w3.heap.size := by rw [hob, hw4, World.size_setCell', World.size_setCell']
   rw [<- hw4, <- hw5, HMK.o, <- hob3];clear hw4 hw5 hob hob3 k0 k1 f0 f1 kz HMK hmod hmod2 hzob
   go_loopw [45] (fun i wr => ∃ (k : Nat) (oa : Option Addr) (oc : Nat), k <= l.length /\ i = .int .i64 k /\ Below w.heap.size w wr /\ Below w4.heap.size w4 wr /\ Blk wr ob #[.slice oa k oc] 38 /\ OwnP wr (ob + 1) (.slice oa k oc) ((l.take k).map (mskP n))) (fun i _ => l.length - (intOf i).toNat)
   case atStart => exact ⟨0, none, 0, Nat.zero_le _, rfl, HB5.o, HB45.o, HO5.o, OwnL.nil _ _⟩
   obtain ⟨k, oa, oc, hk, rfl, hb, hkp, hq, ho⟩ := hrel;have HB := lh hb;have HKP := lh hkp;have HQ := lh hq;have HO := lh ho;have hpr := HPC.o _ hb;clear hb hkp hq ho
   by_cases hlt : k < l.length
   ·have hki : (k : Int) < (l.length : Int) := by omega
    obtain ⟨b2, off2, hae, c0, c1, c2⟩ := hpr.at hlt;have hpk := HOK.o l[k] (List.getElem_mem hlt)
    have HTK : Hid ((l.take (k + 1)).map (mskP n) = (l.take k).map (mskP n) ++ [⟨⟨(l[k]).v.a &&& M, 0⟩, (l[k]).odd⟩]) := by
     show _ = _; rw [List.take_succ_eq_append_getElem hlt, List.map_append]; simp [mskP, HMM.o]
    have HLK : Hid (((l.take k).map (mskP n)).length = k) := by show _ = _; simp; omega
    generalize (l.take k).map (mskP n) = L at *;generalize l[k] = p at *;have hand : bits .and .u64 (p.v.a : Int) (M : Int) = ((p.v.a &&& M : Nat) : Int) := ztt hpk.1 HMU.o;generalize p.v.a &&& M = A at *;have zb := zai c0;subst hae
    have HLN : Hid (L.length <= 1073741824) := by show _ <= _; rw [HLK.o]; omega
    obtain ⟨V, hV⟩ := nm (wr.alloc (.cells #[.int .u64 (p.v.a : Int), .int .u64 (p.v.b : Int), .bool p.odd] 42))
    have hbv : Below wr.heap.size wr V := by rw [hV]; exact ba _ _
    have qv : Blk V wr.heap.size #[.int .u64 (p.v.a : Int), .int .u64 (p.v.b : Int), .bool p.odd] 42 := by rw [hV]; exact Blk.new _ _ _
    have HQV := lh (HQ.o.later hbv);have HOV := lh (HO.o.later hbv);have HBV := bt HB hbv;have HKV : Hid (Below w4.heap.size w4 V) := HKP.o.trans (hbv.mono HKP.o.size);have HZV : Hid (ob + 1 <= V.heap.size) := HQV.o.lt;clear hpr hpk hbv
    go_upto_region 9 with fail
    rw [<- hV];clear hV c0 c1 c2 zb;have d0 := qv.cell 0;have d1 := qv.cell 1;have d2 := qv.cell 2;have dz := qv.lt;have p0 := HQV.o.cell 0;have pz := HQV.o.lt;clear qv;go_wp2_with (at_builtin; go_loud (refine zlx (C := #[.int .u64 (A : Int), .int .u64 0, .bool p.odd]) zq2 rfl _ _ rfl (ob + 1) (.slice oa k oc) L ⟨⟨A, 0⟩, p.odd⟩ rfl HOV.o rfl rfl rfl (zp8 ⟨⟨A, 0⟩, p.odd⟩) HLN.o (by decide) HZV.o ?_));intro g5 cap5 w6 ho6 hg6 hgn6;rw [HLK.o] at ho6 ⊢
    have hkg : Kp (fun y => (Value.slice oa k oc).ownBlock = some y) V w6 := Kp.grown hg6 fun k h => h
    have hge : ∀ y, (Value.slice oa k oc).ownBlock = some y -> ob + 1 <= y := fun y hy => (World.ownsRow.lt HOV.o y hy).1
    have HQ6 := lh (HQV.o.kept hkg fun h => by have := hge _ h; omega)
    have HB6 : Hid (Below w.heap.size w w6) := HBV.o.grown hg6 (Nat.le_trans (by have := HZOB.o; omega) HZV.o) fun k hk => by have := hge k hk; have := HZOB.o; omega
    have HK6 : Hid (Below w4.heap.size w4 w6) := HKV.o.grown hg6 HKV.o.size fun k hk => by have := hge k hk; have := HOB.o; omega
    have HO6 := lh ho6;have HGG : Hid (ob + 1 <= g5) := (World.ownsRow.lt ho6 g5 rfl).1;have r0 := HQ6.o.cell 0;have rf := HQ6.o.fr 0;have rz := HQ6.o.lt;clear ho6 hg6 hgn6 hkg hge p0 pz d0 d1 d2 dz;go_wp2_with fail;clear r0 rf rz;go_roundw
    case rel =>
     refine ⟨k + 1, some ⟨g5, 0, none⟩, cap5, by omega, by go_num, HB6.o.setCell (by have := HZOB.o; dsimp only; omega) _, HK6.o.setCell (by have := HOB.o; dsimp only; omega) _, HQ6.o.set 0 _, ?_⟩;rw [HTK.o]
     refine OwnL.kept (M := fun y => y = ob) HO6.o (Kp.setCell _ _ _ rfl) fun y hy e => ?_
     simp [Value.ownBlock] at hy
     have := HGG.o; omega
    case measure => simp [intOf]; omega
   obtain rfl : k = l.length := by omega
   have hkn : ¬ ((l.length : Int) < (l.length : Int)) := by omega
   rw [List.take_length] at HO;generalize hown : l.map (mskP n) = own at HO
   have hol : own.length = l.length := by rw [<- hown, List.length_map]
   rw [<- hol] at HO HQ hl5 h5i ⊢
   have hoi : InP n own := by rw [<- hown]; exact msk_all h8 HOK.o
   have HZB : Hid (∀ p ∈ own, p.v.b = 0) := fun p hp => by
    rw [<- hown] at hp;obtain ⟨r, _, rfl⟩ := List.mem_map.1 hp
    rfl
   have HPO : Hid (∀ p ∈ own, p.ok /\ ∀ v : Int, p.v.mem v = true -> v <= n) := hoi;clear hol;have HOI := lh hoi
   have hox : PrCells wr oa own := by
    obtain ⟨a9, c9, e9, h9⟩ := OwnP.pc HO.o;simp only [Value.slice.injEq] at e9;obtain ⟨rfl, _, _⟩ := e9;exact h9
   have HE : Hid (AEnv wr n a3 c3 tt w.heap.size ob oa oc own) := ⟨HQ5.o.later HKP.o, HL5.o.keep HKP.o, HQ.o, hox, (HTB.o _ HB.o).1, (HTB.o _ HB.o).2⟩
   have HCL : Hid (∀ V ps pa pc, AEnv V n a3 c3 tt w.heap.size ob oa oc own -> ps.length <= 3 -> InP n ps -> PrCells V pa ps -> Calls Tryz.prog 14 #[.slice pa ps.length pc, .pointer (some ⟨w.heap.size, 0, none⟩), .pointer (some ⟨ob, 0, none⟩)] V fun e w' => e = .returned (.agg #[.string (natB (cellT n tt (own ++ ps)))]) /\ Below V.heap.size V w') := fun V ps pa pc hE h3 hi hp => hwith_any HG.o h8 a3 c3 w.heap.size ob oa oc own hl5 hoi pa pc ps V hE h3 hi hp
   have HC0 : Hid (∀ V, AEnv V n a3 c3 tt w.heap.size ob oa oc own -> Calls Tryz.prog 14 #[.slice none 0 0, .pointer (some ⟨w.heap.size, 0, none⟩), .pointer (some ⟨ob, 0, none⟩)] V fun e w' => e = .returned (.agg #[.string (natB (cellT n tt own))]) /\ Below V.heap.size V w') := fun V hE => by
    have h := HCL.o V [] none 0 hE (by simp) (InP.nil n) (PrCells.nil _ _);rw [List.append_nil] at h;exact h
   have HC1 : Hid (∀ V b p, AEnv V n a3 c3 tt w.heap.size ob oa oc own -> (p.ok /\ ∀ v : Int, p.v.mem v = true -> v <= n) -> Blk V b #[.int .u64 (p.v.a : Int), .int .u64 (p.v.b : Int), .bool p.odd] 42 -> Calls Tryz.prog 14 #[.slice (some ⟨b, 0, none⟩) 1 1, .pointer (some ⟨w.heap.size, 0, none⟩), .pointer (some ⟨ob, 0, none⟩)] V fun e w' => e = .returned (.agg #[.string (natB (cellT n tt (own ++ [p])))]) /\ Below V.heap.size V w') := fun V b p hE hi hp => HCL.o V [p] (some ⟨b, 0, none⟩) 1 hE (by simp) (InP.cons hi (InP.nil n)) (pr_blk1 hp)
   have HCE : Hid (∀ V ps pa pc, AEnv V n a3 c3 tt w.heap.size ob oa oc own -> ps.length <= 16 -> InP n ps -> PrCells V pa ps -> Calls Tryz.prog 15 #[.agg #[.int .i64 (n : Int), .slice a3 tt.length c3], .slice pa ps.length pc] V (zls (cellT n tt ps) 0 V)) := fun V ps pa pc hE h16 hi hp => cellT_any HG.o h8 a3 c3 pa pc ps V hE.tx h16 hp hi hE.tab hE.dt
   have HCN : Hid (∀ V, AEnv V n a3 c3 tt w.heap.size ob oa oc own -> Calls Tryz.prog 15 #[.agg #[.int .i64 (n : Int), .slice a3 tt.length c3], .slice none 0 0] V (zls (cellT n tt []) 0 V)) := fun V hE => HCE.o V [] none 0 hE (by simp) (InP.nil n) (PrCells.nil _ _)
   have HMO : Hid (∀ V, AEnv V n a3 c3 tt w.heap.size ob oa oc own -> Calls Tryz.prog 12 #[.agg #[.int .i64 (n : Int), .slice a3 tt.length c3]] V fun e w' => e = .returned (.int .u64 (cellT n tt [] : Int)) /\ Below V.heap.size V w') := fun V hE => by
    rw [cellT_nil]; exact zsr n h8 a3 c3 tt V HG.o.tok hE.tx
   have hle := fun ps => cellT_le h8 tt ps
   have HAD : Hid (∀ V, Calls Tryz.prog 17 #[.agg #[.string (natB (cellT n tt (own ++ [⟨⟨X, 0⟩, false⟩])))], .agg #[.string (natB (cellT n tt (own ++ [⟨⟨X, 0⟩, true⟩])))]] V fun e w' => e = .returned (.agg #[.string (natB (cellT n tt own))]) /\ Below V.heap.size V w') := fun V => by
    have h := ze6 (cellT n tt (own ++ [⟨⟨X, 0⟩, false⟩])) (cellT n tt (own ++ [⟨⟨X, 0⟩, true⟩])) (Nat.lt_of_le_of_lt (hle _) (by decide)) (Nat.lt_of_le_of_lt (hle _) (by decide)) (by have h1 := hle (own ++ [⟨⟨X, 0⟩, false⟩]); have h2 := hle (own ++ [⟨⟨X, 0⟩, true⟩]); omega) V;rw [cellT_add] at h;exact h
   have HOF : Hid (∀ V, Calls Tryz.prog 18 #[.int .u64 (cellT n tt [] : Int)] V fun e w' => e = .returned (.agg #[.string (natB (cellT n tt []))]) /\ Below V.heap.size V w') := fun V => zvn _ (Nat.lt_of_le_of_lt (hle _) (by decide)) V
   have HRV : Hid (cellT n tt own.reverse = cellT n tt own) := cellT_rev n tt own;have hxa := HX64.o;have HSW := lh (HS5.o.later HKP.o);have s0 := HSW.o.cell 0;have sz := HSW.o.lt;obtain ⟨xb, hxb⟩ := nm wr.heap.size;obtain ⟨w7, hw7⟩ := nm ((wr.alloc (.cells #[.int .u64 (X : Int), .int .u64 0, .bool false] 42)).alloc (.cells #[.int .u64 (X : Int), .int .u64 0, .bool true] 42))
   have hb7 : Below wr.heap.size wr w7 := by rw [hw7]; exact (ba _ _).alloc (by simp) _
   have x7 : Blk w7 xb #[.int .u64 (X : Int), .int .u64 0, .bool false] 42 := by rw [hw7, hxb]; exact (Blk.new _ _ _).alloc _
   have y7 : Blk w7 (xb + 1) #[.int .u64 (X : Int), .int .u64 0, .bool true] 42 := by rw [hw7, hxb]; exact Blk.new' _ (by simp) _ _
   have HE7 := lh (HE.o.later hb7);have HB7 := bt HB hb7
   go_upto_region 14 with fail
   rw [<- hw7, <- hxb];clear hw7 hb7 hxb s0 sz hxa HSW HQ HO HX64 hoi hle hox;have u0 := x7.cell 0;have u1 := x7.cell 1;have u2 := x7.cell 2;have u3 := y7.cell 0;have u4 := y7.cell 1;have u5 := y7.cell 2;have hzx := x7.lt;have hzy := y7.lt
   have HKS : Hid (∀ w' : World, Below w7.heap.size w7 w' -> (fun w' => w'.cell? ⟨xb, 0, none⟩ = some (.int .u64 (X : Int)) /\ w'.cell? ⟨xb, 1, none⟩ = some (.int .u64 0) /\ w'.cell? ⟨xb, 2, none⟩ = some (.bool false) /\ w'.cell? ⟨xb + 1, 0, none⟩ = some (.int .u64 (X : Int)) /\ w'.cell? ⟨xb + 1, 1, none⟩ = some (.int .u64 0) /\ w'.cell? ⟨xb + 1, 2, none⟩ = some (.bool true)) w') := fun w' hb => ⟨zab hb u0, zab hb u1, zab hb u2, zab hb u3, zab hb u4, zab hb u5⟩
   go_cut [83] (fun v wx => v = .bool false /\ Below w7.heap.size w7 wx)
   case first =>
    have hgn := zpi
    have hne := fun w => run_neq_same (natB (cellT n tt own)) w
    refine wp_region_held_drew (S := (fun w' => w'.cell? ⟨xb, 0, none⟩ = some (.int .u64 (X : Int)) /\ w'.cell? ⟨xb, 1, none⟩ = some (.int .u64 0) /\ w'.cell? ⟨xb, 2, none⟩ = some (.bool false) /\ w'.cell? ⟨xb + 1, 0, none⟩ = some (.int .u64 (X : Int)) /\ w'.cell? ⟨xb + 1, 1, none⟩ = some (.int .u64 0) /\ w'.cell? ⟨xb + 1, 2, none⟩ = some (.bool true))) (by kernel_rfl) (by exact HKS.o _ ((Below.refl w7.heap.size w7).drew)) fun hH => ?_
    refine tkV 0 72 rfl rfl ?_; try simp only [tkS]
    refine tkV 1 73 rfl rfl ?_; try simp only [tkS]
    refine tkV 4 76 rfl rfl ?_; try simp only [tkS]
    refine tkV 5 77 rfl rfl ?_; try simp only [tkS]
    refine tkV 9 81 rfl rfl ?_; try simp only [tkS]
    refine wpAnyH_ready (rs := [2, 6]) (by kernel_rfl) (by simp) ?_;refine AllReadyH.cons rfl (fun K hK => ?_) (AllReadyH.cons rfl (fun K hK => ?_) AllReadyH.nil)
    focus
     go_simp;obtain ⟨sx, hj⟩ := nm w7.heap.size;have hv21 : Below w7.heap.size w7 ((w7.alloc (.cells #[.int .u64 (X : Int), .int .u64 0, .bool false] 42)).drew) := (Below.alloc (Below.refl w7.heap.size w7) (Nat.le_refl _) _).drew;have qsx : Blk ((w7.alloc (.cells #[.int .u64 (X : Int), .int .u64 0, .bool false] 42)).drew) sx #[.int .u64 (X : Int), .int .u64 0, .bool false] 42 := Blk.new' _ hj.symm _ _
     refine hK.out _ _ (by exact HKS.o _ hv21) fun hH => ?_
     clear hK K
     try simp only [tkS]
     rw [<- hj];generalize (w7.alloc (.cells #[.int .u64 (X : Int), .int .u64 0, .bool false] 42)).drew = V21 at *;clear hj;refine wpAnyH_ready (rs := [3, 6]) (by kernel_rfl) (by simp) ?_;refine AllReadyH.cons rfl (fun K hK => ?_) (AllReadyH.cons rfl (fun K hK => ?_) AllReadyH.nil)
     focus
      go_simp;go_at_call 14;refine Calls.mono (HC1.o _ _ ⟨⟨X, 0⟩, false⟩ (HE7.o.later hv21) (HXI.o _) qsx) ?_;rintro e V22 ⟨rfl, hb22⟩;have hv22 : Below w7.heap.size w7 V22 := Below.trans hv21 (Below.mono hb22 (Below.size hv21));clear hb22;go_wp2_with fail
      refine hK.out _ _ (by exact HKS.o _ hv22) fun hH => ?_
      clear hK K
      try simp only [tkS]
      refine tkR 6 (.cons rfl (fun K hK => ?_) .nil);go_simp;obtain ⟨sy, hj⟩ := nm V22.heap.size;have hv23 : Below w7.heap.size w7 (V22.alloc (.cells #[.int .u64 (X : Int), .int .u64 0, .bool true] 42)) := Below.alloc hv22 (Below.size hv22) _;have qsy : Blk (V22.alloc (.cells #[.int .u64 (X : Int), .int .u64 0, .bool true] 42)) sy #[.int .u64 (X : Int), .int .u64 0, .bool true] 42 := Blk.new' _ hj.symm _ _
      refine hK.out _ _ (by exact HKS.o _ hv23) fun hH => ?_
      clear hK K
      try simp only [tkS]
      rw [<- hj];generalize V22.alloc (.cells #[.int .u64 (X : Int), .int .u64 0, .bool true] 42) = V23 at *;clear hj
     rotate_left
     focus
      go_simp;obtain ⟨sy, hj⟩ := nm V21.heap.size;have hv22 : Below w7.heap.size w7 (V21.alloc (.cells #[.int .u64 (X : Int), .int .u64 0, .bool true] 42)) := Below.alloc hv21 (Below.size hv21) _;have qsy : Blk (V21.alloc (.cells #[.int .u64 (X : Int), .int .u64 0, .bool true] 42)) sy #[.int .u64 (X : Int), .int .u64 0, .bool true] 42 := Blk.new' _ hj.symm _ _
      replace qsx := qsx.alloc (.cells #[.int .u64 (X : Int), .int .u64 0, .bool true] 42)
      refine hK.out _ _ (by exact HKS.o _ hv22) fun hH => ?_
      clear hK K
      try simp only [tkS]
      rw [<- hj];generalize V21.alloc (.cells #[.int .u64 (X : Int), .int .u64 0, .bool true] 42) = V22 at *;clear hj;refine tkR 3 (.cons rfl (fun K hK => ?_) .nil);go_simp;go_at_call 14;refine Calls.mono (HC1.o _ _ ⟨⟨X, 0⟩, false⟩ (HE7.o.later hv22) (HXI.o _) qsx) ?_;rintro e V23 ⟨rfl, hb23⟩;have hv23 : Below w7.heap.size w7 V23 := Below.trans hv22 (Below.mono hb23 (Below.size hv22))
      replace qsy := qsy.later hb23
      clear hb23;go_wp2_with fail
      refine hK.out _ _ (by exact HKS.o _ hv23) fun hH => ?_
      clear hK K
      try simp only [tkS]
     rotate_left
    rotate_left 2
    focus
     go_simp;obtain ⟨sy, hj⟩ := nm w7.heap.size;have hv21 : Below w7.heap.size w7 ((w7.alloc (.cells #[.int .u64 (X : Int), .int .u64 0, .bool true] 42)).drew) := (Below.alloc (Below.refl w7.heap.size w7) (Nat.le_refl _) _).drew;have qsy : Blk ((w7.alloc (.cells #[.int .u64 (X : Int), .int .u64 0, .bool true] 42)).drew) sy #[.int .u64 (X : Int), .int .u64 0, .bool true] 42 := Blk.new' _ hj.symm _ _
     refine hK.out _ _ (by exact HKS.o _ hv21) fun hH => ?_
     clear hK K
     try simp only [tkS]
     rw [<- hj];generalize (w7.alloc (.cells #[.int .u64 (X : Int), .int .u64 0, .bool true] 42)).drew = V21 at *;clear hj;refine tkR 2 (.cons rfl (fun K hK => ?_) .nil);go_simp;obtain ⟨sx, hj⟩ := nm V21.heap.size;have hv22 : Below w7.heap.size w7 (V21.alloc (.cells #[.int .u64 (X : Int), .int .u64 0, .bool false] 42)) := Below.alloc hv21 (Below.size hv21) _;have qsx : Blk (V21.alloc (.cells #[.int .u64 (X : Int), .int .u64 0, .bool false] 42)) sx #[.int .u64 (X : Int), .int .u64 0, .bool false] 42 := Blk.new' _ hj.symm _ _
     replace qsy := qsy.alloc (.cells #[.int .u64 (X : Int), .int .u64 0, .bool false] 42)
     refine hK.out _ _ (by exact HKS.o _ hv22) fun hH => ?_
     clear hK K
     try simp only [tkS]
     rw [<- hj];generalize V21.alloc (.cells #[.int .u64 (X : Int), .int .u64 0, .bool false] 42) = V22 at *;clear hj;refine tkR 3 (.cons rfl (fun K hK => ?_) .nil);go_simp;go_at_call 14;refine Calls.mono (HC1.o _ _ ⟨⟨X, 0⟩, false⟩ (HE7.o.later hv22) (HXI.o _) qsx) ?_;rintro e V23 ⟨rfl, hb23⟩;have hv23 : Below w7.heap.size w7 V23 := Below.trans hv22 (Below.mono hb23 (Below.size hv22))
     replace qsy := qsy.later hb23
     clear hb23;go_wp2_with fail
     refine hK.out _ _ (by exact HKS.o _ hv23) fun hH => ?_
     clear hK K
     try simp only [tkS]
    rotate_left
    all_goals
     refine tkR 7 (.cons rfl (fun K hK => ?_) .nil);go_simp;go_at_call 14;refine Calls.mono (HC1.o _ _ ⟨⟨X, 0⟩, true⟩ (HE7.o.later hv23) (HXI.o _) qsy) ?_;rintro e V24 ⟨rfl, hb24⟩;have hv24 : Below w7.heap.size w7 V24 := Below.trans hv23 (Below.mono hb24 (Below.size hv23));clear hb24;go_wp2_with fail
     refine hK.out _ _ (by exact HKS.o _ hv24) fun hH => ?_
     clear hK K
     try simp only [tkS]
     refine tkR 8 (.cons rfl (fun K hK => ?_) .nil);go_simp;go_at_call 17;refine Calls.mono (HAD.o _) ?_;rintro e V25 ⟨rfl, hb25⟩;have hv25 : Below w7.heap.size w7 V25 := Below.trans hv24 (Below.mono hb25 (Below.size hv24));clear hb25;go_wp2_with fail
     refine hK.out _ _ (by exact HKS.o _ hv25) fun hH => ?_
     clear hK K
     try simp only [tkS]
     refine tkR 10 (.cons rfl (fun K hK => ?_) .nil);go_simp;go_at_call 14;refine Calls.mono (HC0.o _ (HE7.o.later hv25)) ?_;rintro e V26 ⟨rfl, hb26⟩;have hv26 : Below w7.heap.size w7 V26 := Below.trans hv25 (Below.mono hb26 (Below.size hv25));clear hb26;go_wp2_with fail
     refine hK.out _ _ (by exact HKS.o _ hv26) fun hH => ?_
     clear hK K
     try simp only [tkS]
     refine tkV 11 83 rfl rfl ?_; try simp only [tkS]
     refine wpAnyH_done (by kernel_rfl) ?_ _;go_wp2_with fail
     go_meet
     exact ⟨rfl, hv26⟩
   obtain ⟨rfl, hbx⟩ := hcut
   rename World => wx
   have HEX := lh (HE7.o.later hbx);have HBX := bt HB7 hbx;clear hbx x7 y7 u0 u1 u2 u3 u4 u5 hzx hzy HKS HE7 HB7;have k0 := HEX.o.tt.cell 0;have k1 := HEX.o.tt.cell 1;have kz := HEX.o.tt.lt;go_wp2_with fail;refine (HCN.o _ HEX.o).mono ?_;rintro e w8 ⟨rfl, hb8⟩;have HE8 := lh (HEX.o.later hb8);have HB8 := bt HBX hb8;clear hb8 k0 k1 kz HEX HBX;obtain ⟨nb, hnb⟩ := nm w8.heap.size;obtain ⟨w9, hw9⟩ := nm (w8.alloc (.cells #[.string (natB (cellT n tt []))] 44))
   have hb9 : Below w8.heap.size w8 w9 := by rw [hw9]; exact ba _ _
   have q9 : Blk w9 nb #[.string (natB (cellT n tt []))] 44 := by rw [hw9, hnb]; exact Blk.new _ _ _
   have HE9 := lh (HE8.o.later hb9);have HB9 := bt HB8 hb9
   go_upto_region 17 with fail
   rw [<- hw9, <- hnb];clear hw9 hnb hb9 HE8 HB8;have k0 := HE9.o.tt.cell 0;have k1 := HE9.o.tt.cell 1;have kz := HE9.o.tt.lt;have n0 := q9.cell 0;have nz := q9.lt
   have HKS : Hid (∀ w' : World, Below w9.heap.size w9 w' -> (fun w' => w'.cell? ⟨w.heap.size, 0, none⟩ = some (.int .i64 (n : Int)) /\ w'.cell? ⟨w.heap.size, 1, none⟩ = some (.slice a3 tt.length c3) /\ w'.cell? ⟨nb, 0, none⟩ = some (.string (natB (cellT n tt [])))) w') := fun w' hb => ⟨zab hb k0, zab hb k1, zab hb n0⟩
   go_cut [97] (fun v wx => v = .bool false /\ Below w9.heap.size w9 wx)
   case first =>
    have hgn := zpi
    have hne := fun w => run_neq_same (natB (cellT n tt [])) w
    refine wp_region_held_drew (S := (fun w' => w'.cell? ⟨w.heap.size, 0, none⟩ = some (.int .i64 (n : Int)) /\ w'.cell? ⟨w.heap.size, 1, none⟩ = some (.slice a3 tt.length c3) /\ w'.cell? ⟨nb, 0, none⟩ = some (.string (natB (cellT n tt []))))) (by kernel_rfl) (by exact HKS.o _ ((Below.refl w9.heap.size w9).drew)) fun hH => ?_
    refine tkV 0 89 rfl rfl ?_; try simp only [tkS]
    refine tkV 1 90 rfl rfl ?_; try simp only [tkS]
    refine tkV 2 91 rfl rfl ?_; try simp only [tkS]
    refine tkV 3 92 rfl rfl ?_; try simp only [tkS]
    refine tkV 4 93 rfl rfl ?_; try simp only [tkS]
    refine tkR 5 (.cons rfl (fun K hK => ?_) .nil);go_simp;go_at_call 12;refine Calls.mono (HMO.o _ (HE9.o.later (Below.refl w9.heap.size w9).drew)) ?_;rintro e V21 ⟨rfl, hb21⟩;have hv21 : Below w9.heap.size w9 V21 := Below.trans (Below.refl w9.heap.size w9).drew (Below.mono hb21 (Below.size (Below.refl w9.heap.size w9).drew));clear hb21;go_wp2_with fail
    refine hK.out _ _ (by exact HKS.o _ hv21) fun hH => ?_
    clear hK K
    try simp only [tkS]
    refine tkR 6 (.cons rfl (fun K hK => ?_) .nil);go_simp;go_at_call 18;refine Calls.mono (HOF.o _) ?_;rintro e V22 ⟨rfl, hb22⟩;have hv22 : Below w9.heap.size w9 V22 := Below.trans hv21 (Below.mono hb22 (Below.size hv21));clear hb22;go_wp2_with fail
    refine hK.out _ _ (by exact HKS.o _ hv22) fun hH => ?_
    clear hK K
    try simp only [tkS]
    refine tkV 7 96 rfl rfl ?_; try simp only [tkS]
    refine tkV 8 97 rfl rfl ?_; try simp only [tkS]
    refine wpAnyH_done (by kernel_rfl) ?_ _;go_wp2_with fail
    go_meet
    exact ⟨rfl, hv22⟩
   obtain ⟨rfl, hbx⟩ := hcut
   rename World => w10
   have HE10 := lh (HE9.o.later hbx);have HB10 := bt HB9 hbx;clear hbx q9 k0 k1 kz n0 nz HKS HE9 HB9;have o0 := HE10.o.oo.cell 0;have oz := HE10.o.oo.lt
   by_cases h0 : own.length = 0
   ·have h0i : (own.length : Int) = 0 := by omega
    clear h0 h5i;go_wp2_with fail;refine (HWK.o _ HB10.o).mono ?_;rintro e w11 ⟨rfl, hb11⟩;go_wp2;go_ret;exact ⟨rfl, HB10.o.trans (hb11.mono HB10.o.size)⟩
   have h0i : ((own.length : Int) == 0) = false := by simpa using h0
   obtain ⟨K, hK⟩ : ∃ K, own.length = K + 1 := ⟨own.length - 1, by omega⟩
   have h0l : 0 < own.length := by omega
   have hKl : K < own.length := by omega
   obtain ⟨pb, po, hae, c0, c1, c2⟩ := HE10.o.ox.at h0l;obtain ⟨pb', po', hae', d0, d1, d2⟩ := HE10.o.ox.at hKl
   have hep : pb = pb' /\ po = po' := by rw [hae] at hae'; simpa using hae'
   obtain ⟨rfl, rfl⟩ := hep;clear hae';have HPM : Hid (own[0] ∈ own) := List.getElem_mem h0l;have HQM : Hid (own[K] ∈ own) := List.getElem_mem hKl;have hpz := HZB.o _ HPM.o;have hqz := HZB.o _ HQM.o;have hpo := HPO.o _ HPM.o;have hqo := HPO.o _ HQM.o;have HKK := lh hK
   have hKn : (own.length : Int) - 1 = (K : Int) := by omega
   have hKs : (K : Int) < (own.length : Int) := by omega
   have hl5i : (own.length : Int) <= 5 := by omega
   rw [Nat.zero_mul, Nat.add_zero] at c0 c1 c2;generalize own[0] = p at *;generalize own[K] = q at *;subst hae
   have HSP : Hid (sumP p q = ⟨⟨p.v.a ^^^ q.v.a, 0⟩, !(p.odd == q.odd)⟩) := by show _ = _; unfold sumP xorS; rw [hpz, hqz]; rfl
   have HSI : Hid ((Pr.mk ⟨p.v.a ^^^ q.v.a, 0⟩ (!(p.odd == q.odd))).ok /\ ∀ v : Int, (Pr.mk ⟨p.v.a ^^^ q.v.a, 0⟩ (!(p.odd == q.odd))).v.mem v = true -> v <= n) := by have h := InP.sum hpo hqo; rw [HSP.o] at h; exact h
   have HXR : Hid (bits .xor .u64 (p.v.a : Int) (q.v.a : Int) = ((p.v.a ^^^ q.v.a : Nat) : Int)) := ydm hpo.1.1 hqo.1.1;have HPI := lh hpo;have HQI := lh hqo;have HPZ := lh hpz;have HQZ := lh hqz;have HTW : Hid (cellT n tt (own ++ [p, p, q]) = cellT n tt own) := cellT_twice n tt HPM.o HQM.o
   have HSU : Hid (cellT n tt (own ++ [⟨⟨p.v.a ^^^ q.v.a, 0⟩, !(p.odd == q.odd)⟩]) = cellT n tt own) := by show _ = _; rw [<- HSP.o]; exact cellT_sum n tt HPM.o HQM.o
   generalize p.v.a ^^^ q.v.a = Y at *;clear hpz hqz hpo hqo
   have hk5 : (K : Int) <= 4 := by omega
   have HKN := lh hKn;clear hKn;clear hK hKl h0l h5i h0;have b0 := zai c0;have b1 := zai d0
   go_upto_region 21 with fail
   go_cut [18, 19] (fun x y wx => ∃ jp jq, x = .pointer (some ⟨jp, 0, none⟩) /\ y = .pointer (some ⟨jq, 0, none⟩) /\ Blk wx jp #[.int .u64 (p.v.a : Int), .int .u64 (p.v.b : Int), .bool p.odd] 42 /\ Blk wx jq #[.int .u64 (q.v.a : Int), .int .u64 (q.v.b : Int), .bool q.odd] 42 /\ Below w10.heap.size w10 wx)
   case first =>
    have hKn := HKN.o;go_region
    all_goals (go_wp2_with fail; go_meet; first
     | exact ⟨w10.heap.size, w10.heap.size + 1, rfl, rfl, (Blk.new w10 #[.int .u64 (p.v.a : Int), .int .u64 (p.v.b : Int), .bool p.odd] 42).alloc (.cells #[.int .u64 (q.v.a : Int), .int .u64 (q.v.b : Int), .bool q.odd] 42), Blk.new' (w10.alloc (.cells #[.int .u64 (p.v.a : Int), .int .u64 (p.v.b : Int), .bool p.odd] 42)) (by simp) _ _, ((ba _ _).alloc (by simp) _).drew⟩
     | exact ⟨w10.heap.size + 1, w10.heap.size, rfl, rfl, Blk.new' (w10.alloc (.cells #[.int .u64 (q.v.a : Int), .int .u64 (q.v.b : Int), .bool q.odd] 42)) (by simp) _ _, (Blk.new w10 #[.int .u64 (q.v.a : Int), .int .u64 (q.v.b : Int), .bool q.odd] 42).alloc (.cells #[.int .u64 (p.v.a : Int), .int .u64 (p.v.b : Int), .bool p.odd] 42), ((ba _ _).alloc (by simp) _).drew⟩)
   obtain ⟨jp, jq, rfl, rfl, qp, qq, hbx⟩ := hcut
   rename World => w11
   have p0 := qp.cell 0;have p2 := qp.cell 2;have pz := qp.lt;have r0 := qq.cell 0;have r2 := qq.cell 2;have rz := qq.lt;have hxr := HXR.o;have HE11 := lh (HE10.o.later hbx);have HB11 := bt HB10 hbx;obtain ⟨sb, hsb⟩ := nm w11.heap.size;obtain ⟨w12, hw12⟩ := nm (w11.alloc (.cells #[.int .u64 (Y : Int), .int .u64 0, .bool (!(p.odd == q.odd))] 42))
   have hb12 : Below w11.heap.size w11 w12 := by rw [hw12]; exact ba _ _
   have qs : Blk w12 sb #[.int .u64 (Y : Int), .int .u64 0, .bool (!(p.odd == q.odd))] 42 := by rw [hw12, hsb]; exact Blk.new _ _ _
   have HE12 := lh (HE11.o.later hb12);have HB12 := bt HB11 hb12;have HP12 := lh (qp.later hb12);have HQ12 := lh (qq.later hb12);have HS12 := lh qs;clear b0 b1 o0 oz
   go_upto_region 24 with fail
   rw [<- hw12, <- hsb];have o0 := HE12.o.oo.cell 0;have oz := HE12.o.oo.lt;obtain ⟨B2, hB2⟩ := nm w12.heap.size;have HB2 := lh hB2
   have hlow : w.heap.size <= B2 := by rw [hB2]; exact HB12.o.size
   clear hw12 hsb hb12 qs p0 p2 pz r0 r2 rz hxr qp qq hbx hB2;go_wp2_with fail;clear o0 oz
   go_loopw [21, 127] (fun v i wr => ∃ (k : Nat) (sa : Option Addr) (sc : Nat), k <= own.length /\ i = .int .i64 k /\ v = .slice sa k sc /\ OwnP wr B2 (.slice sa k sc) (own.reverse.take k) /\ Below w12.heap.size w12 wr) (fun _ i _ => own.length - (intOf i).toNat)
   case atStart => exact ⟨0, none, 0, Nat.zero_le _, rfl, rfl, OwnL.nil _ _, Below.refl _ _⟩
   obtain ⟨k, sa, sc, hk, rfl, rfl, ho, hb⟩ := hrel;have HO := lh ho;have HB := lh hb;have HER := lh (HE12.o.later hb);have o0 := HER.o.oo.cell 0;have oz := HER.o.oo.lt;clear ho hb
   by_cases hlt : k < own.length
   ·have hki : (k : Int) < (own.length : Int) := by omega
    have hKn := HKN.o
    have hJ : own.length - 1 - k < own.length := by omega
    obtain ⟨J, hJe⟩ := nm (own.length - 1 - k)
    have hkJ : (K : Int) - (k : Int) = (J : Int) := by omega
    have HRT := lh (rev_take hlt)
    have HTL : Hid ((own.reverse.take k).length = k) := by show _ = _; rw [List.length_take, List.length_reverse]; omega
    rw [<- hJe] at hJ HRT
    have hJi : (J : Int) < (own.length : Int) := by omega
    have hgd : own.getD J default = own[J] := by simp [List.getD_eq_getElem?_getD, hJ]
    rw [hgd] at HRT;obtain ⟨b9, o9, hae, c0, c1, c2⟩ := HER.o.ox.at hJ;simp only [Option.some.injEq, Addr.mk.injEq, and_true] at hae;obtain ⟨rfl, rfl⟩ := hae;have zb := zai c0;generalize own[J] = r at *;generalize own.reverse.take k = RL at *
    have HLN : Hid (RL.length <= 1073741824) := by show _ <= _; rw [HTL.o]; omega
    have HZB2 : Hid (B2 <= wr.heap.size) := by show _ <= _; rw [HB2.o]; exact HB.o.size
    clear hJe hgd;go_wp2_with (at_builtin; go_loud (refine zlx (C := #[.int .u64 (r.v.a : Int), .int .u64 (r.v.b : Int), .bool r.odd]) zq2 rfl _ _ rfl B2 (.slice sa k sc) RL r rfl HO.o rfl rfl rfl (zp8 r) HLN.o (by decide) HZB2.o ?_));intro g5 cap5 w5 ho5 hg5 hgn5;rw [HTL.o] at ho5 ⊢;have HO5 := lh ho5;have HB5 : Hid (Below w12.heap.size w12 w5) := HB.o.grown hg5 HB.o.size (fun j hj => by have := (World.ownsRow.lt HO.o j hj).1; have := HB2.o; omega);clear ho5 hg5 hgn5 c0 c1 c2 zb o0 oz hKn hkJ;go_wp2;go_roundw
    case rel => exact ⟨k + 1, some ⟨g5, 0, none⟩, cap5, by omega, by go_num, rfl, by rw [HRT.o]; exact HO5.o, HB5.o⟩
    case measure => simp [intOf]; omega
   obtain rfl : k = own.length := by omega
   have hkn : ¬ ((own.length : Int) < (own.length : Int)) := by omega
   have HRV2 : Hid (own.reverse.take own.length = own.reverse) := by show _ = _; rw [List.take_of_length_le (by simp)]
   have HRL : Hid (own.reverse.length = own.length) := List.length_reverse
   have hpr : PrCells wr sa own.reverse := by
    have h := HO.o;rw [HRV2.o] at h;obtain ⟨a9, c9, e9, h9⟩ := OwnP.pc h;simp only [Value.slice.injEq] at e9;obtain ⟨rfl, _, _⟩ := e9;exact h9
   have HRI : Hid (InP n own.reverse) := fun r hr => HPO.o r (List.mem_reverse.1 hr)
   have HCR : Hid (Calls Tryz.prog 15 #[.agg #[.int .i64 (n : Int), .slice a3 tt.length c3], .slice sa own.length sc] wr (zls (cellT n tt own) 0 wr)) := by
    have h := HCE.o wr own.reverse sa sc HER.o (by rw [HRL.o]; omega) HRI.o hpr;rw [HRV.o, HRL.o] at h;exact h
   have HBR := lh (HB12.o.trans (HB.o.mono HB12.o.size));have HPR := lh (HP12.o.later HB.o);have HQR := lh (HQ12.o.later HB.o);have HSR := lh (HS12.o.later HB.o);have k0 := HER.o.tt.cell 0;have k1 := HER.o.tt.cell 1;have kz := HER.o.tt.lt;clear hpr o0 oz;go_wp2_with fail;refine HCR.o.mono ?_;rintro e w13 ⟨rfl, hb13⟩;have HE13 := lh (HER.o.later hb13);have HB13 := bt HBR hb13;have HP13 := lh (HPR.o.later hb13);have HQ13 := lh (HQR.o.later hb13);have HS13 := lh (HSR.o.later hb13);clear k0 k1 kz hb13 HER HBR HPR HQR HSR HCR;obtain ⟨cb, hcb⟩ := nm w13.heap.size;obtain ⟨w14, hw14⟩ := nm (w13.alloc (.cells #[.string (natB (cellT n tt own))] 44))
   have hb14 : Below w13.heap.size w13 w14 := by rw [hw14]; exact ba _ _
   have q14 : Blk w14 cb #[.string (natB (cellT n tt own))] 44 := by rw [hw14, hcb]; exact Blk.new _ _ _
   have HE14 := lh (HE13.o.later hb14);have HB14 := bt HB13 hb14;have p14 := HP13.o.later hb14;have r14 := HQ13.o.later hb14;have s14 := HS13.o.later hb14
   go_upto_region 30 with fail
   rw [<- hw14, <- hcb];clear hw14 hcb hb14 HE13 HB13 HP13 HQ13 HS13;have p0 := p14.cell 0;have p1 := p14.cell 1;have p2 := p14.cell 2;have r0 := r14.cell 0;have r1 := r14.cell 1;have r2 := r14.cell 2;have s0 := s14.cell 0;have s1 := s14.cell 1;have s2 := s14.cell 2;have c0 := q14.cell 0;have pz := p14.lt;have rz := r14.lt;have sz := s14.lt;have cz := q14.lt;have hgn := zpi
   have hne := fun w => run_eql_same (natB (cellT n tt own)) w
   have HC3 : Hid (∀ V b, AEnv V n a3 c3 tt w.heap.size ob (some ⟨pb, po, none⟩) oc own -> Blk V b #[.int .u64 (p.v.a : Int), .int .u64 (p.v.b : Int), .bool p.odd, .int .u64 (p.v.a : Int), .int .u64 (p.v.b : Int), .bool p.odd, .int .u64 (q.v.a : Int), .int .u64 (q.v.b : Int), .bool q.odd] 42 -> Calls Tryz.prog 14 #[.slice (some ⟨b, 0, none⟩) 3 3, .pointer (some ⟨w.heap.size, 0, none⟩), .pointer (some ⟨ob, 0, none⟩)] V fun e w' => e = .returned (.agg #[.string (natB (cellT n tt own))]) /\ Below V.heap.size V w') := fun V b hE hq => by
    have h := HCL.o V [p, p, q] (some ⟨b, 0, none⟩) 3 hE (by simp) (InP.cons HPI.o (InP.cons HPI.o (InP.cons HQI.o (InP.nil n)))) (pr_blk3 hq);rw [HTW.o] at h;exact h
   have HCS : Hid (∀ V b, AEnv V n a3 c3 tt w.heap.size ob (some ⟨pb, po, none⟩) oc own -> Blk V b #[.int .u64 (Y : Int), .int .u64 0, .bool (!(p.odd == q.odd))] 42 -> Calls Tryz.prog 14 #[.slice (some ⟨b, 0, none⟩) 1 1, .pointer (some ⟨w.heap.size, 0, none⟩), .pointer (some ⟨ob, 0, none⟩)] V fun e w' => e = .returned (.agg #[.string (natB (cellT n tt own))]) /\ Below V.heap.size V w') := fun V b hE hq => by
    have h := HC1.o V b ⟨⟨Y, 0⟩, !(p.odd == q.odd)⟩ hE HSI.o hq;rw [HSU.o] at h;exact h
   have HKS : Hid (∀ w' : World, Below w14.heap.size w14 w' -> (fun w' => w'.cell? ⟨jp, 0, none⟩ = some (.int .u64 (p.v.a : Int)) /\ w'.cell? ⟨jp, 1, none⟩ = some (.int .u64 (p.v.b : Int)) /\ w'.cell? ⟨jp, 2, none⟩ = some (.bool p.odd) /\ w'.cell? ⟨jq, 0, none⟩ = some (.int .u64 (q.v.a : Int)) /\ w'.cell? ⟨jq, 1, none⟩ = some (.int .u64 (q.v.b : Int)) /\ w'.cell? ⟨jq, 2, none⟩ = some (.bool q.odd) /\ w'.cell? ⟨sb, 0, none⟩ = some (.int .u64 (Y : Int)) /\ w'.cell? ⟨sb, 1, none⟩ = some (.int .u64 0) /\ w'.cell? ⟨sb, 2, none⟩ = some (.bool (!(p.odd == q.odd))) /\ w'.cell? ⟨cb, 0, none⟩ = some (.string (natB (cellT n tt own)))) w') := fun w' hb => ⟨zab hb p0, zab hb p1, zab hb p2, zab hb r0, zab hb r1, zab hb r2, zab hb s0, zab hb s1, zab hb s2, zab hb c0⟩
   refine wp_region_held_drew (S := (fun w' => w'.cell? ⟨jp, 0, none⟩ = some (.int .u64 (p.v.a : Int)) /\ w'.cell? ⟨jp, 1, none⟩ = some (.int .u64 (p.v.b : Int)) /\ w'.cell? ⟨jp, 2, none⟩ = some (.bool p.odd) /\ w'.cell? ⟨jq, 0, none⟩ = some (.int .u64 (q.v.a : Int)) /\ w'.cell? ⟨jq, 1, none⟩ = some (.int .u64 (q.v.b : Int)) /\ w'.cell? ⟨jq, 2, none⟩ = some (.bool q.odd) /\ w'.cell? ⟨sb, 0, none⟩ = some (.int .u64 (Y : Int)) /\ w'.cell? ⟨sb, 1, none⟩ = some (.int .u64 0) /\ w'.cell? ⟨sb, 2, none⟩ = some (.bool (!(p.odd == q.odd))) /\ w'.cell? ⟨cb, 0, none⟩ = some (.string (natB (cellT n tt own))))) (by kernel_rfl) (by exact HKS.o _ ((Below.refl w14.heap.size w14).drew)) fun hH => ?_
   refine tkV 0 148 rfl rfl ?_; try simp only [tkS]
   refine tkV 1 149 rfl rfl ?_; try simp only [tkS]
   refine tkV 2 150 rfl rfl ?_; try simp only [tkS]
   refine tkV 3 151 rfl rfl ?_; try simp only [tkS]
   refine tkV 4 152 rfl rfl ?_; try simp only [tkS]
   refine tkR 5 (.cons rfl (fun K hK => ?_) .nil);go_simp;go_at_call 14;refine Calls.mono (HC0.o _ (HE14.o.later (Below.refl w14.heap.size w14).drew)) ?_;rintro e V21 ⟨rfl, hb21⟩;have hv21 : Below w14.heap.size w14 V21 := Below.trans (Below.refl w14.heap.size w14).drew (Below.mono hb21 (Below.size (Below.refl w14.heap.size w14).drew));clear hb21;go_wp2_with fail
   refine hK.out _ _ (by exact HKS.o _ hv21) fun hH => ?_
   clear hK K
   try simp only [tkS]
   refine tkV 6 154 rfl rfl ?_; try simp only [tkS]
   refine tkV 7 155 rfl rfl ?_; try simp only [tkS]
   refine tkV 8 156 rfl rfl ?_; try simp only [tkS]
   refine tkV 9 157 rfl rfl ?_; try simp only [tkS]
   refine tkV 10 158 rfl rfl ?_; try simp only [tkS]
   refine tkV 11 159 rfl rfl ?_; try simp only [tkS]
   refine tkV 12 160 rfl rfl ?_; try simp only [tkS]
   refine tkV 15 163 rfl rfl ?_; try simp only [tkS]
   refine tkR 13 (.cons rfl (fun K hK => ?_) .nil);go_simp;obtain ⟨t9, hj⟩ := nm V21.heap.size;have hv22 : Below w14.heap.size w14 (V21.alloc (.cells #[.int .u64 (p.v.a : Int), .int .u64 (p.v.b : Int), .bool p.odd, .int .u64 (p.v.a : Int), .int .u64 (p.v.b : Int), .bool p.odd, .int .u64 (q.v.a : Int), .int .u64 (q.v.b : Int), .bool q.odd] 42)) := Below.alloc hv21 (Below.size hv21) _;have qt9 : Blk (V21.alloc (.cells #[.int .u64 (p.v.a : Int), .int .u64 (p.v.b : Int), .bool p.odd, .int .u64 (p.v.a : Int), .int .u64 (p.v.b : Int), .bool p.odd, .int .u64 (q.v.a : Int), .int .u64 (q.v.b : Int), .bool q.odd] 42)) t9 #[.int .u64 (p.v.a : Int), .int .u64 (p.v.b : Int), .bool p.odd, .int .u64 (p.v.a : Int), .int .u64 (p.v.b : Int), .bool p.odd, .int .u64 (q.v.a : Int), .int .u64 (q.v.b : Int), .bool q.odd] 42 := Blk.new' _ hj.symm _ _
   refine hK.out _ _ (by exact HKS.o _ hv22) fun hH => ?_
   clear hK K
   try simp only [tkS]
   rw [<- hj];generalize V21.alloc (.cells #[.int .u64 (p.v.a : Int), .int .u64 (p.v.b : Int), .bool p.odd, .int .u64 (p.v.a : Int), .int .u64 (p.v.b : Int), .bool p.odd, .int .u64 (q.v.a : Int), .int .u64 (q.v.b : Int), .bool q.odd] 42) = V22 at *;clear hj;refine tkR 14 (.cons rfl (fun K hK => ?_) .nil);go_simp;go_at_call 14;refine Calls.mono (HC3.o _ _ (HE14.o.later hv22) qt9) ?_;rintro e V23 ⟨rfl, hb23⟩;have hv23 : Below w14.heap.size w14 V23 := Below.trans hv22 (Below.mono hb23 (Below.size hv22));clear hb23;go_wp2_with fail
   refine hK.out _ _ (by exact HKS.o _ hv23) fun hH => ?_
   clear hK K
   try simp only [tkS]
   refine tkR 16 (.cons rfl (fun K hK => ?_) .nil);go_simp;go_at_call 14;refine Calls.mono (HC0.o _ (HE14.o.later hv23)) ?_;rintro e V24 ⟨rfl, hb24⟩;have hv24 : Below w14.heap.size w14 V24 := Below.trans hv23 (Below.mono hb24 (Below.size hv23));clear hb24;go_wp2_with fail
   refine hK.out _ _ (by exact HKS.o _ hv24) fun hH => ?_
   clear hK K
   try simp only [tkS]
   refine tkV 17 165 rfl rfl ?_; try simp only [tkS]
   refine tkV 18 166 rfl rfl ?_; try simp only [tkS]
   refine tkV 19 167 rfl rfl ?_; try simp only [tkS]
   refine tkV 20 168 rfl rfl ?_; try simp only [tkS]
   refine tkV 21 169 rfl rfl ?_; try simp only [tkS]
   refine tkV 24 172 rfl rfl ?_; try simp only [tkS]
   refine tkR 22 (.cons rfl (fun K hK => ?_) .nil);go_simp;obtain ⟨t3, hj⟩ := nm V24.heap.size;have hv25 : Below w14.heap.size w14 (V24.alloc (.cells #[.int .u64 (Y : Int), .int .u64 0, .bool (!(p.odd == q.odd))] 42)) := Below.alloc hv24 (Below.size hv24) _;have qt3 : Blk (V24.alloc (.cells #[.int .u64 (Y : Int), .int .u64 0, .bool (!(p.odd == q.odd))] 42)) t3 #[.int .u64 (Y : Int), .int .u64 0, .bool (!(p.odd == q.odd))] 42 := Blk.new' _ hj.symm _ _
   refine hK.out _ _ (by exact HKS.o _ hv25) fun hH => ?_
   clear hK K
   try simp only [tkS]
   rw [<- hj];generalize V24.alloc (.cells #[.int .u64 (Y : Int), .int .u64 0, .bool (!(p.odd == q.odd))] 42) = V25 at *;clear hj;refine tkR 23 (.cons rfl (fun K hK => ?_) .nil);go_simp;go_at_call 14;refine Calls.mono (HCS.o _ _ (HE14.o.later hv25) qt3) ?_;rintro e V26 ⟨rfl, hb26⟩;have hv26 : Below w14.heap.size w14 V26 := Below.trans hv25 (Below.mono hb26 (Below.size hv25));clear hb26;go_wp2_with fail
   refine hK.out _ _ (by exact HKS.o _ hv26) fun hH => ?_
   clear hK K
   try simp only [tkS]
   refine tkR 25 (.cons rfl (fun K hK => ?_) .nil);go_simp;go_at_call 14;refine Calls.mono (HC0.o _ (HE14.o.later hv26)) ?_;rintro e V27 ⟨rfl, hb27⟩;have hv27 : Below w14.heap.size w14 V27 := Below.trans hv26 (Below.mono hb27 (Below.size hv26));clear hb27;go_wp2_with fail
   refine hK.out _ _ (by exact HKS.o _ hv27) fun hH => ?_
   clear hK K
   try simp only [tkS]
   refine tkV 26 174 rfl rfl ?_; try simp only [tkS]
   refine tkV 27 175 rfl rfl ?_; try simp only [tkS]
   refine tkV 28 176 rfl rfl ?_; try simp only [tkS]
   refine tkR 29 (.cons rfl (fun K hK => ?_) .nil);go_simp;go_at_call 10;refine Calls.mono (HWK.o _ (HB14.o.trans (Below.mono hv27 HB14.o.size))) ?_;rintro e V28 ⟨rfl, hb28⟩;have hv28 : Below w14.heap.size w14 V28 := Below.trans hv27 (Below.mono hb28 (Below.size hv27));clear hb28;go_wp2_with fail
   refine hK.out _ _ (by exact HKS.o _ hv28) fun hH => ?_
   clear hK K
   try simp only [tkS]
   refine tkV 30 178 rfl rfl ?_; try simp only [tkS]
   refine tkV 31 8 rfl rfl ?_; try simp only [tkS]
   refine wpAnyH_done (by kernel_rfl) ?_ _;go_wp2;go_ret;exact ⟨rfl, HB14.o.trans (hv28.mono HB14.o.size)⟩
end Go.Proofs.YtlleofjjdhfgcaaGreatDoor
