/- Part of the proofs that laws of censuslaw24 return true for every input, where the tables that the rows list are laid. Texts: CpH, CpR, CqA. -/
import Derived.Test.YtfmmhjphopikgaaGreatDoorYC18
import Derived.Test.YtfmmhjphopikgaaGreatDoorYC19
import Derived.Test.YtfmmhjphopikgaaGreatDoorYC8
import Derived.Test.YtfmmhjphopikgaaGreatDoorYC17
import Derived.Test.YtfmmhjphopikgaaGreatDoorYC1
set_option maxHeartbeats 8000000
set_option maxRecDepth 100000
set_option linter.unusedSimpArgs false
set_option linter.unusedVariables false
namespace Go.Proofs.YtfmmhjphopikgaaGreatDoor
open Go.RowKit Cen
def zqe (l : List Ce) (term : List Int) (w : World) (e : Ending) (w' : World) : Prop :=
 ∃ vt va, e = .returned (.agg #[vt, va]) /\ OwnI w' w.heap.size vt term /\ OwnI w' w.heap.size va (zcu (l.map fun e => e.i)) /\ Below w.heap.size w w'
theorem zls (a : Option Addr) (cap : Nat) (l : List Ce) (at' : Option Addr) (ct : Nat) (term : List Int) (w : World) (hl : l.length <= 1073741823) (ht : term.length <= 1073741823) (hc : CcCells w a l) (hx : IntCells w at' term) :
 Calls Tryz.prog 36 #[.slice a l.length cap, .slice at' term.length ct] w (zqe l term w) := by
 obtain ⟨w0, hw0⟩ : ∃ w0, w0 = w.alloc (.cells #[.slice none 0 0, .slice none 0 0] 44) := ⟨_, rfl⟩
 have hb0 : Below w.heap.size w w0 := by rw [hw0]; exact (Below.refl _ _).alloc (Nat.le_refl _) _
 have hs0 : w0.heap.size = w.heap.size + 1 := by rw [hw0]; simp
 have HX := lh (hc.keep hb0);have HT := lh (hx.keep hb0);have HB0 := lh hb0;have HS0 := lh hs0
 have HBK : Hid (w0.heap[w.heap.size]? = some (.cells #[.slice none 0 0, .slice none 0 0] 44 (0, 0))) := by show _ = _; rw [hw0]; exact Blk.new' _ rfl _ _
 have HM : Hid (l.length <= maxLen) := by show _ <= _; unfold maxLen; omega
 clear hc hx hb0 hs0;go_enter Tryz.func36, Tryz.ntmps36;go_wp2_with (at_make; go_loud (refine mk ze8 rfl _ _ rfl (w.heap.size + 1) .i64 .i64 _ _ l.length rfl rfl rfl rfl (by omega) HM.o (by simp) I1 0 rfl ?_));intro w1 ho1 hg1;rw [<- hw0] at hg1;have HG1 : Hid (Below w.heap.size w w1) := HB0.o.trans (Kp.toBelow (M := fun _ => False) (Kp.grown hg1 fun k h => by cases h) HB0.o.size fun k _ h => h)
 have HK1 : Hid (Below w0.heap.size w0 w1) := Kp.toBelow (M := fun _ => False) (Kp.grown hg1 fun k h => by cases h) (Nat.le_refl _) fun k _ h => h
 have HO1 := lh ho1;clear hw0 ho1 hg1;go_wp2_with fail
 go_loopw [12] (fun i wr => ∃ k : Nat, k <= l.length /\ i = .int .i64 k /\ ∃ M, OwnI wr (w.heap.size + 1) (.slice (some ⟨w.heap.size + 1, 0, none⟩) l.length l.length) M /\ l.length = M.length /\ M.take k = (l.take k).map (fun e => e.i) /\ Kp (fun y => y = w.heap.size + 1) w1 wr) (fun i _ => l.length - (intOf i).toNat)
 case atStart => exact ⟨0, Nat.zero_le _, rfl, _, HO1.o, by simp, rfl, Kp.refl _ _⟩
 obtain ⟨k, hk, rfl, M, hown, hml, htk, hkp⟩ := hrel;have hbr : Below w0.heap.size w0 wr := HK1.o.trans (hkp.toBelow HK1.o.size fun y hy h => by have := HS0.o; omega);have HBR := lh hbr;have HOW := lh hown;have HML := lh hml;have HTK := lh htk;have HKP := lh hkp;clear hbr hown hml htk hkp
 by_cases hlt : k < l.length
 ·obtain ⟨b, off, rfl, c0, c1, _⟩ := HX.o.keep HBR.o k hlt
  have hki : (k : Int) < (l.length : Int) := by omega
  have hkM : k < M.length := by rw [<- HML.o]; exact hlt
  have gl := HOW.o.lt.1;have f1 := HOW.o.fr HML.o k;have a0 := OwnI.c0 HOW.o HML.o hkM;have HPUT : Hid (OwnI (wr.setCell ⟨w.heap.size + 1, k, none⟩ (.int .i64 (gd l k).i)) (w.heap.size + 1) (.slice (some ⟨w.heap.size + 1, 0, none⟩) l.length l.length) (M.set k (gd l k).i)) := HOW.o.put1 HML.o zlm k hkM _ _ rfl
  have HTK2 : Hid ((M.set k (gd l k).i).take (k + 1) = (l.take (k + 1)).map fun e => e.i) := by
   show _ = _
   rw [List.take_succ_eq_append_getElem (by rw [List.length_set]; exact hkM), List.take_set_of_le (Nat.le_refl _), HTK.o, List.take_succ_eq_append_getElem hlt, List.map_append, zat hlt]
   simp
  have HKK : Hid (∀ c, Kp (fun y => y = w.heap.size + 1) w1 (wr.setCell ⟨w.heap.size + 1, k, none⟩ c)) := fun c => Kp.trans (M := fun y => y = w.heap.size + 1) HKP.o (Kp.setCell (M := fun y => y = w.heap.size + 1) _ _ _ rfl)
  clear c0;go_wp2;go_roundw
  case rel => exact ⟨k + 1, by omega, by go_num, _, HPUT.o, by rw [List.length_set]; exact HML.o, HTK2.o, HKK.o _⟩
  case measure => simp [intOf]; omega
 have hke : k = l.length := by omega
 subst hke
 have hM : M = l.map fun e => e.i := by
  have h1 := HTK.o
  rwa [List.take_length, List.take_of_length_le (by rw [<- HML.o]; exact Nat.le_refl _)] at h1
 have hlen := HML.o;have HSO := lh (zun (w.heap.size + 1) (.slice (some ⟨w.heap.size + 1, 0, none⟩) l.length l.length) M wr (zaq.2 HOW.o) (by omega));rw [hM] at HSO;clear hM hlen;go_wp2_with fail;refine HSO.o.mono ?_;rintro e w5 ⟨rfl, hown5, hg5⟩;have hb5 : Below w0.heap.size w0 w5 := HBR.o.trans (Kp.toBelow (M := fun y => y = w.heap.size + 1) (Kp.grown hg5 fun k h => by cases h; rfl) HBR.o.size fun y hy h => by have := HS0.o; omega);have HCL := lh (zav at' ct term w5 (by omega) (HT.o.keep hb5));have HB5 := lh hb5;have HO5 := lh hown5;clear hb5 hown5 hg5;go_wp2_with fail;refine HCL.o.mono ?_;rintro e w6 ⟨v6, rfl, hown6, hb6⟩
 have hb6' : Below w0.heap.size w0 w6 := HB5.o.trans (hb6.mono HB5.o.size)
 have hbk : Blk w6 w.heap.size #[.slice none 0 0, .slice none 0 0] 44 := by
  show w6.heap[w.heap.size]? = _
  rw [hb6'.block _ (by have := HS0.o; omega)]; exact HBK.o
 have k0 := hbk.cell 0;have k1 := hbk.cell 1;have g0 := hbk.fr 0;have g1 := hbk.fr 1;have hlt6 := hbk.lt;have HSET := lh (fun u v => (hbk.set 0 u).set 1 v);clear hbk;have hown6 := zaq.1 hown6;obtain ⟨av, cv, rfl⟩ := hown6.sliced;have HO6 := lh hown6;have HB6 := lh hb6';have HO56 := lh ((zaq.1 HO5.o).later hb6);clear hown6 hb6 hb6';go_wp2;have r0 := (HSET.o (.slice av term.length cv) (.slice (some ⟨w.heap.size + 1, 0, none⟩) l.length l.length)).cell 0;have r1 := (HSET.o (.slice av term.length cv) (.slice (some ⟨w.heap.size + 1, 0, none⟩) l.length l.length)).cell 1;simp only [Array.setIfInBounds] at r0 r1
 have hkk : ∀ u v, Kp (fun y => y = w.heap.size) w6 ((w6.setCell ⟨w.heap.size, 0, none⟩ u).setCell ⟨w.heap.size, 1, none⟩ v) := fun u v => Kp.trans (M := fun y => y = w.heap.size) (Kp.setCell (M := fun y => y = w.heap.size) _ _ _ rfl) (Kp.setCell (M := fun y => y = w.heap.size) _ _ _ rfl)
 refine bodyPost_ret (v := .agg #[.slice av term.length cv, .slice (some ⟨w.heap.size + 1, 0, none⟩) l.length l.length]) ?_ rfl ⟨_, _, rfl, ?_, ?_, ?_⟩
 ·simp [results, Tryz.func36, go_sem, r0, r1]
 ·refine (HO6.o.kept (hkk _ _) fun g hg e => ?_).lower (Nat.le_trans HB0.o.size HB5.o.size);have h1 := (World.ownsRow.lt HO6.o g hg).1;have h2 := HB5.o.size;have h3 := HS0.o;omega
 ·refine (HO56.o.kept (hkk _ _) fun g hg e => ?_).lower (Nat.le_succ _);have h1 := (World.ownsRow.lt HO56.o g hg).1;omega
 exact (((HB0.o.trans (HB6.o.mono HB0.o.size))).setCell (Nat.le_refl _) _).setCell (Nat.le_refl _) _
structure ClsIn (g : Cfg) (F : Nat -> Prop) (w : World) (a : Option Addr) (l : List Ce) (term : Cl) : Prop where
 cc : CcCells w a l
 aF : ∀ q, a = some q -> ¬ F q.block /\ q.block < w.heap.size
 eF : ∀ e ∈ l, ∀ q, e.a = some q -> ¬ F q.block /\ q.block < w.heap.size
 len : l.length <= 4096
 xs : ∀ e ∈ l, e.xs.length <= 256 /\ litB e.xs /\ 0 ∉ e.xs
 left : ∀ e ∈ l, Left1 g.n g.t term e.i e.xs
structure TrmIn (F : Nat -> Prop) (w : World) (a : Option Addr) (term : Cl) : Prop where
 ic : IntCells w a term
 aF : ∀ q, a = some q -> ¬ F q.block /\ q.block < w.heap.size
 len : term.length <= 128
theorem ClsIn.kept {g : Cfg} {F F' : Nat -> Prop} {w w' : World} {a : Option Addr} {l : List Ce} {term : Cl} (h : ClsIn g F w a l term) (hk : Kp F w w') (hs : ∀ k, F' k -> F k \/ w.heap.size <= k) : ClsIn g F' w' a l term :=
 ⟨fun i hi => by
   obtain ⟨b, off, e, c0, c1, c2⟩ := h.cc i hi;have hb := (h.aF _ e).1
   exact ⟨b, off, e, hk.cell c0 hb, hk.cell c1 hb, c2.kept hk fun p hp => (h.eF _ (by rw [zat hi]; exact List.getElem_mem hi) p hp).1⟩,
  fun q hq => ⟨fun hf => (hs _ hf).elim (h.aF q hq).1 fun h1 => by have := (h.aF q hq).2; omega, Nat.lt_of_lt_of_le (h.aF q hq).2 hk.size⟩,
  fun e he q hq => ⟨fun hf => (hs _ hf).elim (h.eF e he q hq).1 fun h1 => by have := (h.eF e he q hq).2; omega, Nat.lt_of_lt_of_le (h.eF e he q hq).2 hk.size⟩, h.len, h.xs, h.left⟩
theorem TrmIn.kept {F F' : Nat -> Prop} {w w' : World} {a : Option Addr} {term : Cl} (h : TrmIn F w a term) (hk : Kp F w w') (hs : ∀ k, F' k -> F k \/ w.heap.size <= k) : TrmIn F' w' a term :=
 ⟨h.ic.kept hk fun p hp => (h.aF p hp).1,
  fun q hq => ⟨fun hf => (hs _ hf).elim (h.aF q hq).1 fun h1 => by have := (h.aF q hq).2; omega, Nat.lt_of_lt_of_le (h.aF q hq).2 hk.size⟩, h.len⟩
def zn7 (g : Cfg) (F : Nat -> Prop) (p : Nat) (st' : List Nc) (nd : Nd) (w : World) (r : Ending) (w' : World) : Prop :=
 ∃ v F', r = .returned (.agg #[.int .i64 nd.kind, .int .i64 nd.lit, v]) /\ Aft g F p st' w w' F' /\ OwnI w' w.heap.size v nd.ins /\ ∀ k, v.ownBlock = some k -> ¬ F' k
theorem zkb (g : Cfg) (F : Nat -> Prop) (p : Nat) (L : List Me) (a : Option Addr) (cap : Nat) (l : List Ce) (at' : Option Addr) (ct : Nat) (term : Cl) (mf : FuncId) (cs : Array Value) (mk : List Nc -> List Nc × Nd) (w : World)
 (h : CC g F w p L) (hc : ClsIn g F w a l term) (hne : l ≠ []) (ht : TrmIn F w at' term) (htab : Tab w) (hB : g.B <= w.heap.size) (hcf : zb0 mf)
 (hmk : (g.cache = true -> (L.map fun e => e.c).findIdx? (zbm (l.map fun e => e.xs)) = none) -> ∀ W, Below w.heap.size w W -> Calls Tryz.prog mf cs W (zn7 g F p (mk (L.map fun e => e.c)).1 (mk (L.map fun e => e.c)).2 W))
 (hk2 : (mk (L.map fun e => e.c)).2.kind ≠ 2) (hnt : g.cache = true -> (L.map fun e => e.c).findIdx? (zbm (l.map fun e => e.xs)) = none -> (mk (L.map fun e => e.c)).1.findIdx? (zbm (l.map fun e => e.xs)) = none)
 (hl : (zam g.cache (L.map fun e => e.c) (l.map fun e => e.xs) term mk).1.length <= 65536) :
 Calls Tryz.prog 75 #[.pointer (some ⟨p, 0, none⟩), .slice a l.length cap, .slice at' term.length ct, .func (.func mf) #[] cs] w
  fun r w' => r = .returned (.int .i64 (zam g.cache (L.map fun e => e.c) (l.map fun e => e.xs) term mk).2) /\ ∃ F', Aft g F p (zam g.cache (L.map fun e => e.c) (l.map fun e => e.xs) term mk).1 w w' F' := by
 have HKEY := lh (zjg a cap l w hc.len hne hc.cc (fun e he => ⟨(hc.xs e he).1, (hc.xs e he).2.1⟩) htab)
 have hkl : (keyC (l.map fun e => e.xs)).length <= 22024192 := by
  have h1 := zgj l fun e he => ⟨(hc.xs e he).1, (hc.xs e he).2.1⟩
  have h2 := hc.len
  have : keyC (l.map fun e => e.xs) = l.flatMap fun e => zb4 e.xs := by simp [keyC, List.flatMap_map]
  rw [this]; omega
 have HKF : Hid (keyOf Tryz.prog 9 (.string ⟨(keyC (l.map fun e => e.xs)).toArray⟩) = some (.string (keyC (l.map fun e => e.xs)))) := by
  have := Go.WideMaps.keyOf_string_mk (P := Tryz.prog) Tryz.underlying9 (s := ⟨(keyC (l.map fun e => e.xs)).toArray⟩) (by show (keyC (l.map fun e => e.xs)).toArray.size <= maxLen; unfold maxLen; simp; omega)
  show keyOf _ _ _ = _
  simpa using this
 have h0 : ∀ c ∈ (l.map fun e => e.xs), 0 ∉ c := fun c hc' => by
  obtain ⟨e, he, rfl⟩ := List.mem_map.1 hc';exact (hc.xs e he).2.2
 have HCLO : Hid (ClOf g.n g.t (l.map fun e => e.xs) term (zcu (l.map fun e => e.i))) := ⟨l.map fun e => (e.i, e.xs), by simp [Function.comp_def], by simp [Function.comp_def], fun e he => by
  obtain ⟨e', he', rfl⟩ := List.mem_map.1 he
  exact hc.left e' he'⟩
 obtain ⟨m, d, hm, hcs, hdok⟩ := h
 have HCC : Hid (CC g F w p L) := ⟨m, d, hm, hcs, hdok⟩
 obtain ⟨lb, db, nv, cv, hAt, hF⟩ := hcs;have HAT := lh hAt;have HDOK := lh hdok;have HC := lh hc;have HT := lh ht;have HMK := lh hmk;have HH0 := lh h0;have HNT := lh hnt;have HL := lh hl;have hle := hc.len;generalize hst : (L.map fun e => e.c) = st at *;generalize hxs : (l.map fun e => e.xs) = xs at *;have HST := lh hst;have hcf' : ∀ (args : Array Value) (w : World), (callFunc mf args).run Tryz.prog w = .ok (.enter mf args) w := hcf
 have hcase : (∃ i : Nat, d (.string (keyC xs)) = some (.int .i64 (i : Int)) /\ g.cache = true /\ zam g.cache st xs term mk = (st, i)) \/
  (∃ b, (d (.string (keyC xs))).isSome = b /\ (b = true -> g.cache = false) /\ zam g.cache st xs term mk = ((mk st).1 ++ [⟨(mk st).2, some (xs, term)⟩], (mk st).1.length) /\ (g.cache = true -> st.findIdx? (zbm xs) = none)) := by
  cases hca : g.cache with
  | true =>
    have h1 := hdok.2 hca xs h0
    cases hfi : st.findIdx? (zbm xs) with
    | some j =>
      rw [hfi] at h1;exact .inl ⟨j, h1, rfl, by unfold zam; rw [if_pos rfl, hfi]⟩
    | none =>
      rw [hfi] at h1;exact .inr ⟨false, by rw [h1]; rfl, fun h => by simp at h, by unfold zam; rw [if_pos rfl, hfi], fun _ => rfl⟩
  | false => exact .inr ⟨_, rfl, fun _ => rfl, by unfold zam; rw [if_neg (by simp)], fun h => by simp at h⟩
 rcases hcase with ⟨i, hdk, hca, hP⟩ | ⟨b, hb, hbc, hP, hfn⟩
 ·have HDK := lh hdk;have HP := lh hP;clear hdk hP hst hxs hkl hc h0 ht hmk hnt hl hAt hdok;go_enter Tryz.func75, Tryz.ntmps75;go_wp2_with fail;refine HKEY.o.mono ?_;rintro e w1 ⟨rfl, hb1⟩;have hblk := HAT.o.blk.later hb1;have k3 : w1.cell? ⟨p, 3, none⟩ = some (.bool g.cache) := hblk.cell 3;have k7 : w1.cell? ⟨p, 7, none⟩ = some (.map (some db)) := hblk.cell 7;rw [hca] at k3;have HB1 := lh hb1;have HMP := lh (HAT.o.dm.later hb1);clear hblk hb1;go_wp2_with (at_lookup; refine zep rfl _ _ rfl zil Tryz.underlying71 Tryz.underlying3 zf9 rfl HMP.o _ _ rfl HKF.o ?_; rw [HDK.o]);go_ret;rw [HP.o];exact ⟨rfl, F, by rw [<- HST.o]; exact Aft.refl HCC.o HB1.o⟩
 have HP := lh hP;have HFN := lh hfn;clear hP hfn hst hxs hkl hc h0 ht hmk hnt hl hAt hdok;have HBS := lh hb;go_enter Tryz.func75, Tryz.ntmps75;go_wp2_with fail;refine HKEY.o.mono ?_;rintro e w1 ⟨rfl, hb1⟩;have hblk := HAT.o.blk.later hb1;have k3 : w1.cell? ⟨p, 3, none⟩ = some (.bool g.cache) := hblk.cell 3;have k7 : w1.cell? ⟨p, 7, none⟩ = some (.map (some db)) := hblk.cell 7;have HB1 := lh hb1;have HMP := lh (HAT.o.dm.later hb1);clear hblk hb1 hb
 cases b
 case' true => rw [hbc rfl] at k3
 all_goals
  clear hbc;go_wp2_with (at_lookup; refine zep rfl _ _ rfl zil Tryz.underlying71 Tryz.underlying3 zf9 rfl HMP.o _ _ rfl HKF.o ?_; rw [HBS.o]);refine (HMK.o HFN.o _ HB1.o).mono ?_;rintro e w2 ⟨v, F', rfl, ⟨⟨L', hL', m', d', hm', hcs', hdok'⟩, hk2', hs2⟩, hv, hvF⟩;have hcl := (HC.o.kept (Kp.below HB1.o) (fun k h => .inl h)).kept hk2' hs2;have htr := (HT.o.kept (Kp.below HB1.o) (fun k h => .inl h)).kept hk2' hs2;have HCM := lh (zls a cap l at' ct term w2 (by omega) (by have := htr.len; omega) hcl.cc htr.ic);have HK2 := lh hk2';have HS2 := lh hs2;have HV := lh hv;have HVF := lh hvF;have HLE := lh hL'
  have HCS := lh hcs';have HDK2 := lh hdok';have HM' := lh hm';clear hcl htr hk2' hs2 hv hvF hL' hcs' hdok' hm';go_wp2_with fail;refine HCM.o.mono ?_;rintro e w3 ⟨vt, va, rfl, hvt, hva, hb3⟩;have hBw : g.B <= w2.heap.size := Nat.le_trans hB (Nat.le_trans HB1.o.size HK2.o.size)
  have hFlt : ∀ k, F' k -> k < w2.heap.size := fun k hk => (HCS.o.low hk).2
  have HME : Hid (MeAt g F' w3 ⟨⟨(mk st).2, some (xs, term)⟩, v, vt, va, term, zcu (l.map fun e => e.i)⟩) :=
   ⟨(HV.o.later hb3).lower (Nat.le_trans hB HB1.o.size), HVF.o, hvt.lower hBw, fun k hk hf => by have h1 := (hvt.blk hk).1; have h2 := hFlt k hf; omega, hva.lower hBw, fun k hk hf => by have h1 := (hva.blk hk).1; have h2 := hFlt k hf; omega, rfl, HCLO.o⟩
  have hll : L'.length < 65536 := by
   have h1 := HL.o;rw [HP.o] at h1;have h2 := congrArg List.length HLE.o;simp at h1 h2;omega
  have HADD := lh (zhq g F' p L' m' _ d' ⟨⟨(mk st).2, some (xs, term)⟩, v, vt, va, term, zcu (l.map fun e => e.i)⟩ w3 (HCS.o.later hb3) HME.o hll (Nat.le_trans hBw hb3.size));have HB3 := lh hb3;have HLL := lh hll
  have HVB : Hid (∀ k, (v.ownBlock = some k \/ vt.ownBlock = some k \/ va.ownBlock = some k) -> w.heap.size <= k) := by
   show ∀ k, _
   intro k hk;have h1 := HB1.o.size;have h2 := HK2.o.size
   rcases hk with hk | hk | hk
   ·have := (HV.o.blk hk).1; omega
   ·have := (hvt.blk hk).1; omega
   have := (hva.blk hk).1; omega
  clear hvt hva hb3 hBw hFlt hll;go_wp2_with fail;refine HADD.o.mono ?_;rintro e w4 ⟨rfl, F'', ⟨lb', db', nv', cv', hAt', hF'⟩, hk4, hs4⟩;have q7 : w4.cell? ⟨p, 7, none⟩ = some (.map (some db')) := hAt'.blk.cell 7;have HAT' := lh hAt';have HK4 := lh hk4;have HS4 := lh hs4;have HMQ := lh hAt'.dm;have HPL : Hid (plainElem (H := Unit) Tryz.prog 3 (.int .i64 (L'.length : Int)) = some (.lit (.int .i64 (L'.length : Int)), [])) := plainElem_int Tryz.underlying3 (WalkArith.wf_i64 (by have := HLL.o; omega))
  have HNB : Hid (m' <= 1073741824) := by show _ <= _; have h1 := HM'.out; have h2 := HLL.o; omega
  clear hAt' hk4 hs4;go_wp2_with (at_mapUpdate; refine zmy rfl _ _ _ rfl zil Tryz.underlying71 rfl HMQ.o HNB.o (.string ⟨(keyC xs).toArray⟩) (.int .i64 (L'.length : Int)) (.string (keyC xs)) (.int .i64 (L'.length : Int)) rfl rfl HKF.o trivial HPL.o ?_);intro w5 hm5 hg5;obtain ⟨z1, z2⟩ := HAT'.out.dones hm5 hg5;have Z1 := lh z1;have Z2 := lh z2;clear hm5 hg5 z1 z2;go_wp2;go_ret;rw [HP.o]
  have hlen : (mk st).1.length = L'.length := by rw [<- HLE.o]; simp
  refine ⟨by rw [hlen]; rfl, F'', ?_⟩
  have hsF : ∀ k, F' k -> F k \/ w.heap.size <= k := fun k hk => (HS2.o k hk).imp id fun h => Nat.le_trans HB1.o.size h
  have hk03 : Kp F w w3 := ((Kp.below HB1.o).trans HK2.o).trans (Kp.below HB3.o)
  have hs04 : ∀ k, F'' k -> F k \/ w.heap.size <= k := fun k hk => (HS4.o k hk).elim (hsF k) fun h => .inr (h.elim (fun h => Nat.le_trans hk03.size h) fun ⟨y, hy, h⟩ => by
   simp only [List.mem_singleton] at hy; subst hy; exact HVB.o k h)
  have hk05 : Kp F w w5 := (hk03.trans' HK4.o hsF).trans' (Z2.o.mono fun k _ hk => (hF' k).2 (.inl hk)) hs04;have hd := HDK2.o;rw [HLE.o] at hd
  have hput := zv4 (c := (⟨(mk st).2, some (xs, term)⟩ : Nc)) (l := xs) (term := term) hd rfl HH0.o fun hc => HNT.o hc (HFN.o hc)
  rw [hlen] at hput;refine ⟨⟨L' ++ [⟨⟨(mk st).2, some (xs, term)⟩, v, vt, va, term, zcu (l.map fun e => e.i)⟩], by rw [List.map_append, HLE.o]; rfl, m' + 1, _, by have := HM'.out; simp; omega, ⟨lb', db', nv', cv', ?_, hF'⟩, by rw [List.map_append, HLE.o]; exact hput⟩, hk05, hs04⟩
  have e : lmap ((L' ++ [(⟨⟨(mk st).2, some (xs, term)⟩, v, vt, va, term, zcu (l.map fun e => e.i)⟩ : Me)]).map fun (e : Me) => e.c) = lmap (L'.map fun e => e.c) := by
   rw [List.map_append]; exact zmn hk2
  rw [e]; exact Z1.o
def OwnO (F : Nat -> Prop) (w : World) (base : Nat) (v : Value) (l : List Int) : Prop := OwnI w base v l /\ ∀ k, v.ownBlock = some k -> ¬ F k
theorem OwnO.kept {F F' : Nat -> Prop} {w w' : World} {base : Nat} {v : Value} {l : List Int} (h : OwnO F w base v l) (hk : Kp F w w') (hs : ∀ k, F' k -> F k \/ w.heap.size <= k) : OwnO F' w' base v l :=
 ⟨h.1.kept hk fun g hg hf => h.2 g hg hf, fun k hv hf => (hs k hf).elim (h.2 k hv) fun h1 => by have := (h.1.blk hv).2; omega⟩
theorem OwnO.aft {g : Cfg} {F F' : Nat -> Prop} {p : Nat} {st : List Nc} {w w' : World} {base : Nat} {v : Value} {l : List Int} (h : OwnO F w base v l) (ha : Aft g F p st w w' F') : OwnO F' w' base v l := h.kept ha.2.1 ha.2.2
theorem OwnO.later {F : Nat -> Prop} {w w' : World} {base : Nat} {v : Value} {l : List Int} (h : OwnO F w base v l) (hb : Below w.heap.size w w') : OwnO F w' base v l := ⟨h.1.later hb, h.2⟩
theorem OwnO.new {F : Nat -> Prop} {w : World} {base : Nat} (x : Int) (hF : ∀ k, F k -> k < w.heap.size) (hb : base <= w.heap.size) : OwnO F (w.alloc (.cells #[.int .i64 x] 3)) base (.slice (some ⟨w.heap.size, 0, none⟩) 1 1) [x] :=
 ⟨World.ownsRow_lit w #[.int .i64 x] 1 hb (by decide) rfl, fun k hk hf => by
   simp [Value.ownBlock] at hk
   have := hF k hf
   omega⟩
theorem OwnO.trm {F : Nat -> Prop} {w : World} {base n c : Nat} {a : Option Addr} {l : List Int} (h : OwnO F w base (.slice a n c) l) (hl : l.length <= 128) : n = l.length /\ TrmIn F w a l := by
 rcases h.1.shape with ⟨h1, h2⟩ | ⟨g, cap, h1, h2, h3⟩
 ·simp only [Value.slice.injEq] at h1;obtain ⟨rfl, rfl, rfl⟩ := h1;subst h2;exact ⟨rfl, IntCells.nil _ _, fun q hq => by simp at hq, by simp⟩
 simp only [Value.slice.injEq] at h1;obtain ⟨rfl, rfl, rfl⟩ := h1
 exact ⟨rfl, h.1.intCells rfl, fun q hq => by
  simp only [Option.some.injEq] at hq;subst hq
  exact ⟨h.2 g rfl, h3⟩, hl⟩
theorem IntCells.kept0 {M : Nat -> Prop} {w w' : World} {a : Option Addr} {xs : List Int} (h : IntCells w a xs) (hb : Kp M w w') (hm : ∀ p, a = some p -> xs ≠ [] -> ¬ M p.block) : IntCells w' a xs :=
 fun i hi => let ⟨b, off, e, hc⟩ := h i hi; ⟨b, off, e, hb.cell hc (hm ⟨b, off, none⟩ e fun hn => by rw [hn] at hi; simp at hi)⟩
structure Fx (g : Cfg) (ch : List Cl -> Int) : Prop where
 n : g.n <= 128
 gb : 0 < g.B
 ch : Chooses ch g.n
 ob : ∀ q, g.oa = some q -> g.order ≠ [] -> q.block < g.B
 od : ∀ v ∈ g.order, 1 <= v /\ v <= g.n
 ol : g.order.length <= 1073741824
structure Env (g : Cfg) (F : Nat -> Prop) (w : World) (a : Option Addr) (l : List Ce) (at' : Option Addr) (term : Cl) : Prop where
 ci : ClsIn g F w a l term
 ti : TrmIn F w at' term
 good : gL g.n (l.map fun e => e.xs)
 rt : RT g.n g.t (l.map fun e => e.xs) term
theorem Env.kept {g : Cfg} {F F' : Nat -> Prop} {w w' : World} {a : Option Addr} {l : List Ce} {at' : Option Addr} {term : Cl} (h : Env g F w a l at' term) (hk : Kp F w w') (hs : ∀ k, F' k -> F k \/ w.heap.size <= k) : Env g F' w' a l at' term :=
 ⟨h.ci.kept hk hs, h.ti.kept hk hs, h.good, h.rt⟩
theorem Env.aft {g : Cfg} {F F' : Nat -> Prop} {p : Nat} {st : List Nc} {w w' : World} {a : Option Addr} {l : List Ce} {at' : Option Addr} {term : Cl} (h : Env g F w a l at' term) (ha : Aft g F p st w w' F') : Env g F' w' a l at' term := h.kept ha.2.1 ha.2.2
theorem Env.later {g : Cfg} {F : Nat -> Prop} {w w' : World} {a : Option Addr} {l : List Ce} {at' : Option Addr} {term : Cl} (h : Env g F w a l at' term) (hb : Below w.heap.size w w') : Env g F w' a l at' term := h.kept (Kp.below hb) fun _ h => .inl h
structure Cmp (g : Cfg) (ch : List Cl -> Int) (F : Nat -> Prop) (w : World) (p : Nat) (L : List Me) : Prop where
 cc : CC g F w p L
 inv : InvR ch (RT g.n g.t) g.cache g.n (L.map fun e => e.c)
 tab : Tab w
 lo : g.B <= w.heap.size
 ord : IntCells w g.oa g.order
theorem Tab.kp {F : Nat -> Prop} {w w' : World} (h : Tab w) (hk : Kp F w w') (hF : ∀ k, F k -> 0 < k) : Tab w' := by
 unfold Tab Lib.TabIs World.var? at *;rw [show Tryz.prog.globalNamed "internal/strconv.uint64pow10" = some 0 from by kernel_rfl] at *;simp only [Option.bind_some] at *
 rcases Nat.lt_or_ge 0 w.heap.size with h' | h'
 ·rw [hk.block _ h' fun hf => by have := hF _ hf; omega]; exact h
 rw [Array.getElem?_eq_none h'] at h; simp at h
theorem Cmp.aft {g : Cfg} {ch : List Cl -> Int} {F F' : Nat -> Prop} {w w' : World} {p : Nat} {L : List Me} {st : List Nc} (hx : Fx g ch) (h : Cmp g ch F w p L) (ha : Aft g F p st w w' F') (hi : InvR ch (RT g.n g.t) g.cache g.n st) :
 ∃ L' : List Me, (L'.map fun e => e.c) = st /\ Cmp g ch F' w' p L' := by
 obtain ⟨⟨L', h1, h2⟩, hk, hs⟩ := ha;exact ⟨L', h1, h2, by rw [h1]; exact hi, h.tab.kp hk fun k hk => Nat.lt_of_lt_of_le hx.gb (h.cc.low hk).1, Nat.le_trans h.lo hk.size, h.ord.kept0 hk fun q hq hne hf => by have h1 := hx.ob q hq hne; have h2 := (h.cc.low hf).1; omega⟩
theorem Cmp.later {g : Cfg} {ch : List Cl -> Int} {F : Nat -> Prop} {w w' : World} {p : Nat} {L : List Me} (h : Cmp g ch F w p L) (hb : Below w.heap.size w w') : Cmp g ch F w' p L :=
 ⟨h.cc.later hb, h.inv, h.tab.keep hb, Nat.le_trans h.lo hb.size, h.ord.keep hb⟩
def zsm (g : Cfg) (F : Nat -> Prop) (p : Nat) (r : List Nc × List Nat) (w : World) (e : Ending) (w' : World) : Prop :=
 ∃ v F', e = .returned v /\ Aft g F p r.1 w w' F' /\ OwnO F' w' w.heap.size v (zag r.2)
def FitC (g : Cfg) (ch : List Cl -> Int) (f : Nat) : Prop :=
 ∀ (F : Nat -> Prop) (p : Nat) (L : List Me) (a : Option Addr) (cap : Nat) (l : List Ce) (at' : Option Addr) (ct : Nat) (term : Cl) (w : World), Cmp g ch F w p L -> Env g F w a l at' term -> card (zaf (l.map fun e => e.xs)) < f ->
  (fitF ch g.cache f (L.map fun e => e.c) (l.map fun e => e.xs) term).1.length <= 65536 ->
  Calls Tryz.prog 35 #[.pointer (some ⟨p, 0, none⟩), .slice a l.length cap, .slice at' term.length ct] w (zsm g F p (fitF ch g.cache f (L.map fun e => e.c) (l.map fun e => e.xs) term) w)
end Go.Proofs.YtfmmhjphopikgaaGreatDoor
