/- Part of the proofs that laws return true for every input, where the tables that the rows list are laid. Texts: CpR, CqA, CqB. -/
import Derived.Test.YtflhbcnhaeijbaaGreatDoorYH18
import Derived.Test.YtflhbcnhaeijbaaGreatDoorYH7
import Derived.Test.YtflhbcnhaeijbaaGreatDoorYH16
import Derived.Test.YtflhbcnhaeijbaaGreatDoorYH9
import Derived.Test.YtflhbcnhaeijbaaGreatDoorYH1
set_option maxHeartbeats 8000000
set_option maxRecDepth 100000
set_option linter.unusedSimpArgs false
set_option linter.unusedVariables false
namespace Go.Proofs.YtflhbcnhaeijbaaGreatDoor
open Go.RowKit Cen
structure ClsIn (g : Cfg) (F : Nat -> Prop) (w : World) (a : Option Addr) (l : List Ce) (term : Cl) : Prop where
 cc : CcCells w a l
 aF : ∀ q, a = some q -> ¬ F q.block /\ q.block < w.heap.size
 eF : ∀ e ∈ l, ∀ q, e.a = some q -> ¬ F q.block /\ q.block < w.heap.size
 len : l.length <= 4096
 xs : ∀ e ∈ l, e.xs.length <= 256 /\ litB e.xs /\ 0 ∉ e.xs
 left : ∀ e ∈ l, Left1 g.n g.t term e.i e.xs
structure TrmIn (F : Nat -> Prop) (w : World) (a : Option Addr) (term : Cl) : Prop where
 ic : IntCells w a term
 aF : ∀ q, a = some q -> ¬ F q.block /\ q.block < w.heap.size
 len : term.length <= 128
theorem ClsIn.kept {g : Cfg} {F F' : Nat -> Prop} {w w' : World} {a : Option Addr} {l : List Ce} {term : Cl} (h : ClsIn g F w a l term) (hk : Kp F w w') (hs : ∀ k, F' k -> F k \/ w.heap.size <= k) : ClsIn g F' w' a l term :=
 ⟨fun i hi => by
   obtain ⟨b, off, e, c0, c1, c2⟩ := h.cc i hi;have hb := (h.aF _ e).1
   exact ⟨b, off, e, hk.cell c0 hb, hk.cell c1 hb, c2.kept hk fun p hp => (h.eF _ (by rw [zat hi]; exact List.getElem_mem hi) p hp).1⟩,
  fun q hq => ⟨fun hf => (hs _ hf).elim (h.aF q hq).1 fun h1 => by have := (h.aF q hq).2; omega, Nat.lt_of_lt_of_le (h.aF q hq).2 hk.size⟩,
  fun e he q hq => ⟨fun hf => (hs _ hf).elim (h.eF e he q hq).1 fun h1 => by have := (h.eF e he q hq).2; omega, Nat.lt_of_lt_of_le (h.eF e he q hq).2 hk.size⟩, h.len, h.xs, h.left⟩
theorem TrmIn.kept {F F' : Nat -> Prop} {w w' : World} {a : Option Addr} {term : Cl} (h : TrmIn F w a term) (hk : Kp F w w') (hs : ∀ k, F' k -> F k \/ w.heap.size <= k) : TrmIn F' w' a term :=
 ⟨h.ic.kept hk fun p hp => (h.aF p hp).1,
  fun q hq => ⟨fun hf => (hs _ hf).elim (h.aF q hq).1 fun h1 => by have := (h.aF q hq).2; omega, Nat.lt_of_lt_of_le (h.aF q hq).2 hk.size⟩, h.len⟩
def zn7 (g : Cfg) (F : Nat -> Prop) (p : Nat) (st' : List Nc) (nd : Nd) (w : World) (r : Ending) (w' : World) : Prop :=
 ∃ v F', r = .returned (.agg #[.int .i64 nd.kind, .int .i64 nd.lit, v]) /\ Aft g F p st' w w' F' /\ OwnI w' w.heap.size v nd.ins /\ ∀ k, v.ownBlock = some k -> ¬ F' k
theorem zkb (g : Cfg) (F : Nat -> Prop) (p : Nat) (L : List Me) (a : Option Addr) (cap : Nat) (l : List Ce) (at' : Option Addr) (ct : Nat) (term : Cl) (mf : FuncId) (cs : Array Value) (mk : List Nc -> List Nc × Nd) (w : World)
 (h : CC g F w p L) (hc : ClsIn g F w a l term) (hne : l ≠ []) (ht : TrmIn F w at' term) (htab : Tab w) (hB : g.B <= w.heap.size) (hcf : zb0 mf)
 (hmk : (g.cache = true -> (L.map fun e => e.c).findIdx? (zbm (l.map fun e => e.xs)) = none) -> ∀ W, Below w.heap.size w W -> Calls Tryz.prog mf cs W (zn7 g F p (mk (L.map fun e => e.c)).1 (mk (L.map fun e => e.c)).2 W))
 (hk2 : (mk (L.map fun e => e.c)).2.kind ≠ 2) (hnt : g.cache = true -> (L.map fun e => e.c).findIdx? (zbm (l.map fun e => e.xs)) = none -> (mk (L.map fun e => e.c)).1.findIdx? (zbm (l.map fun e => e.xs)) = none)
 (hl : (zam g.cache (L.map fun e => e.c) (l.map fun e => e.xs) term mk).1.length <= 65536) :
 Calls Tryz.prog 69 #[.pointer (some ⟨p, 0, none⟩), .slice a l.length cap, .slice at' term.length ct, .func (.func mf) #[] cs] w
  fun r w' => r = .returned (.int .i64 (zam g.cache (L.map fun e => e.c) (l.map fun e => e.xs) term mk).2) /\ ∃ F', Aft g F p (zam g.cache (L.map fun e => e.c) (l.map fun e => e.xs) term mk).1 w w' F' := by
 have HKEY := lh (zjg a cap l w hc.len hne hc.cc (fun e he => ⟨(hc.xs e he).1, (hc.xs e he).2.1⟩) htab)
 have hkl : (keyC (l.map fun e => e.xs)).length <= 22024192 := by
  have h1 := zgj l fun e he => ⟨(hc.xs e he).1, (hc.xs e he).2.1⟩
  have h2 := hc.len
  have : keyC (l.map fun e => e.xs) = l.flatMap fun e => zb4 e.xs := by simp [keyC, List.flatMap_map]
  rw [this]; omega
 have HKF : Hid (keyOf Tryz.prog 9 (.string ⟨(keyC (l.map fun e => e.xs)).toArray⟩) = some (.string (keyC (l.map fun e => e.xs)))) := by
  have := Go.WideMaps.keyOf_string_mk (P := Tryz.prog) Tryz.underlying9 (s := ⟨(keyC (l.map fun e => e.xs)).toArray⟩) (by show (keyC (l.map fun e => e.xs)).toArray.size <= maxLen; unfold maxLen; simp; omega)
  show keyOf _ _ _ = _
  simpa using this
 have h0 : ∀ c ∈ (l.map fun e => e.xs), 0 ∉ c := fun c hc' => by
  obtain ⟨e, he, rfl⟩ := List.mem_map.1 hc';exact (hc.xs e he).2.2
 have HCLO : Hid (ClOf g.n g.t (l.map fun e => e.xs) term (zcu (l.map fun e => e.i))) := ⟨l.map fun e => (e.i, e.xs), by simp [Function.comp_def], by simp [Function.comp_def], fun e he => by
  obtain ⟨e', he', rfl⟩ := List.mem_map.1 he
  exact hc.left e' he'⟩
 obtain ⟨m, d, hm, hcs, hdok⟩ := h
 have HCC : Hid (CC g F w p L) := ⟨m, d, hm, hcs, hdok⟩
 obtain ⟨lb, db, nv, cv, hAt, hF⟩ := hcs;have HAT := lh hAt;have HDOK := lh hdok;have HC := lh hc;have HT := lh ht;have HMK := lh hmk;have HH0 := lh h0;have HNT := lh hnt;have HL := lh hl;have hle := hc.len;generalize hst : (L.map fun e => e.c) = st at *;generalize hxs : (l.map fun e => e.xs) = xs at *;have HST := lh hst;have hcf' : ∀ (args : Array Value) (w : World), (callFunc mf args).run Tryz.prog w = .ok (.enter mf args) w := hcf
 have hcase : (∃ i : Nat, d (.string (keyC xs)) = some (.int .i64 (i : Int)) /\ g.cache = true /\ zam g.cache st xs term mk = (st, i)) \/
  (∃ b, (d (.string (keyC xs))).isSome = b /\ (b = true -> g.cache = false) /\ zam g.cache st xs term mk = ((mk st).1 ++ [⟨(mk st).2, some (xs, term)⟩], (mk st).1.length) /\ (g.cache = true -> st.findIdx? (zbm xs) = none)) := by
  cases hca : g.cache with
  | true =>
    have h1 := hdok.2 hca xs h0
    cases hfi : st.findIdx? (zbm xs) with
    | some j =>
      rw [hfi] at h1;exact .inl ⟨j, h1, rfl, by unfold zam; rw [if_pos rfl, hfi]⟩
    | none =>
      rw [hfi] at h1;exact .inr ⟨false, by rw [h1]; rfl, fun h => by simp at h, by unfold zam; rw [if_pos rfl, hfi], fun _ => rfl⟩
  | false => exact .inr ⟨_, rfl, fun _ => rfl, by unfold zam; rw [if_neg (by simp)], fun h => by simp at h⟩
 rcases hcase with ⟨i, hdk, hca, hP⟩ | ⟨b, hb, hbc, hP, hfn⟩
 ·have HDK := lh hdk;have HP := lh hP;clear hdk hP hst hxs hkl hc h0 ht hmk hnt hl hAt hdok;go_enter Tryz.func69, Tryz.ntmps69;go_wp2_with fail;refine HKEY.o.mono ?_;rintro e w1 ⟨rfl, hb1⟩;have hblk := HAT.o.blk.later hb1;have k3 : w1.cell? ⟨p, 3, none⟩ = some (.bool g.cache) := hblk.cell 3;have k7 : w1.cell? ⟨p, 7, none⟩ = some (.map (some db)) := hblk.cell 7;rw [hca] at k3;have HB1 := lh hb1;have HMP := lh (HAT.o.dm.later hb1);clear hblk hb1;go_wp2_with (at_lookup; refine zep rfl _ _ rfl zil Tryz.underlying102 Tryz.underlying3 zf9 rfl HMP.o _ _ rfl HKF.o ?_; rw [HDK.o]);go_ret;rw [HP.o];exact ⟨rfl, F, by rw [<- HST.o]; exact Aft.refl HCC.o HB1.o⟩
 have HP := lh hP;have HFN := lh hfn;clear hP hfn hst hxs hkl hc h0 ht hmk hnt hl hAt hdok;have HBS := lh hb;go_enter Tryz.func69, Tryz.ntmps69;go_wp2_with fail;refine HKEY.o.mono ?_;rintro e w1 ⟨rfl, hb1⟩;have hblk := HAT.o.blk.later hb1;have k3 : w1.cell? ⟨p, 3, none⟩ = some (.bool g.cache) := hblk.cell 3;have k7 : w1.cell? ⟨p, 7, none⟩ = some (.map (some db)) := hblk.cell 7;have HB1 := lh hb1;have HMP := lh (HAT.o.dm.later hb1);clear hblk hb1 hb
 cases b
 case' true => rw [hbc rfl] at k3
 all_goals
  clear hbc;go_wp2_with (at_lookup; refine zep rfl _ _ rfl zil Tryz.underlying102 Tryz.underlying3 zf9 rfl HMP.o _ _ rfl HKF.o ?_; rw [HBS.o]);refine (HMK.o HFN.o _ HB1.o).mono ?_;rintro e w2 ⟨v, F', rfl, ⟨⟨L', hL', m', d', hm', hcs', hdok'⟩, hk2', hs2⟩, hv, hvF⟩;have hcl := (HC.o.kept (Kp.below HB1.o) (fun k h => .inl h)).kept hk2' hs2;have htr := (HT.o.kept (Kp.below HB1.o) (fun k h => .inl h)).kept hk2' hs2;have HCM := lh (zls a cap l at' ct term w2 (by omega) (by have := htr.len; omega) hcl.cc htr.ic);have HK2 := lh hk2';have HS2 := lh hs2;have HV := lh hv;have HVF := lh hvF;have HLE := lh hL'
  have HCS := lh hcs';have HDK2 := lh hdok';have HM' := lh hm';clear hcl htr hk2' hs2 hv hvF hL' hcs' hdok' hm';go_wp2_with fail;refine HCM.o.mono ?_;rintro e w3 ⟨vt, va, rfl, hvt, hva, hb3⟩;have hBw : g.B <= w2.heap.size := Nat.le_trans hB (Nat.le_trans HB1.o.size HK2.o.size)
  have hFlt : ∀ k, F' k -> k < w2.heap.size := fun k hk => (HCS.o.low hk).2
  have HME : Hid (MeAt g F' w3 ⟨⟨(mk st).2, some (xs, term)⟩, v, vt, va, term, zcu (l.map fun e => e.i)⟩) :=
   ⟨(HV.o.later hb3).lower (Nat.le_trans hB HB1.o.size), HVF.o, hvt.lower hBw, fun k hk hf => by have h1 := (hvt.blk hk).1; have h2 := hFlt k hf; omega, hva.lower hBw, fun k hk hf => by have h1 := (hva.blk hk).1; have h2 := hFlt k hf; omega, rfl, HCLO.o⟩
  have hll : L'.length < 65536 := by
   have h1 := HL.o;rw [HP.o] at h1;have h2 := congrArg List.length HLE.o;simp at h1 h2;omega
  have HADD := lh (zhq g F' p L' m' _ d' ⟨⟨(mk st).2, some (xs, term)⟩, v, vt, va, term, zcu (l.map fun e => e.i)⟩ w3 (HCS.o.later hb3) HME.o hll (Nat.le_trans hBw hb3.size));have HB3 := lh hb3;have HLL := lh hll
  have HVB : Hid (∀ k, (v.ownBlock = some k \/ vt.ownBlock = some k \/ va.ownBlock = some k) -> w.heap.size <= k) := by
   show ∀ k, _
   intro k hk;have h1 := HB1.o.size;have h2 := HK2.o.size
   rcases hk with hk | hk | hk
   ·have := (HV.o.blk hk).1; omega
   ·have := (hvt.blk hk).1; omega
   have := (hva.blk hk).1; omega
  clear hvt hva hb3 hBw hFlt hll;go_wp2_with fail;refine HADD.o.mono ?_;rintro e w4 ⟨rfl, F'', ⟨lb', db', nv', cv', hAt', hF'⟩, hk4, hs4⟩;have q7 : w4.cell? ⟨p, 7, none⟩ = some (.map (some db')) := hAt'.blk.cell 7;have HAT' := lh hAt';have HK4 := lh hk4;have HS4 := lh hs4;have HMQ := lh hAt'.dm;have HPL : Hid (plainElem (H := Unit) Tryz.prog 3 (.int .i64 (L'.length : Int)) = some (.lit (.int .i64 (L'.length : Int)), [])) := plainElem_int Tryz.underlying3 (WalkArith.wf_i64 (by have := HLL.o; omega))
  have HNB : Hid (m' <= 1073741824) := by show _ <= _; have h1 := HM'.out; have h2 := HLL.o; omega
  clear hAt' hk4 hs4;go_wp2_with (at_mapUpdate; refine zmy rfl _ _ _ rfl zil Tryz.underlying102 rfl HMQ.o HNB.o (.string ⟨(keyC xs).toArray⟩) (.int .i64 (L'.length : Int)) (.string (keyC xs)) (.int .i64 (L'.length : Int)) rfl rfl HKF.o trivial HPL.o ?_);intro w5 hm5 hg5;obtain ⟨z1, z2⟩ := HAT'.out.dones hm5 hg5;have Z1 := lh z1;have Z2 := lh z2;clear hm5 hg5 z1 z2;go_wp2;go_ret;rw [HP.o]
  have hlen : (mk st).1.length = L'.length := by rw [<- HLE.o]; simp
  refine ⟨by rw [hlen]; rfl, F'', ?_⟩
  have hsF : ∀ k, F' k -> F k \/ w.heap.size <= k := fun k hk => (HS2.o k hk).imp id fun h => Nat.le_trans HB1.o.size h
  have hk03 : Kp F w w3 := ((Kp.below HB1.o).trans HK2.o).trans (Kp.below HB3.o)
  have hs04 : ∀ k, F'' k -> F k \/ w.heap.size <= k := fun k hk => (HS4.o k hk).elim (hsF k) fun h => .inr (h.elim (fun h => Nat.le_trans hk03.size h) fun ⟨y, hy, h⟩ => by
   simp only [List.mem_singleton] at hy; subst hy; exact HVB.o k h)
  have hk05 : Kp F w w5 := (hk03.trans' HK4.o hsF).trans' (Z2.o.mono fun k _ hk => (hF' k).2 (.inl hk)) hs04;have hd := HDK2.o;rw [HLE.o] at hd
  have hput := zv4 (c := (⟨(mk st).2, some (xs, term)⟩ : Nc)) (l := xs) (term := term) hd rfl HH0.o fun hc => HNT.o hc (HFN.o hc)
  rw [hlen] at hput;refine ⟨⟨L' ++ [⟨⟨(mk st).2, some (xs, term)⟩, v, vt, va, term, zcu (l.map fun e => e.i)⟩], by rw [List.map_append, HLE.o]; rfl, m' + 1, _, by have := HM'.out; simp; omega, ⟨lb', db', nv', cv', ?_, hF'⟩, by rw [List.map_append, HLE.o]; exact hput⟩, hk05, hs04⟩
  have e : lmap ((L' ++ [(⟨⟨(mk st).2, some (xs, term)⟩, v, vt, va, term, zcu (l.map fun e => e.i)⟩ : Me)]).map fun (e : Me) => e.c) = lmap (L'.map fun e => e.c) := by
   rw [List.map_append]; exact zmn hk2
  rw [e]; exact Z1.o
def OwnO (F : Nat -> Prop) (w : World) (base : Nat) (v : Value) (l : List Int) : Prop := OwnI w base v l /\ ∀ k, v.ownBlock = some k -> ¬ F k
theorem OwnO.kept {F F' : Nat -> Prop} {w w' : World} {base : Nat} {v : Value} {l : List Int} (h : OwnO F w base v l) (hk : Kp F w w') (hs : ∀ k, F' k -> F k \/ w.heap.size <= k) : OwnO F' w' base v l :=
 ⟨h.1.kept hk fun g hg hf => h.2 g hg hf, fun k hv hf => (hs k hf).elim (h.2 k hv) fun h1 => by have := (h.1.blk hv).2; omega⟩
theorem OwnO.aft {g : Cfg} {F F' : Nat -> Prop} {p : Nat} {st : List Nc} {w w' : World} {base : Nat} {v : Value} {l : List Int} (h : OwnO F w base v l) (ha : Aft g F p st w w' F') : OwnO F' w' base v l := h.kept ha.2.1 ha.2.2
theorem OwnO.later {F : Nat -> Prop} {w w' : World} {base : Nat} {v : Value} {l : List Int} (h : OwnO F w base v l) (hb : Below w.heap.size w w') : OwnO F w' base v l := ⟨h.1.later hb, h.2⟩
theorem OwnO.new {F : Nat -> Prop} {w : World} {base : Nat} (x : Int) (hF : ∀ k, F k -> k < w.heap.size) (hb : base <= w.heap.size) : OwnO F (w.alloc (.cells #[.int .i64 x] 3)) base (.slice (some ⟨w.heap.size, 0, none⟩) 1 1) [x] :=
 ⟨World.ownsRow_lit w #[.int .i64 x] 1 hb (by decide) rfl, fun k hk hf => by
   simp [Value.ownBlock] at hk
   have := hF k hf
   omega⟩
theorem OwnO.trm {F : Nat -> Prop} {w : World} {base n c : Nat} {a : Option Addr} {l : List Int} (h : OwnO F w base (.slice a n c) l) (hl : l.length <= 128) : n = l.length /\ TrmIn F w a l := by
 rcases h.1.shape with ⟨h1, h2⟩ | ⟨g, cap, h1, h2, h3⟩
 ·simp only [Value.slice.injEq] at h1;obtain ⟨rfl, rfl, rfl⟩ := h1;subst h2;exact ⟨rfl, IntCells.nil _ _, fun q hq => by simp at hq, by simp⟩
 simp only [Value.slice.injEq] at h1;obtain ⟨rfl, rfl, rfl⟩ := h1
 exact ⟨rfl, h.1.intCells rfl, fun q hq => by
  simp only [Option.some.injEq] at hq;subst hq
  exact ⟨h.2 g rfl, h3⟩, hl⟩
theorem IntCells.kept0 {M : Nat -> Prop} {w w' : World} {a : Option Addr} {xs : List Int} (h : IntCells w a xs) (hb : Kp M w w') (hm : ∀ p, a = some p -> xs ≠ [] -> ¬ M p.block) : IntCells w' a xs :=
 fun i hi => let ⟨b, off, e, hc⟩ := h i hi; ⟨b, off, e, hb.cell hc (hm ⟨b, off, none⟩ e fun hn => by rw [hn] at hi; simp at hi)⟩
structure Fx (g : Cfg) (ch : List Cl -> Int) : Prop where
 n : g.n <= 128
 gb : 1 < g.B
 ch : Chooses ch g.n
 ob : ∀ q, g.oa = some q -> g.order ≠ [] -> q.block < g.B
 od : ∀ v ∈ g.order, 1 <= v /\ v <= g.n
 ol : g.order.length <= 1073741824
structure Env (g : Cfg) (F : Nat -> Prop) (w : World) (a : Option Addr) (l : List Ce) (at' : Option Addr) (term : Cl) : Prop where
 ci : ClsIn g F w a l term
 ti : TrmIn F w at' term
 good : gL g.n (l.map fun e => e.xs)
 rt : RT g.n g.t (l.map fun e => e.xs) term
theorem Env.kept {g : Cfg} {F F' : Nat -> Prop} {w w' : World} {a : Option Addr} {l : List Ce} {at' : Option Addr} {term : Cl} (h : Env g F w a l at' term) (hk : Kp F w w') (hs : ∀ k, F' k -> F k \/ w.heap.size <= k) : Env g F' w' a l at' term :=
 ⟨h.ci.kept hk hs, h.ti.kept hk hs, h.good, h.rt⟩
theorem Env.aft {g : Cfg} {F F' : Nat -> Prop} {p : Nat} {st : List Nc} {w w' : World} {a : Option Addr} {l : List Ce} {at' : Option Addr} {term : Cl} (h : Env g F w a l at' term) (ha : Aft g F p st w w' F') : Env g F' w' a l at' term := h.kept ha.2.1 ha.2.2
theorem Env.later {g : Cfg} {F : Nat -> Prop} {w w' : World} {a : Option Addr} {l : List Ce} {at' : Option Addr} {term : Cl} (h : Env g F w a l at' term) (hb : Below w.heap.size w w') : Env g F w' a l at' term := h.kept (Kp.below hb) fun _ h => .inl h
structure Cmp (g : Cfg) (ch : List Cl -> Int) (F : Nat -> Prop) (w : World) (p : Nat) (L : List Me) : Prop where
 cc : CC g F w p L
 inv : InvR ch (RT g.n g.t) g.cache g.n (L.map fun e => e.c)
 tab : Tab w
 lo : g.B <= w.heap.size
 ord : IntCells w g.oa g.order
theorem Tab.kp {F : Nat -> Prop} {w w' : World} (h : Tab w) (hk : Kp F w w') (hF : ∀ k, F k -> 1 < k) : Tab w' := by
 unfold Tab Lib.TabIs World.var? at *;rw [show Tryz.prog.globalNamed "internal/strconv.uint64pow10" = some 1 from by kernel_rfl] at *;simp only [Option.bind_some] at *
 rcases Nat.lt_or_ge 1 w.heap.size with h' | h'
 ·rw [hk.block _ h' fun hf => by have := hF _ hf; omega]; exact h
 rw [Array.getElem?_eq_none h'] at h; simp at h
theorem Cmp.aft {g : Cfg} {ch : List Cl -> Int} {F F' : Nat -> Prop} {w w' : World} {p : Nat} {L : List Me} {st : List Nc} (hx : Fx g ch) (h : Cmp g ch F w p L) (ha : Aft g F p st w w' F') (hi : InvR ch (RT g.n g.t) g.cache g.n st) :
 ∃ L' : List Me, (L'.map fun e => e.c) = st /\ Cmp g ch F' w' p L' := by
 obtain ⟨⟨L', h1, h2⟩, hk, hs⟩ := ha;exact ⟨L', h1, h2, by rw [h1]; exact hi, h.tab.kp hk fun k hk => Nat.lt_of_lt_of_le hx.gb (h.cc.low hk).1, Nat.le_trans h.lo hk.size, h.ord.kept0 hk fun q hq hne hf => by have h1 := hx.ob q hq hne; have h2 := (h.cc.low hf).1; omega⟩
theorem Cmp.later {g : Cfg} {ch : List Cl -> Int} {F : Nat -> Prop} {w w' : World} {p : Nat} {L : List Me} (h : Cmp g ch F w p L) (hb : Below w.heap.size w w') : Cmp g ch F w' p L :=
 ⟨h.cc.later hb, h.inv, h.tab.keep hb, Nat.le_trans h.lo hb.size, h.ord.keep hb⟩
def zsm (g : Cfg) (F : Nat -> Prop) (p : Nat) (r : List Nc × List Nat) (w : World) (e : Ending) (w' : World) : Prop :=
 ∃ v F', e = .returned v /\ Aft g F p r.1 w w' F' /\ OwnO F' w' w.heap.size v (zag r.2)
def FitC (g : Cfg) (ch : List Cl -> Int) (f : Nat) : Prop :=
 ∀ (F : Nat -> Prop) (p : Nat) (L : List Me) (a : Option Addr) (cap : Nat) (l : List Ce) (at' : Option Addr) (ct : Nat) (term : Cl) (w : World), Cmp g ch F w p L -> Env g F w a l at' term -> card (zaf (l.map fun e => e.xs)) < f ->
  (fitF ch g.cache f (L.map fun e => e.c) (l.map fun e => e.xs) term).1.length <= 65536 ->
  Calls Tryz.prog 44 #[.pointer (some ⟨p, 0, none⟩), .slice a l.length cap, .slice at' term.length ct] w (zsm g F p (fitF ch g.cache f (L.map fun e => e.c) (l.map fun e => e.xs) term) w)
section
variable {ops : Array Oper} {rest : List Oper} {o : Oper} {a : Act} {w : World} {K : Act -> World -> Prop} {Q : Exit -> Act -> World -> Prop} {EE : Prop}
theorem zsk (s x : Operand) (ho : o.op = .call { callee := .builtin .append, args := #[s, x], argTypes := #[54, 54] })
 (base : Nat) (v : Value) (ys : List Int) (hs : a.eval s = v) (hown : OwnI w base v ys) (ad : Addr) (c : Nat) (xs : List Int) (hx : a.eval x = .slice (some ad) xs.length c) (hxc : IntCells w (some ad) xs)
 (h0 : 0 < xs.length) (h1 : ys.length <= 1073741824) (h2 : xs.length <= 1073741824) (hbase : base <= w.heap.size)
 (h : ∀ g cap w', OwnI w' base (.slice (some ⟨g, 0, none⟩) (ys.length + xs.length) cap) (ys ++ xs) -> w.grownBy w' v.ownBlock -> (v.ownBlock = some g \/ g = w.heap.size) -> K (a.put o.dst (.slice (some ⟨g, 0, none⟩) (ys.length + xs.length) cap)) w') : o.wp Tryz.prog a w K Q := by
 obtain ⟨ht, i, hi, hz, hsz, hby, hzs, hk⟩ := ze8;refine wp_append_lies w s x 54 ho base 3 i _ 1 8 ht hi hz hsz hby hzs hk v ys.length (ys.map (Value.int .i64)) hs (zaq.2 hown) ad xs.length c (xs.map (Value.int .i64)) hx (by simp) (ze2 hxc) (znq xs) h0 (by unfold maxLen; omega) (by omega) hbase w.heap.size rfl ?_;intro g cap w' r1 r2 r3 _;refine h g cap w' (zaq.1 ?_) r2 r3;unfold OwnInts;rw [List.length_append, List.map_append];exact r1
theorem zc8 (hgd : o.guard = none) (s x : Operand) (ho : o.op = .call { callee := .builtin .append, args := #[s, x], argTypes := #[54, 54] })
 (base : Nat) (v : Value) (ys : List Int) (hs : a.eval s = v) (hown : OwnI w base v ys) (ad : Addr) (c : Nat) (xs : List Int) (hx : a.eval x = .slice (some ad) xs.length c) (hxc : IntCells w (some ad) xs)
 (h0 : 0 < xs.length) (h1 : ys.length <= 1073741824) (h2 : xs.length <= 1073741824) (hbase : base <= w.heap.size)
 (h : ∀ g cap w', OwnI w' base (.slice (some ⟨g, 0, none⟩) (ys.length + xs.length) cap) (ys ++ xs) -> w.grownBy w' v.ownBlock -> (v.ownBlock = some g \/ g = w.heap.size) -> wpList Tryz.prog ops Q rest (a.put o.dst (.slice (some ⟨g, 0, none⟩) (ys.length + xs.length) cap)) w') : wpList Tryz.prog ops Q (o :: rest) a w :=
 wpList_plain hgd fun _ hK => zsk s x ho base v ys hs hown ad c xs hx hxc h0 h1 h2 hbase fun g cap w' r1 r2 r3 => hK _ _ (h g cap w' r1 r2 r3)
theorem zar (hgd : o.guard = none) (s x : Operand) (ho : o.op = .call { callee := .builtin .append, args := #[s, x], argTypes := #[54, 54] })
 (base : Nat) (v : Value) (ys : List Int) (hs : a.eval s = v) (hown : OwnI w base v ys) (ad : Addr) (c : Nat) (xs : List Int) (hx : a.eval x = .slice (some ad) xs.length c) (hxc : IntCells w (some ad) xs)
 (h0 : 0 < xs.length) (h1 : ys.length <= 1073741824) (h2 : xs.length <= 1073741824) (hbase : base <= w.heap.size)
 (h : ∀ g cap w', OwnI w' base (.slice (some ⟨g, 0, none⟩) (ys.length + xs.length) cap) (ys ++ xs) -> w.grownBy w' v.ownBlock -> (v.ownBlock = some g \/ g = w.heap.size) -> K (a.put o.dst (.slice (some ⟨g, 0, none⟩) (ys.length + xs.length) cap)) w') : if Region.wanted o (yielded ops a.tmps) = true then Oper.wp Tryz.prog o a w K Q else EE := by
 have hw : Region.wanted o (yielded ops a.tmps) = true := by simp [Region.wanted, hgd]
 rw [if_pos hw];exact zsk s x ho base v ys hs hown ad c xs hx hxc h0 h1 h2 hbase h
end
theorem ClsIn.mono {g : Cfg} {F F' : Nat -> Prop} {w : World} {a : Option Addr} {l : List Ce} {term : Cl} (h : ClsIn g F' w a l term) (hs : ∀ k, F k -> F' k) : ClsIn g F w a l term :=
 ⟨h.cc, fun q hq => ⟨fun hf => (h.aF q hq).1 (hs _ hf), (h.aF q hq).2⟩, fun e he q hq => ⟨fun hf => (h.eF e he q hq).1 (hs _ hf), (h.eF e he q hq).2⟩, h.len, h.xs, h.left⟩
theorem TrmIn.mono {F F' : Nat -> Prop} {w : World} {a : Option Addr} {term : Cl} (h : TrmIn F' w a term) (hs : ∀ k, F k -> F' k) : TrmIn F w a term :=
 ⟨h.ic, fun q hq => ⟨fun hf => (h.aF q hq).1 (hs _ hf), (h.aF q hq).2⟩, h.len⟩
theorem Kp.then {F : Nat -> Prop} {w V V' : World} (h : Kp F w V) (k : Below w.heap.size V V') : Kp F w V' :=
 ⟨k.os.trans h.os, k.tape.trans h.tape, k.output.trans h.output, Nat.le_trans h.size k.size, fun i hi hf => (k.block i hi).trans (h.block i hi hf)⟩
theorem Cmp.kept {g : Cfg} {ch : List Cl -> Int} {F M : Nat -> Prop} {w w' : World} {p : Nat} {L : List Me} (hx : Fx g ch) (h : Cmp g ch F w p L) (hk : Kp M w w') (hM : ∀ k, M k -> ¬ F k) (hB : ∀ k, M k -> g.B <= k) : Cmp g ch F w' p L :=
 ⟨h.cc.kept hk hM, h.inv, h.tab.kp hk fun k hk => Nat.lt_of_lt_of_le hx.gb (hB k hk), Nat.le_trans h.lo hk.size, h.ord.kept0 hk fun q hq hne hf => by have h1 := hx.ob q hq hne; have h2 := hB _ hf; omega⟩
theorem zlt {g : Cfg} {ch : List Cl -> Int} (hx : Fx g ch) {F : Nat -> Prop} {w w' : World} {a : Option Addr} {l m : List Ce} {term : Cl} {x : Int} {v : Value} (hci : ClsIn g F w a l term) (hgd : gL g.n (l.map fun e => e.xs)) (hrt : RT g.n g.t (l.map fun e => e.xs) term)
 (hl : litN g.n x) (hv : (zaf (l.map fun e => e.xs)).mem (zac x) = true)
 (hF : ∀ k, F k -> k < w.heap.size) (ho : OwnC w' w.heap.size v m) (hc : CsIn w' w.heap.size v m) (hg : GvAt x l m) (he : (m.map fun e => e.xs) = zai (l.map fun e => e.xs) x) :
 ∃ b cap, v = .slice b m.length cap /\ ClsIn g F w' b m (term ++ [x]) /\ gL g.n (m.map fun e => e.xs) /\ RT g.n g.t (m.map fun e => e.xs) (term ++ [x]) /\ (∀ q, b = some q -> w.heap.size <= q.block) /\ ∀ e ∈ m, ∀ q, e.a = some q -> w.heap.size <= q.block := by
 obtain ⟨b, cap, rfl⟩ := ho.sliced;have hoff := hrt.off hx.n hgd.gc hl hv
 have hlen : m.length <= l.length := by
  have h1 := congrArg List.length he;rw [List.length_map] at h1;rw [h1];unfold zai;refine Nat.le_trans (za9 _) ?_;rw [List.length_map];refine Nat.le_trans (List.length_filter_le _ _) ?_;rw [List.length_map]; exact Nat.le_refl _
 have hb1 : ∀ q, b = some q -> w.heap.size <= q.block /\ q.block < w'.heap.size := fun q hq => by
  rcases ho.shape with ⟨h1, h2⟩ | ⟨g0, cp, h1, h2, h3⟩
  ·simp only [Value.slice.injEq] at h1;rw [h1.1] at hq; simp at hq
  simp only [Value.slice.injEq] at h1;rw [h1.1] at hq;simp only [Option.some.injEq] at hq;subst hq;exact ⟨h2, h3⟩
 have hb2 : ∀ e ∈ m, ∀ q, e.a = some q -> w.heap.size <= q.block /\ q.block < w'.heap.size := fun e he' q hq => by
  obtain ⟨k1, k2, _⟩ := (hc e he').2.2.2 q hq;exact ⟨k1, k2⟩
 refine ⟨b, cap, rfl, ⟨fun i hi => ?_, fun q hq => ⟨fun hf => by have := hF _ hf; have := (hb1 q hq).1; omega, (hb1 q hq).2⟩, fun e he' q hq => ⟨fun hf => by have := hF _ hf; have := (hb2 e he' q hq).1; omega, (hb2 e he' q hq).2⟩, Nat.le_trans hlen hci.len, fun e he' => ?_, fun e he' => ?_⟩, ?_, ?_, fun q hq => (hb1 q hq).1, fun e he' q hq => (hb2 e he' q hq).1⟩
 ·rcases ho.shape with ⟨h1, h2⟩ | ⟨g0, cp, h1, h2, h3⟩
  ·subst h2; simp at hi
  simp only [Value.slice.injEq] at h1;obtain ⟨rfl, _, rfl⟩ := h1;refine ⟨g0, 0, rfl, ?_, ?_, (hc (gd m i) (by rw [zat hi]; exact List.getElem_mem hi)).2.2.1⟩
  ·have := ho.c0 rfl hi; simpa using this
  have := ho.c1 rfl hi; simpa using this
 ·obtain ⟨f, hf, e1, e2, e3⟩ := hg e he';obtain ⟨x1, x2, x3⟩ := hci.xs f hf;rw [e3];exact ⟨Nat.le_trans (List.length_filter_le _ _) x1, fun y hy => x2 y (List.mem_filter.1 hy).1, fun h0 => x3 (List.mem_filter.1 h0).1⟩
 ·obtain ⟨f, hf, e1, e2, e3⟩ := hg e he';rw [e1, e3];exact (hci.left f hf).given e2 hoff.2
 ·rw [he]; exact zbl hgd.gc x
 rw [he]; exact (zbt hx.n g.t).given _ _ _ hrt hgd hl hv
structure SA (g : Cfg) (ch : List Cl -> Int) (F : Nat -> Prop) (p : Nat) (L : List Me) (wS : World) (b : Option Addr) (m : List Ce) (at' : Option Addr) (term : Cl) (x : Int) (V : World) (oX : Option Nat) : Prop where
 kp : Kp F wS V
 cmp : Cmp g ch F V p L
 cls : ClsIn g F V b m (term ++ [x])
 trm : TrmIn F V at' term
 X : ∀ q, oX = some q -> OwnO F V wS.heap.size (.slice (some ⟨q, 0, none⟩) 1 1) [x]
section
variable {g : Cfg} {ch : List Cl -> Int} {F : Nat -> Prop} {p : Nat} {L : List Me} {wS : World} {b : Option Addr} {m : List Ce} {at' : Option Addr} {term : Cl} {x : Int} {V V' : World} {oX : Option Nat}
theorem SA.later (h : SA g ch F p L wS b m at' term x V oX) (hb : Below V.heap.size V V') : SA g ch F p L wS b m at' term x V' oX :=
 ⟨h.kp.trans (Kp.below hb), h.cmp.later hb, h.cls.kept (Kp.below hb) fun _ h => .inl h, h.trm.kept (Kp.below hb) fun _ h => .inl h, fun q hq => (h.X q hq).later hb⟩
theorem SA.allocX {q0 : Nat} (h : SA g ch F p L wS b m at' term x V none) (e0 : V.heap.size = q0) : SA g ch F p L wS b m at' term x (V.alloc (.cells #[.int .i64 x] 3)) (some q0) := by
 subst e0
 exact
  let h1 := h.later ((Below.refl _ _).alloc (Nat.le_refl _) (.cells #[.int .i64 x] 3))
  ⟨h1.kp, h1.cmp, h1.cls, h1.trm, fun q hq => by
    simp only [Option.some.injEq] at hq; subst hq
    exact OwnO.new x (fun k hk => (h.cmp.cc.low hk).2) h.kp.size⟩
end
structure SB (g : Cfg) (ch : List Cl -> Int) (F F1 : Nat -> Prop) (p : Nat) (L1 : List Me) (wS : World) (b : Option Addr) (m : List Ce) (at' : Option Addr) (term : Cl) (x : Int) (i : Nat) (V : World) (oX oL : Option Nat) (oT : Option (Value × Cl)) : Prop where
 kp : Kp F wS V
 sub : ∀ k, F1 k -> F k \/ wS.heap.size <= k
 cmp : Cmp g ch F1 V p L1
 cls : ClsIn g (fun k => F1 k \/ ∃ v l, oT = some (v, l) /\ v.ownBlock = some k) V b m (term ++ [x])
 trm : TrmIn (fun k => F1 k \/ ∃ v l, oT = some (v, l) /\ v.ownBlock = some k) V at' term
 X : ∀ q, oX = some q -> OwnO F1 V wS.heap.size (.slice (some ⟨q, 0, none⟩) 1 1) [x]
 Lt : ∀ q, oL = some q -> OwnO F1 V wS.heap.size (.slice (some ⟨q, 0, none⟩) 1 1) [(i : Int)]
 T : ∀ v l, oT = some (v, l) -> OwnO F1 V wS.heap.size v l /\ (∀ q, oX = some q -> v.ownBlock ≠ some q) /\ ∀ q, oL = some q -> v.ownBlock ≠ some q
section
variable {g : Cfg} {ch : List Cl -> Int} {F F1 : Nat -> Prop} {p : Nat} {L L1 : List Me} {wS : World} {b : Option Addr} {m : List Ce} {at' : Option Addr} {term : Cl} {x : Int} {i : Nat} {V V' : World} {oX oL : Option Nat} {oT : Option (Value × Cl)} {st : List Nc}
theorem SA.lit (hx : Fx g ch) (h : SA g ch F p L wS b m at' term x V oX) (ha : Aft g F p st V V' F1) (hi : InvR ch (RT g.n g.t) g.cache g.n st) (i : Nat) :
 ∃ L1 : List Me, (L1.map fun e => e.c) = st /\ SB g ch F F1 p L1 wS b m at' term x i V' oX none none := by
 obtain ⟨L1, h1, h2⟩ := h.cmp.aft hx ha hi;refine ⟨L1, h1, h.kp.trans ha.2.1, fun k hk => (ha.2.2 k hk).imp id fun h' => Nat.le_trans h.kp.size h', h2, (h.cls.kept ha.2.1 ha.2.2).mono (F := fun k => F1 k \/ ∃ v l, (none : Option (Value × Cl)) = some (v, l) /\ v.ownBlock = some k) ?_, (h.trm.kept ha.2.1 ha.2.2).mono (F := fun k => F1 k \/ ∃ v l, (none : Option (Value × Cl)) = some (v, l) /\ v.ownBlock = some k) ?_, fun q hq => (h.X q hq).aft ha, fun q hq => by simp at hq, fun v l hv => by simp at hv⟩
 ·rintro k (hk | ⟨v, l, e, _⟩)
  ·exact hk
  simp at e
 rintro k (hk | ⟨v, l, e, _⟩)
 ·exact hk
 simp at e
theorem SB.later (h : SB g ch F F1 p L1 wS b m at' term x i V oX oL oT) (hb : Below V.heap.size V V') : SB g ch F F1 p L1 wS b m at' term x i V' oX oL oT :=
 ⟨h.kp.trans (Kp.below hb), h.sub, h.cmp.later hb, h.cls.kept (Kp.below hb) fun _ h => .inl h, h.trm.kept (Kp.below hb) fun _ h => .inl h, fun q hq => (h.X q hq).later hb, fun q hq => (h.Lt q hq).later hb, fun v l hv => ⟨(h.T v l hv).1.later hb, (h.T v l hv).2⟩⟩
theorem SB.allocX {q0 : Nat} (h : SB g ch F F1 p L1 wS b m at' term x i V none oL oT) (e0 : V.heap.size = q0) : SB g ch F F1 p L1 wS b m at' term x i (V.alloc (.cells #[.int .i64 x] 3)) (some q0) oL oT := by
 subst e0
 exact
  let h1 := h.later ((Below.refl _ _).alloc (Nat.le_refl _) (.cells #[.int .i64 x] 3))
  ⟨h1.kp, h1.sub, h1.cmp, h1.cls, h1.trm, fun q hq => by
    simp only [Option.some.injEq] at hq; subst hq
    exact OwnO.new x (fun k hk => (h.cmp.cc.low hk).2) h.kp.size, h1.Lt, fun v l hv => ⟨(h1.T v l hv).1, fun q hq e => by
     simp only [Option.some.injEq] at hq; subst hq
     have := ((h.T v l hv).1.1.blk e).2; omega, (h1.T v l hv).2.2⟩⟩
theorem SB.allocL {q0 : Nat} (h : SB g ch F F1 p L1 wS b m at' term x i V oX none oT) (e0 : V.heap.size = q0) : SB g ch F F1 p L1 wS b m at' term x i (V.alloc (.cells #[.int .i64 (i : Int)] 3)) oX (some q0) oT := by
 subst e0
 exact
  let h1 := h.later ((Below.refl _ _).alloc (Nat.le_refl _) (.cells #[.int .i64 (i : Int)] 3))
  ⟨h1.kp, h1.sub, h1.cmp, h1.cls, h1.trm, h1.X, fun q hq => by
    simp only [Option.some.injEq] at hq; subst hq
    exact OwnO.new (i : Int) (fun k hk => (h.cmp.cc.low hk).2) h.kp.size, fun v l hv => ⟨(h1.T v l hv).1, (h1.T v l hv).2.1, fun q hq e => by
     simp only [Option.some.injEq] at hq; subst hq
     have := ((h.T v l hv).1.1.blk e).2; omega⟩⟩
theorem SB.clone {v : Value} (h : SB g ch F F1 p L1 wS b m at' term x i V oX oL none) (ho : OwnInts V' V.heap.size v term) (hb : Below V.heap.size V V') : SB g ch F F1 p L1 wS b m at' term x i V' oX oL (some (v, term)) := by
 have h1 := h.later hb;have ho' : OwnI V' V.heap.size v term := zaq.1 ho
 have hlt : ∀ k, v.ownBlock = some k -> V.heap.size <= k := fun k hk => (ho'.blk hk).1
 refine ⟨h1.kp, h1.sub, h1.cmp, h.cls.kept (Kp.below hb) ?_, h.trm.kept (Kp.below hb) ?_, h1.X, h1.Lt, fun v' l hv => ?_⟩
 ·rintro k (hk | ⟨v', l, e, hk⟩)
  ·exact .inl (.inl hk)
  simp only [Option.some.injEq, Prod.mk.injEq] at e;obtain ⟨rfl, rfl⟩ := e;exact .inr (hlt k hk)
 ·rintro k (hk | ⟨v', l, e, hk⟩)
  ·exact .inl (.inl hk)
  simp only [Option.some.injEq, Prod.mk.injEq] at e;obtain ⟨rfl, rfl⟩ := e;exact .inr (hlt k hk)
 simp only [Option.some.injEq, Prod.mk.injEq] at hv;obtain ⟨rfl, rfl⟩ := hv;refine ⟨⟨ho'.lower h.kp.size, fun k hk hf => ?_⟩, fun q hq e => ?_, fun q hq e => ?_⟩
 ·have := (h.cmp.cc.low hf).2; have := hlt k hk; omega
 ·have := ((h.X q hq).1.blk (k := q) rfl).2; have := hlt q e; omega
 have := ((h.Lt q hq).1.blk (k := q) rfl).2; have := hlt q e; omega
theorem SB.app {v : Value} {q gg cap : Nat} (hx : Fx g ch) (h : SB g ch F F1 p L1 wS b m at' term x i V (some q) oL (some (v, term))) (hB : g.B <= wS.heap.size) (hF : ∀ k, F k -> k < wS.heap.size)
 (ho : OwnI V' wS.heap.size (.slice (some ⟨gg, 0, none⟩) (term.length + 1) cap) (term ++ [x])) (hg : V.grownBy V' v.ownBlock) (hn : v.ownBlock = some gg \/ gg = V.heap.size) :
 SB g ch F F1 p L1 wS b m at' term x i V' none oL (some (.slice (some ⟨gg, 0, none⟩) (term.length + 1) cap, term ++ [x])) := by
 have hT := h.T v term rfl
 have hk : Kp (fun k => v.ownBlock = some k) V V' := Kp.grown hg fun k hk => hk
 have hsz := h.kp.size
 have hbk : ∀ k, v.ownBlock = some k -> wS.heap.size <= k /\ k < V.heap.size := fun k hk => hT.1.1.blk hk
 have hnF : ∀ k, v.ownBlock = some k -> ¬ F1 k := hT.1.2
 have hstep : ∀ k, (F1 k \/ ∃ v' l, (some (Value.slice (some ⟨gg, 0, none⟩) (term.length + 1) cap, term ++ [x]) : Option (Value × Cl)) = some (v', l) /\ v'.ownBlock = some k) -> (F1 k \/ ∃ v' l, (some (v, term) : Option (Value × Cl)) = some (v', l) /\ v'.ownBlock = some k) \/ V.heap.size <= k := by
  rintro k (hk | ⟨v', l, e, hk⟩)
  ·exact .inl (.inl hk)
  simp only [Option.some.injEq, Prod.mk.injEq] at e;obtain ⟨rfl, rfl⟩ := e
  have : gg = k := by simpa [Value.ownBlock] using hk
  subst this
  rcases hn with hn | hn
  ·exact .inl (.inr ⟨v, term, rfl, hn⟩)
  exact .inr (by omega)
 have hst : ∀ q, v.ownBlock ≠ some q -> q < V.heap.size -> ∀ k, (Value.slice (some ⟨gg, 0, none⟩) (term.length + 1) cap).ownBlock = some k -> k ≠ q := fun q hq hlt k hk e => by
  have : gg = k := by simpa [Value.ownBlock] using hk
  subst this; subst e
  rcases hn with hn | hn
  ·exact hq hn
  omega
 refine ⟨h.kp.then (Kp.toBelow hk hsz fun k hk' e => by have := (hbk k e).1; omega), h.sub, h.cmp.kept hx hk hnF (fun k hk => Nat.le_trans hB (hbk k hk).1), h.cls.kept (hk.mono fun k _ hk => .inr ⟨v, term, rfl, hk⟩) hstep, h.trm.kept (hk.mono fun k _ hk => .inr ⟨v, term, rfl, hk⟩) hstep, fun q hq => by simp at hq, fun q' hq' => ⟨(h.Lt q' hq').1.kept hk fun k hk e => hT.2.2 q' hq' (by rw [e]; simpa [Value.ownBlock] using hk.symm), (h.Lt q' hq').2⟩, fun v' l hv => ?_⟩;simp only [Option.some.injEq, Prod.mk.injEq] at hv;obtain ⟨rfl, rfl⟩ := hv;refine ⟨⟨ho, fun k hk hf => ?_⟩, fun q hq => by simp at hq, fun q' hq' e => ?_⟩
 ·have : gg = k := by simpa [Value.ownBlock] using hk
  subst this
  rcases hn with hn | hn
  ·exact hnF _ hn hf
  have := (h.cmp.cc.low hf).2; omega
 exact hst q' (hT.2.2 q' hq') ((h.Lt q' hq').1.blk (k := q') rfl).2 q' e rfl
structure SC (g : Cfg) (ch : List Cl -> Int) (F F2 : Nat -> Prop) (p : Nat) (L2 : List Me) (wS : World) (i : Nat) (V : World) (oL : Option Nat) (vR : Value) (ids : List Int) : Prop where
 kp : Kp F wS V
 sub : ∀ k, F2 k -> F k \/ wS.heap.size <= k
 cmp : Cmp g ch F2 V p L2
 Lt : ∀ q, oL = some q -> OwnO F2 V wS.heap.size (.slice (some ⟨q, 0, none⟩) 1 1) [(i : Int)]
 R : OwnO F2 V wS.heap.size vR ids
 ne : ∀ q, oL = some q -> vR.ownBlock ≠ some q
theorem SB.fit {F2 : Nat -> Prop} {vR : Value} {ids : List Int} (hx : Fx g ch) (h : SB g ch F F1 p L1 wS b m at' term x i V none oL oT) (ha : Aft g F1 p st V V' F2) (hi : InvR ch (RT g.n g.t) g.cache g.n st) (hr : OwnO F2 V' V.heap.size vR ids) (hF : ∀ k, F k -> k < wS.heap.size) :
 ∃ L2 : List Me, (L2.map fun e => e.c) = st /\ SC g ch F F2 p L2 wS i V' oL vR ids := by
 obtain ⟨L2, h1, h2⟩ := h.cmp.aft hx ha hi;have hsz := h.kp.size;refine ⟨L2, h1, h.kp.trans' ha.2.1 h.sub, fun k hk => (ha.2.2 k hk).elim (h.sub k) fun h' => .inr (Nat.le_trans hsz h'), h2, fun q hq => (h.Lt q hq).aft ha, ⟨hr.1.lower hsz, hr.2⟩, fun q hq e => ?_⟩;have h3 := ((h.Lt q hq).1.blk (k := q) rfl).2;have h4 := (hr.1.blk e).1;omega
end
section
variable {g : Cfg} {ch : List Cl -> Int} {F F2 : Nat -> Prop} {p : Nat} {L2 : List Me} {wS : World} {i : Nat} {V V' : World} {oL : Option Nat} {vR : Value} {ids : List Int}
theorem SC.later (h : SC g ch F F2 p L2 wS i V oL vR ids) (hb : Below V.heap.size V V') : SC g ch F F2 p L2 wS i V' oL vR ids :=
 ⟨h.kp.trans (Kp.below hb), h.sub, h.cmp.later hb, fun q hq => (h.Lt q hq).later hb, h.R.later hb, h.ne⟩
theorem SC.allocL {q0 : Nat} (h : SC g ch F F2 p L2 wS i V none vR ids) (e0 : V.heap.size = q0) : SC g ch F F2 p L2 wS i (V.alloc (.cells #[.int .i64 (i : Int)] 3)) (some q0) vR ids := by
 subst e0
 exact
  let h1 := h.later ((Below.refl _ _).alloc (Nat.le_refl _) (.cells #[.int .i64 (i : Int)] 3))
  ⟨h1.kp, h1.sub, h1.cmp, fun q hq => by
    simp only [Option.some.injEq] at hq; subst hq
    exact OwnO.new (i : Int) (fun k hk => (h.cmp.cc.low hk).2) h.kp.size, h1.R, fun q hq e => by
     simp only [Option.some.injEq] at hq; subst hq
     have := (h.R.1.blk e).2; omega⟩
structure SD (g : Cfg) (ch : List Cl -> Int) (F F2 : Nat -> Prop) (p : Nat) (L2 : List Me) (wS : World) (V : World) (v : Value) (l : List Int) : Prop where
 kp : Kp F wS V
 sub : ∀ k, F2 k -> F k \/ wS.heap.size <= k
 cmp : Cmp g ch F2 V p L2
 R : OwnO F2 V wS.heap.size v l
theorem SC.app {q gg cap n : Nat} (hx : Fx g ch) (h : SC g ch F F2 p L2 wS i V (some q) vR ids) (hB : g.B <= wS.heap.size)
 (ho : OwnI V' wS.heap.size (.slice (some ⟨gg, 0, none⟩) n cap) ((i : Int) :: ids)) (hg : V.grownBy V' (some q)) (hn : some q = some gg \/ gg = V.heap.size) : SD g ch F F2 p L2 wS V' (.slice (some ⟨gg, 0, none⟩) n cap) ((i : Int) :: ids) := by
 have hq := h.Lt q rfl;have hqb := hq.1.blk (k := q) rfl;have hqF := hq.2 q rfl
 have hk : Kp (fun k => k = q) V V' := Kp.grown hg fun k hk => by simpa using hk.symm
 refine ⟨h.kp.then (Kp.toBelow hk h.kp.size fun k hk' e => by omega), h.sub, h.cmp.kept hx hk (fun k e => by rw [e]; exact hqF) (fun k e => by omega), ⟨ho, fun k hk hf => ?_⟩⟩
 have : gg = k := by simpa [Value.ownBlock] using hk
 subst this
 rcases hn with hn | hn
 ·simp only [Option.some.injEq] at hn; subst hn; exact hqF hf
 have := (h.cmp.cc.low hf).2; omega
end
end Go.Proofs.YtflhbcnhaeijbaaGreatDoor
