/- Parts of the proofs of laws. Texts: CpW, CpV, CpM, CpP, CpL. -/
import Derived.Test.YtlleofjjdhfgcaaGreatDoorYA20
set_option maxHeartbeats 8000000
set_option maxRecDepth 100000
set_option linter.all false
namespace Go.Proofs.YtlleofjjdhfgcaaGreatDoor
open Go.RowKit Cen
theorem zg6 : ∀ l : List Ce, (∀ e ∈ l, e.xs.length <= 256 /\ litB e.xs) -> (l.flatMap fun e => zcc e.xs).length <= 5377 * l.length
 | [], _ => by simp
 | e :: l, h => by
   have h1 := zg6 l fun x hx => h x (by simp [hx])
   obtain ⟨h2, h3⟩ := h e (by simp)
   have h4 := zu8 (c := e.xs) fun x hx => by have := h3 x hx; omega
   rw [List.flatMap_cons, List.length_append, List.length_cons]; omega
theorem zkb (a : Option Addr) (cap : Nat) (l : List Ce) (w : World) (hl : l.length <= 4096) (hne : l ≠ []) (hx : CcCells w a l) (hs : ∀ e ∈ l, e.xs.length <= 256 /\ litB e.xs) (ht : Tab w) :
 Calls Tryz.prog 146 #[.slice a l.length cap] w fun e w' => e = .returned (.string ⟨(keyC (l.map fun e => e.xs)).toArray⟩) /\ Below w.heap.size w w' := by
 have HX := lh hx;have HT := lh hs;have HTB : Hid (Lib.TabBelow Tryz.prog w.heap.size w "internal/strconv.uint64pow10" .u64 Lib.pow10Tab) := Lib.tabBelow_of_tabIs ht
 have htot : keyC (l.map fun e => e.xs) = l.flatMap fun e => zcc e.xs := by simp [keyC, List.flatMap_map]
 have HTOT := lh htot
 have HLEN : Hid ((keyC (l.map fun e => e.xs)).length <= 22024192) := by show _ <= _; rw [htot]; have := zg6 l hs; omega
 have HNE : Hid (keyC (l.map fun e => e.xs) ≠ []) := by
  show _ ≠ _
  rw [htot]
  match l, hne with
  | e :: l, _ => simp [zcc]
 generalize keyC (l.map fun e => e.xs) = tot at *;clear hx hs ht htot hne;go_enter Tryz.func146, Tryz.ntmps146;go_wp2
 go_loopw [3, 10] (fun v i wr => ∃ k : Nat, k <= l.length /\ i = .int .i64 k /\ OwnB wr w.heap.size v ((l.take k).flatMap fun e => zcc e.xs) /\ Below w.heap.size w wr) (fun _ i _ => l.length - (intOf i).toNat)
 case atStart => exact ⟨0, Nat.zero_le _, rfl, OwnB.nil _ _, Below.refl _ _⟩
 obtain ⟨k, hk, rfl, hown, hb⟩ := hrel;have HO := lh hown;have HB := lh hb;clear hown hb
 by_cases hlt : k < l.length
 ·obtain ⟨b, off, rfl, hc0, hc1, hi⟩ := HX.o k hlt;have d0 := zab HB.o hc0;have d1 := zab HB.o hc1
  have hki : (k : Int) < (l.length : Int) := by omega
  have hmem := List.getElem_mem hlt
  have HXN : Hid ((l.take (k + 1)).flatMap (fun e => zcc e.xs) = (l.take k).flatMap (fun e => zcc e.xs) ++ zcc (gd l k).xs) := by show _ = _; rw [zar hlt]; exact zlm hlt _
  have HPX : Hid (Pfx tot ((l.take k).flatMap (fun e => zcc e.xs) ++ zcc (gd l k).xs)) := ⟨(l.drop (k + 1)).flatMap fun e => zcc e.xs, by rw [HTOT.o, zos hlt, zar hlt]; simp⟩
  have HSM : Hid (∀ x ∈ (gd l k).xs, small x) := fun x hx => by
   have := (HT.o (gd l k) (by rw [zar hlt]; exact hmem)).2 x hx;exact ⟨by omega, by omega⟩
  have hxl := (HT.o (gd l k) (by rw [zar hlt]; exact hmem)).1;have HI := lh hi;have HZ := lh HB.o.size;have hob : HO.o = HO.o := rfl;clear hc0 hc1 hi hmem hob;generalize (gd l k).xs = xs at *;generalize (gd l k).a = xa at *;generalize (gd l k).c = xc at *;generalize (gd l k).i = xi at *;generalize (l.take k).flatMap (fun e => zcc e.xs) = p1 at *;have HOW := lh (HO.o.later ((Below.refl _ _).alloc (Nat.le_refl _) (.cells #[.slice xa xs.length xc, .int .i64 xi] 178)));have HBW := lh (HB.o.alloc HZ.o (.cells #[.slice xa xs.length xc, .int .i64 xi] 178));go_wp2
  go_loopw [3, 17] (fun v i wi => ∃ q : Nat, q <= xs.length /\ i = .int .i64 q /\ OwnB wi w.heap.size v (p1 ++ (xs.take q).flatMap zdl) /\ Below w.heap.size w wi) (fun _ i _ => xs.length - (intOf i).toNat)
  case atStart => exact ⟨0, Nat.zero_le _, rfl, by simpa using HOW.o, HBW.o⟩
  obtain ⟨q, hq, rfl, hown, hb⟩ := hrel;have HO7 := lh hown;have HB7 := lh hb;have HZ7 := lh hb.size;clear hown hb
  by_cases hlt3 : q < xs.length
  ·obtain ⟨b7, off7, rfl, e0'⟩ := HI.o q hlt3
   have hgd : xs.getD q 0 = xs[q] := by simp [List.getD_eq_getElem?_getD, hlt3]
   have HX3 : Hid (p1 ++ (xs.take (q + 1)).flatMap zdl = (p1 ++ (xs.take q).flatMap zdl) ++ Lib.itoa xs[q] ++ [32]) := by
    show _ = _; rw [zlm hlt3]; simp [zdl]
   have HPX3 : Hid (Pfx tot ((p1 ++ (xs.take q).flatMap zdl) ++ (Lib.itoa xs[q] ++ [32]))) := by
    obtain ⟨r, hr⟩ := HPX.o;exact ⟨(xs.drop (q + 1)).flatMap zdl ++ [48] ++ r, by rw [hr]; unfold zcc; rw [zos hlt3]; simp [zdl]⟩
   have HSI : Hid (small xs[q]) := HSM.o _ (List.getElem_mem hlt3);rw [hgd] at e0';generalize xs[q] = y at *;generalize p1 ++ (xs.take q).flatMap zdl = p5 at *;have e0 := zab HB7.o e0'
   have hqi : (q : Int) < (xs.length : Int) := by omega
   have HLQ : Hid (p5.length <= 22024192) := by show _ <= _; have h1 := HPX3.o.left.le; have h2 := HLEN.o; omega
   have HLY : Hid ((Lib.itoa y).length <= 21) := by show _ <= _; have := zra y HSI.o.1 HSI.o.2; omega
   clear hgd e0';go_wp2_with fail;refine (zly w.heap.size y HSI.o _ p5 wr HO7.o HZ7.o (by have := HLQ.o; omega) (HTB.o.on HB7.o)).mono ?_;rintro e w8 ⟨v8, rfl, hown8, hb8, _⟩;have HO8 := lh hown8;have HB8 := lh (HB7.o.trans hb8);have HZ8 := lh (HB7.o.trans hb8).size
   have HL8 : Hid ((p5 ++ Lib.itoa y).length <= 23000000) := by show _ <= _; have h1 := HLQ.o; have h2 := HLY.o; rw [List.length_append]; omega
   clear hown8 hb8;generalize p5 ++ Lib.itoa y = p6 at *;go_wp2_with (at_builtin; refine app1 (C := #[.int .u8 32]) zq1 rfl _ _ rfl w.heap.size _ _ _ rfl HO8.o rfl rfl (by simp [Value.oneCell']) (by unfold maxLen; have := HL8.o; omega) (by have := HL8.o; omega) HZ8.o ?_);intro v9 w9 hown9 hgrow9 _
   have ho9 : OwnB w9 w.heap.size v9 (p6 ++ [32]) := by unfold OwnB; rw [<- zfg, List.length_append]; exact hown9
   have hf9 := zm8 HZ8.o HO8.o (Below.refl _ _) hgrow9;have HO9 := lh ho9;have HB9 := lh (HB8.o.trans hf9.1);clear hown9 hgrow9 hf9 ho9;go_wp2;go_roundw
   case rel => exact ⟨q + 1, by omega, by go_num, by rw [HX3.o]; exact HO9.o, HB9.o⟩
   case measure => simp [intOf]; omega
  have : q = xs.length := by omega
  subst this;have ho := HO7.o;rw [List.take_length] at ho
  have HLQ : Hid ((p1 ++ xs.flatMap zdl).length <= 22024192) := by
   show _ <= _
   have h1 := HPX.o;unfold zcc at h1;rw [<- List.append_assoc] at h1;have h3 := h1.left.le; have h2 := HLEN.o; omega
  have HO3 := lh ho;clear ho
  have HX4 : Hid (p1 ++ zcc xs = (p1 ++ xs.flatMap zdl) ++ [48]) := by show _ = _; simp [zcc]
  generalize p1 ++ xs.flatMap zdl = p6 at *;go_wp2_with (at_builtin; refine app1 (C := #[.int .u8 48]) zq1 rfl _ _ rfl w.heap.size _ _ _ rfl HO3.o rfl rfl (by simp [Value.oneCell']) (by unfold maxLen; have := HLQ.o; omega) (by have := HLQ.o; omega) HZ7.o ?_);intro v8 w8 hown8 hgrow8 _
  have ho8 : OwnB w8 w.heap.size v8 (p6 ++ [48]) := by unfold OwnB; rw [<- zfg, List.length_append]; exact hown8
  have hf8 := zm8 HZ7.o HO3.o (Below.refl _ _) hgrow8;have HO8 := lh ho8;have HB8 := lh (HB7.o.trans hf8.1);clear hown8 hgrow8 hf8 ho8;go_wp2;go_roundw
  case rel => exact ⟨k + 1, by omega, by go_num, by rw [HXN.o, HX4.o]; exact HO8.o, HB8.o⟩
  case measure => simp [intOf]; omega
 have : k = l.length := by omega
 subst this;have ho := HO.o;rw [List.take_length, <- HTOT.o] at ho
 rcases ho.2 with ⟨_, h0⟩ | ⟨g, cap', cur, rfl, _⟩
 ·exact absurd (List.eq_nil_of_length_eq_zero h0) HNE.o
 have hcv := run_convert_bytes_back (P := Tryz.prog) wr 59 9 5 ⟨g, 0, none⟩ cap' tot Tryz.underlying59 Tryz.underlying5 Tryz.underlying9 (fun j hj => ho.cells (g := g) rfl j _ (by simp [Lib.byteCells, hj]));clear ho;go_wp2;go_ret;exact ⟨rfl, HB.o⟩
end Go.Proofs.YtlleofjjdhfgcaaGreatDoor
namespace Cen
def Left1 (n : Nat) (t : List Cl) (term : Cl) (i : Int) (c : Cl) : Prop :=
 ∃ j : Nat, j < t.length /\ i = j /\ taut (t.getD j []) = false /\ (∀ x ∈ term, x ∉ zcg n (t.getD j [])) /\ c = (zcg n (t.getD j [])).filter fun y => !term.contains (-y)
theorem Left1.given {n : Nat} {t : List Cl} {term : Cl} {i : Int} {c : Cl} (h : Left1 n t term i c) {x : Int} (hx : x ∉ c) (h2 : -x ∉ term) : Left1 n t (term ++ [x]) i (c.filter fun y => decide (y ≠ -x)) := by
 obtain ⟨j, hj, hi, ht, h3, rfl⟩ := h;refine ⟨j, hj, hi, ht, fun y hy => ?_, ?_⟩
 ·rcases List.mem_append.1 hy with hy | hy
  ·exact h3 y hy
  simp at hy; subst hy;intro hm;exact hx (List.mem_filter.2 ⟨hm, by simpa using h2⟩)
 rw [List.filter_filter]
 apply List.filter_congr
 intro y _
 by_cases e : y = -x
 ·subst e; simp
 have e2 : ¬ (-y = x) := fun h => e (by omega)
 simp [e, e2]
theorem Left1.off {n : Nat} {t : List Cl} {term : Cl} {i : Int} {c : Cl} (h : Left1 n t term i c) {y : Int} (hy : y ∈ c) : y ∉ term /\ -y ∉ term := by
 obtain ⟨j, hj, hi, ht, h3, rfl⟩ := h;obtain ⟨h4, h5⟩ := List.mem_filter.1 hy;exact ⟨fun h => h3 y h h4, by simpa using h5⟩
def ClOf (n : Nat) (t : List Cl) (l : List Cl) (term : Cl) (at' : List Int) : Prop :=
 ∃ m : List (Int × Cl), at' = zc4 (m.map Prod.fst) /\ m.map Prod.snd = l /\ ∀ e ∈ m, Left1 n t term e.1 e.2
def lmap (st : List Nc) : Go.Lit -> Option Go.Lit
 | .int .i64 x => (st.findIdx? (zdq x)).map fun (i : Nat) => Go.Lit.int .i64 (i : Int)
 | _ => none
def dok (cache : Bool) (st : List Nc) (d : Go.Lit -> Option Go.Lit) : Prop :=
 (∀ s y, d (.string s) = some y -> ∃ i : Nat, y = .int .i64 (i : Int) /\ i < st.length) /\
 (cache = true -> ∀ l : List Cl, (∀ c ∈ l, 0 ∉ c) -> d (.string (keyC l)) = (st.findIdx? (zbt l)).map fun (i : Nat) => Go.Lit.int .i64 (i : Int))
theorem zxv : lmap [] = fun _ => none := by
 funext y
 cases y with
 | int k x => cases k <;> rfl
 | _ => rfl
theorem zg7 (st : List Nc) (x : Int) : lmap st (.int .i64 x) = (st.findIdx? (zdq x)).map fun (i : Nat) => Go.Lit.int .i64 (i : Int) := rfl
theorem zn5 {st : List Nc} {c : Nc} (h : c.nd.kind ≠ 2) : lmap (st ++ [c]) = lmap st := by
 funext y
 cases y with
 | int k x =>
   cases k with
   | i64 =>
     rw [zg7, zg7, List.findIdx?_append]
     have : List.findIdx? (zdq x) [c] = none := by simp [zdq, h]
     rw [this]; cases st.findIdx? (zdq x) <;> rfl
   | _ => rfl
 | _ => rfl
theorem zxu {st : List Nc} {x : Int} (h : st.findIdx? (zdq x) = none) : lmap (st ++ [⟨⟨2, x, []⟩, none⟩]) = fun y => if y.sameKey (.int .i64 x) then some (.int .i64 (st.length : Int)) else lmap st y := by
 funext y
 cases y with
 | int k z =>
   cases k with
   | i64 =>
     rw [zg7, zg7, List.findIdx?_append]
     by_cases e : z = x
     ·subst e;rw [h]; simp [zdq, Go.Lit.sameKey]
     have e2 : ¬ (x = z) := fun h => e h.symm
     have : List.findIdx? (zdq z) [(⟨⟨2, x, []⟩, none⟩ : Nc)] = none := by simp [zdq, e2]
     rw [this]; simp [Go.Lit.sameKey, e]; 
   | _ => simp [lmap, Go.Lit.sameKey]
 | _ => simp [lmap, Go.Lit.sameKey]
theorem zq0 {cache : Bool} {st : List Nc} {c : Nc} {d : Go.Lit -> Option Go.Lit} (h : dok cache st d) (ht : c.tag = none) : dok cache (st ++ [c]) d := by
 refine ⟨fun s y hy => ?_, fun hc l hl => ?_⟩
 ·obtain ⟨i, h1, h2⟩ := h.1 s y hy;exact ⟨i, h1, by simp; omega⟩
 rw [h.2 hc l hl, List.findIdx?_append]
 have : List.findIdx? (zbt l) [c] = none := by simp [zbt, ht]
 rw [this]; cases st.findIdx? (zbt l) <;> rfl
theorem yar {cache : Bool} {st : List Nc} {c : Nc} {l : List Cl} {term : Cl} {d : Go.Lit -> Option Go.Lit} (h : dok cache st d) (ht : c.tag = some (l, term)) (hl : ∀ x ∈ l, 0 ∉ x) (hn : cache = true -> st.findIdx? (zbt l) = none) :
 dok cache (st ++ [c]) (fun y => if y.sameKey (.string (keyC l)) then some (.int .i64 (st.length : Int)) else d y) := by
 refine ⟨fun s y hy => ?_, fun hc m hm => ?_⟩
 ·simp only at hy
  split at hy
  ·simp at hy; exact ⟨st.length, hy.symm, by simp⟩
  obtain ⟨i, h1, h2⟩ := h.1 s y hy;exact ⟨i, h1, by simp; omega⟩
 rw [List.findIdx?_append]
 by_cases e : m = l
 ·subst e;rw [hn hc]; simp [Go.Lit.sameKey, zbt, ht]
 have e1 : ¬ (keyC m = keyC l) := fun h => e (zrc hm hl h)
 have e2 : ¬ (l = m) := fun h => e h.symm
 have : List.findIdx? (zbt m) [c] = none := by simp [zbt, ht, e2]
 rw [this]
 have e3 : (Go.Lit.string (keyC m)).sameKey (Go.Lit.string (keyC l)) = false := by simp [Go.Lit.sameKey, e1]
 show (if (Go.Lit.string (keyC m)).sameKey (Go.Lit.string (keyC l)) = true then some (Go.Lit.int Go.IntKind.i64 (st.length : Int)) else d (Go.Lit.string (keyC m))) = _
 rw [e3, if_neg (by simp), h.2 hc m hm]
 cases st.findIdx? (zbt m) <;> rfl
end Cen
namespace Go.Proofs.YtlleofjjdhfgcaaGreatDoor
open Go.RowKit Cen
structure Me where
 c : Nc
 v : Value
 vt : Value
 va : Value
 tm : List Int
 at' : List Int
def nde (e : Me) : List Value := [.int .i64 e.c.nd.kind, .int .i64 e.c.nd.lit, e.v]
theorem zjo (e : Me) : (nde e).length = 3 := rfl
def cle (e : Me) : List Value := [e.vt, e.va]
theorem zis (e : Me) : (cle e).length = 2 := rfl
theorem yas : Elem 83 149 2 48 (.agg #[.slice none 0 0, .slice none 0 0]) := .mk Tryz.underlying83 (by kernel_rfl) rfl (by decide)
theorem MapL.more {k e : TypeId} {w : World} {b n m : Nat} {f : Lit -> Option Lit} (h : MapL k e w b n f) (hm : n <= m) : MapL k e w b m f := by
 obtain ⟨D, ⟨es, clock, h1, h2, h3, h4⟩, r⟩ := h;exact ⟨D, ⟨es, clock, h1, h2, Nat.le_trans h3 hm, h4⟩, r⟩
structure Cfg where
 B : Nat
 n : Nat
 t : List Cl
 oa : Option Addr
 oc : Nat
 order : List Int
 probe : Bool
 cache : Bool
def ydj (g : Cfg) (e : Me) : Prop := match e.c.tag with
 | none => e.tm = [] /\ e.at' = []
 | some (l, term) => e.tm = term /\ ClOf g.n g.t l term e.at'
structure MeAt (g : Cfg) (F : Nat -> Prop) (w : World) (e : Me) : Prop where
 v : OwnI w g.B e.v e.c.nd.ins
 vF : ∀ k, e.v.ownBlock = some k -> ¬ F k
 vt : OwnI w g.B e.vt e.tm
 vtF : ∀ k, e.vt.ownBlock = some k -> ¬ F k
 va : OwnI w g.B e.va e.at'
 vaF : ∀ k, e.va.ownBlock = some k -> ¬ F k
 tag : ydj g e
theorem OwnI.blk {w : World} {base : Nat} {v : Value} {l : List Int} (h : OwnI w base v l) {k : Nat} (hk : v.ownBlock = some k) : base <= k /\ k < w.heap.size := World.ownsRow.lt h k hk
theorem MeAt.kept {g : Cfg} {F F' M : Nat -> Prop} {w w' : World} {e : Me} (h : MeAt g F w e) (hk : Kp M w w') (hm : ∀ k, M k -> F k) (hF : ∀ k, k < w.heap.size -> F' k -> F k) : MeAt g F' w' e :=
 ⟨h.v.kept hk fun k hv hM => h.vF k hv (hm k hM), fun k hv hf => h.vF k hv (hF k (h.v.blk hv).2 hf),
  h.vt.kept hk fun k hv hM => h.vtF k hv (hm k hM), fun k hv hf => h.vtF k hv (hF k (h.vt.blk hv).2 hf),
  h.va.kept hk fun k hv hM => h.vaF k hv (hm k hM), fun k hv hf => h.vaF k hv (hF k (h.va.blk hv).2 hf), h.tag⟩
def Fr (p lb db : Nat) (nv cv : Value) (k : Nat) : Prop := k = p \/ k = lb \/ k = db \/ nv.ownBlock = some k \/ cv.ownBlock = some k
structure CAt (g : Cfg) (w : World) (p lb db : Nat) (nv cv : Value) (L : List Me) (m : Nat) (f d : Lit -> Option Lit) : Prop where
 blk : Blk w p #[.int .i64 g.n, .slice g.oa g.order.length g.oc, .bool g.probe, .bool g.cache, nv, cv, .map (some lb), .map (some db)] 141
 rn : OwnL nde 147 3 w g.B nv L
 rc : OwnL cle 149 2 w g.B cv L
 me : ∀ e ∈ L, MeAt g (Fr p lb db nv cv) w e
 lm : MapL 3 3 w lb m f
 dm : MapL 9 3 w db m d
 s1 : p ≠ lb /\ p ≠ db /\ lb ≠ db
 s2 : nv.ownBlock ≠ some p /\ nv.ownBlock ≠ some lb /\ nv.ownBlock ≠ some db
 s3 : cv.ownBlock ≠ some p /\ cv.ownBlock ≠ some lb /\ cv.ownBlock ≠ some db
 s4 : ∀ k, nv.ownBlock = some k -> cv.ownBlock ≠ some k
 lo : g.B <= p /\ g.B <= lb /\ g.B <= db
 bd : L.length <= 65536
def Hd (L : List Me) (k : Nat) : Prop := ∃ e ∈ L, e.v.ownBlock = some k \/ e.vt.ownBlock = some k \/ e.va.ownBlock = some k
def CS (g : Cfg) (F : Nat -> Prop) (w : World) (p : Nat) (L : List Me) (m : Nat) (f d : Lit -> Option Lit) : Prop :=
 ∃ lb db nv cv, CAt g w p lb db nv cv L m f d /\ ∀ k, F k ↔ (Fr p lb db nv cv k \/ Hd L k)
theorem CAt.later {g : Cfg} {w w' : World} {p lb db : Nat} {nv cv : Value} {L : List Me} {m : Nat} {f d : Lit -> Option Lit} (h : CAt g w p lb db nv cv L m f d) (hb : Below w.heap.size w w') : CAt g w' p lb db nv cv L m f d :=
 ⟨h.blk.later hb, h.rn.later hb, h.rc.later hb, fun e he => (h.me e he).kept (Kp.below (M := fun _ => False) hb) (fun _ hf => hf.elim) (fun _ _ hf => hf), h.lm.later hb, h.dm.later hb, h.s1, h.s2, h.s3, h.s4, h.lo, h.bd⟩
theorem CS.later {g : Cfg} {F : Nat -> Prop} {w w' : World} {p : Nat} {L : List Me} {m : Nat} {f d : Lit -> Option Lit} (h : CS g F w p L m f d) (hb : Below w.heap.size w w') : CS g F w' p L m f d :=
 let ⟨lb, db, nv, cv, h1, h2⟩ := h; ⟨lb, db, nv, cv, h1.later hb, h2⟩
theorem CS.low {g : Cfg} {F : Nat -> Prop} {w : World} {p : Nat} {L : List Me} {m : Nat} {f d : Lit -> Option Lit} (h : CS g F w p L m f d) {k : Nat} (hk : F k) : g.B <= k /\ k < w.heap.size := by
 obtain ⟨lb, db, nv, cv, h1, h2⟩ := h
 rcases (h2 k).1 hk with (rfl | rfl | rfl | hk | hk) | ⟨e, he, hk | hk | hk⟩
 ·exact ⟨h1.lo.1, h1.blk.lt⟩
 ·exact ⟨h1.lo.2.1, h1.lm.lt⟩
 ·exact ⟨h1.lo.2.2, h1.dm.lt⟩
 ·exact World.ownsRow.lt h1.rn k hk
 ·exact World.ownsRow.lt h1.rc k hk
 ·exact (h1.me e he).v.blk hk
 ·exact (h1.me e he).vt.blk hk
 exact (h1.me e he).va.blk hk
theorem CS.kept {g : Cfg} {F M : Nat -> Prop} {w w' : World} {p : Nat} {L : List Me} {m : Nat} {f d : Lit -> Option Lit} (h : CS g F w p L m f d) (hk : Kp M w w') (hM : ∀ k, M k -> ¬ F k) : CS g F w' p L m f d := by
 obtain ⟨lb, db, nv, cv, h1, h2⟩ := h
 have hn : ∀ k, Fr p lb db nv cv k -> ¬ M k := fun k hf hm => hM k hm ((h2 k).2 (.inl hf))
 refine ⟨lb, db, nv, cv, ⟨h1.blk.kept hk (hn _ (.inl rfl)), h1.rn.kept hk fun k hv => hn k (.inr (.inr (.inr (.inl hv)))), h1.rc.kept hk fun k hv => hn k (.inr (.inr (.inr (.inr hv)))), fun e he => ?_,
  h1.lm.kept hk (hn _ (.inr (.inl rfl))), h1.dm.kept hk (hn _ (.inr (.inr (.inl rfl)))), h1.s1, h1.s2, h1.s3, h1.s4, h1.lo, h1.bd⟩, h2⟩
 have hm := h1.me e he
 exact ⟨hm.v.kept hk fun k hv hx => hM k hx ((h2 k).2 (.inr ⟨e, he, .inl hv⟩)), hm.vF, hm.vt.kept hk fun k hv hx => hM k hx ((h2 k).2 (.inr ⟨e, he, .inr (.inl hv)⟩)), hm.vtF,
  hm.va.kept hk fun k hv hx => hM k hx ((h2 k).2 (.inr ⟨e, he, .inr (.inr hv)⟩)), hm.vaF, hm.tag⟩
theorem zz9 {g : Cfg} {w w3 w5 : World} {p lb db g3 g5 cap3 cap5 : Nat} {nv cv : Value} {L : List Me} {m : Nat} {f d : Lit -> Option Lit} {e : Me} {w1 : World}
 (h : CAt g w p lb db nv cv L m f d) (he : MeAt g (Fr p lb db nv cv) w e) (hl : L.length < 65536) (hb1 : Below w.heap.size w w1)
 (hg3 : w1.grownBy w3 nv.ownBlock) (ho3 : OwnL nde 147 3 w3 g.B (.slice (some ⟨g3, 0, none⟩) (L.length + 1) cap3) (L ++ [e])) (h3 : nv.ownBlock = some g3 \/ w1.heap.size <= g3)
 (hg5 : (w3.setCell ⟨p, 4, none⟩ (.slice (some ⟨g3, 0, none⟩) (L.length + 1) cap3)).grownBy w5 cv.ownBlock) (ho5 : OwnL cle 149 2 w5 g.B (.slice (some ⟨g5, 0, none⟩) (L.length + 1) cap5) (L ++ [e])) (h5 : cv.ownBlock = some g5 \/ w3.heap.size <= g5)
 (hblk : Blk w5 p #[.int .i64 g.n, .slice g.oa g.order.length g.oc, .bool g.probe, .bool g.cache, .slice (some ⟨g3, 0, none⟩) (L.length + 1) cap3, cv, .map (some lb), .map (some db)] 141) :
 CAt g (w5.setCell ⟨p, 5, none⟩ (.slice (some ⟨g5, 0, none⟩) (L.length + 1) cap5)) p lb db (.slice (some ⟨g3, 0, none⟩) (L.length + 1) cap3) (.slice (some ⟨g5, 0, none⟩) (L.length + 1) cap5) (L ++ [e]) m f d /\
 Kp (Fr p lb db nv cv) w (w5.setCell ⟨p, 5, none⟩ (.slice (some ⟨g5, 0, none⟩) (L.length + 1) cap5)) /\
 ∀ k, Fr p lb db (.slice (some ⟨g3, 0, none⟩) (L.length + 1) cap3) (.slice (some ⟨g5, 0, none⟩) (L.length + 1) cap5) k -> Fr p lb db nv cv k \/ w.heap.size <= k := by
 have hpl : p < w.heap.size := h.blk.lt;have hll := h.lm.lt;have hdl := h.dm.lt;have hz1 := hb1.size;have hz3 : w1.heap.size <= w3.heap.size := hg3.size
 have hk3 : Kp (fun k => nv.ownBlock = some k) w1 w3 := Kp.grown hg3 fun k hk => hk
 have hks : Kp (fun k => k = p) w3 (w3.setCell ⟨p, 4, none⟩ (.slice (some ⟨g3, 0, none⟩) (L.length + 1) cap3)) := Kp.setCell _ _ _ rfl
 have hk5 : Kp (fun k => cv.ownBlock = some k) (w3.setCell ⟨p, 4, none⟩ (.slice (some ⟨g3, 0, none⟩) (L.length + 1) cap3)) w5 := Kp.grown hg5 fun k hk => hk
 have hks2 : Kp (fun k => k = p) w5 (w5.setCell ⟨p, 5, none⟩ (.slice (some ⟨g5, 0, none⟩) (L.length + 1) cap5)) := Kp.setCell _ _ _ rfl
 have hkF : Kp (Fr p lb db nv cv) w (w5.setCell ⟨p, 5, none⟩ (.slice (some ⟨g5, 0, none⟩) (L.length + 1) cap5)) :=
  (Kp.below (M := Fr p lb db nv cv) hb1).trans ((hk3.mono fun k _ hk => .inr (.inr (.inr (.inl hk)))).trans ((hks.mono fun k _ hk => .inl hk).trans ((hk5.mono fun k _ hk => .inr (.inr (.inr (.inr hk)))).trans (hks2.mono fun k _ hk => .inl hk))))
 have n3 : g3 ≠ p /\ g3 ≠ lb /\ g3 ≠ db := by
  rcases h3 with h4 | h4
  ·exact ⟨fun x => h.s2.1 (x ▸ h4), fun x => h.s2.2.1 (x ▸ h4), fun x => h.s2.2.2 (x ▸ h4)⟩
  exact ⟨by omega, by omega, by omega⟩
 have n5 : g5 ≠ p /\ g5 ≠ lb /\ g5 ≠ db := by
  rcases h5 with h4 | h4
  ·exact ⟨fun x => h.s3.1 (x ▸ h4), fun x => h.s3.2.1 (x ▸ h4), fun x => h.s3.2.2 (x ▸ h4)⟩
  exact ⟨by omega, by omega, by omega⟩
 have l3 : g3 < w3.heap.size := ho3.lt.1
 have c3 : ¬ (cv.ownBlock = some g3) := fun x => by
  rcases h3 with h4 | h4
  ·exact h.s4 g3 h4 x
  have := (World.ownsRow.lt h.rc g3 x).2; omega
 have n35 : g3 ≠ g5 := by
  rcases h5 with h4 | h4
  ·intro x; exact c3 (x ▸ h4)
  omega
 have hsub : ∀ k, Fr p lb db (.slice (some ⟨g3, 0, none⟩) (L.length + 1) cap3) (.slice (some ⟨g5, 0, none⟩) (L.length + 1) cap5) k -> Fr p lb db nv cv k \/ w.heap.size <= k := fun k hk => by
  rcases hk with hk | hk | hk | hk | hk
  ·exact .inl (.inl hk)
  ·exact .inl (.inr (.inl hk))
  ·exact .inl (.inr (.inr (.inl hk)))
  ·simp [Value.ownBlock] at hk; subst hk
   rcases h3 with h4 | h4
   ·exact .inl (.inr (.inr (.inr (.inl h4))))
   exact .inr (by omega)
  simp [Value.ownBlock] at hk; subst hk
  rcases h5 with h4 | h4
  ·exact .inl (.inr (.inr (.inr (.inr h4))))
  exact .inr (by omega)
 refine ⟨⟨?_, ?_, ?_, ?_, ?_, ?_, h.s1, ?_, ?_, ?_, h.lo, by rw [List.length_append]; simp; omega⟩, hkF, hsub⟩
 ·exact hblk.set 5 _
 ·have e1 : (L ++ [e]).length = L.length + 1 := by simp
  have o4 : OwnL nde 147 3 (w3.setCell ⟨p, 4, none⟩ (.slice (some ⟨g3, 0, none⟩) (L.length + 1) cap3)) g.B (.slice (some ⟨g3, 0, none⟩) (L.length + 1) cap3) (L ++ [e]) := ho3.kept hks fun k hk => by simp [Value.ownBlock] at hk; subst hk; exact n3.1
  have o5 := o4.kept hk5 fun k hk => by simp [Value.ownBlock] at hk; subst hk; exact c3
  exact o5.kept hks2 fun k hk => by simp [Value.ownBlock] at hk; subst hk; exact n3.1
 ·exact ho5.kept hks2 fun k hk => by simp [Value.ownBlock] at hk; subst hk; exact n5.1
 ·intro x hx
  have hx' : MeAt g (Fr p lb db nv cv) w x := by
   rcases List.mem_append.1 hx with hx | hx
   ·exact h.me x hx
   simp at hx; subst hx; exact he
  exact hx'.kept hkF (fun _ hk => hk) fun k hkw hk => (hsub k hk).elim id fun h => by omega
 ·have m1 := h.lm.later hb1;have m3 := m1.kept hk3 h.s2.2.1
  have m4 := m3.kept hks fun x => h.s1.1 x.symm
  have m5 := m4.kept hk5 h.s3.2.1
  exact m5.kept hks2 fun x => h.s1.1 x.symm
 ·have m1 := h.dm.later hb1;have m3 := m1.kept hk3 h.s2.2.2
  have m4 := m3.kept hks fun x => h.s1.2.1 x.symm
  have m5 := m4.kept hk5 h.s3.2.2
  exact m5.kept hks2 fun x => h.s1.2.1 x.symm
 ·simp [Value.ownBlock]; exact n3
 ·simp [Value.ownBlock]; exact n5
 intro k hk; simp [Value.ownBlock] at hk ⊢; subst hk; exact fun x => n35 x.symm
theorem CAt.lits {g : Cfg} {w w' : World} {p lb db : Nat} {nv cv : Value} {L : List Me} {m : Nat} {f f' d : Lit -> Option Lit} (h : CAt g w p lb db nv cv L m f d) (hm : MapL 3 3 w' lb (m + 1) f') (hg : w.grownBy w' (some lb)) :
 CAt g w' p lb db nv cv L (m + 1) f' d /\ Kp (Fr p lb db nv cv) w w' := by
 have hk : Kp (fun k => k = lb) w w' := Kp.grown hg fun k hk => by simp only [Option.some.injEq] at hk; exact hk.symm
 have hkF : Kp (Fr p lb db nv cv) w w' := hk.mono fun k _ hk => .inr (.inl hk)
 refine ⟨⟨h.blk.kept hk h.s1.1, h.rn.kept hk fun k hv e => h.s2.2.1 (by rw [hv, e]), h.rc.kept hk fun k hv e => h.s3.2.1 (by rw [hv, e]), fun e he => (h.me e he).kept hkF (fun _ hk => hk) (fun _ _ hk => hk), hm, ?_, h.s1, h.s2, h.s3, h.s4, h.lo, h.bd⟩, hkF⟩;exact (h.dm.kept hk fun e => h.s1.2.2 e.symm).more (Nat.le_succ _)
theorem CAt.dones {g : Cfg} {w w' : World} {p lb db : Nat} {nv cv : Value} {L : List Me} {m : Nat} {f d d' : Lit -> Option Lit} (h : CAt g w p lb db nv cv L m f d) (hm : MapL 9 3 w' db (m + 1) d') (hg : w.grownBy w' (some db)) :
 CAt g w' p lb db nv cv L (m + 1) f d' /\ Kp (Fr p lb db nv cv) w w' := by
 have hk : Kp (fun k => k = db) w w' := Kp.grown hg fun k hk => by simp only [Option.some.injEq] at hk; exact hk.symm
 have hkF : Kp (Fr p lb db nv cv) w w' := hk.mono fun k _ hk => .inr (.inr (.inl hk))
 refine ⟨⟨h.blk.kept hk h.s1.2.1, h.rn.kept hk fun k hv e => h.s2.2.2 (by rw [hv, e]), h.rc.kept hk fun k hv e => h.s3.2.2 (by rw [hv, e]), fun e he => (h.me e he).kept hkF (fun _ hk => hk) (fun _ _ hk => hk), ?_, hm, h.s1, h.s2, h.s3, h.s4, h.lo, h.bd⟩, hkF⟩;exact (h.lm.kept hk fun e => h.s1.2.2 e).more (Nat.le_succ _)
def CC (g : Cfg) (F : Nat -> Prop) (w : World) (p : Nat) (L : List Me) : Prop :=
 ∃ m d, m <= L.length /\ CS g F w p L m (lmap (L.map fun e => e.c)) d /\ dok g.cache (L.map fun e => e.c) d
theorem CC.later {g : Cfg} {F : Nat -> Prop} {w w' : World} {p : Nat} {L : List Me} (h : CC g F w p L) (hb : Below w.heap.size w w') : CC g F w' p L :=
 let ⟨m, d, h1, h2, h3⟩ := h; ⟨m, d, h1, h2.later hb, h3⟩
theorem CC.kept {g : Cfg} {F M : Nat -> Prop} {w w' : World} {p : Nat} {L : List Me} (h : CC g F w p L) (hk : Kp M w w') (hM : ∀ k, M k -> ¬ F k) : CC g F w' p L :=
 let ⟨m, d, h1, h2, h3⟩ := h; ⟨m, d, h1, h2.kept hk hM, h3⟩
theorem CC.low {g : Cfg} {F : Nat -> Prop} {w : World} {p : Nat} {L : List Me} (h : CC g F w p L) {k : Nat} (hk : F k) : g.B <= k /\ k < w.heap.size :=
 let ⟨_, _, _, h2, _⟩ := h; h2.low hk
theorem Kp.trans' {F F' : Nat -> Prop} {w w' w'' : World} (h : Kp F w w') (k : Kp F' w' w'') (hs : ∀ x, F' x -> F x \/ w.heap.size <= x) : Kp F w w'' :=
 ⟨k.os.trans h.os, k.tape.trans h.tape, k.output.trans h.output, Nat.le_trans h.size k.size, fun x hx hn =>
   (k.block x (Nat.lt_of_lt_of_le hx h.size) fun hf => (hs x hf).elim hn fun h1 => by omega).trans (h.block x hx hn)⟩
def Aft (g : Cfg) (F : Nat -> Prop) (p : Nat) (st' : List Nc) (w w' : World) (F' : Nat -> Prop) : Prop :=
 (∃ L', L'.map (fun e => e.c) = st' /\ CC g F' w' p L') /\ Kp F w w' /\ ∀ k, F' k -> F k \/ w.heap.size <= k
theorem Aft.refl {g : Cfg} {F : Nat -> Prop} {w w' : World} {p : Nat} {L : List Me} (h : CC g F w p L) (hb : Below w.heap.size w w') : Aft g F p (L.map fun e => e.c) w w' F :=
 ⟨⟨L, rfl, h.later hb⟩, Kp.below hb, fun _ h => .inl h⟩
theorem Aft.trans {g : Cfg} {F F' F'' : Nat -> Prop} {w w' w'' : World} {p : Nat} {st st' : List Nc} (h : Aft g F p st w w' F') (k : Aft g F' p st' w' w'' F'') : Aft g F p st' w w'' F'' := by
 refine ⟨k.1, ?_, fun x hx => ?_⟩
 ·exact h.2.1.trans' k.2.1 h.2.2
 rcases k.2.2 x hx with h1 | h1
 ·exact h.2.2 x h1
 exact .inr (Nat.le_trans h.2.1.size h1)
theorem zim (g : Cfg) (F : Nat -> Prop) (p : Nat) (L : List Me) (m : Nat) (f d : Lit -> Option Lit) (e : Me) (w : World) (h : CS g F w p L m f d) (he : MeAt g F w e) (hl : L.length < 65536) (hB : g.B <= w.heap.size) :
 Calls Tryz.prog 70 #[.pointer (some ⟨p, 0, none⟩), .agg #[.int .i64 e.c.nd.kind, .int .i64 e.c.nd.lit, e.v], .agg #[e.vt, e.va]] w
  fun r w' => r = .returned (.int .i64 L.length) /\ ∃ F', CS g F' w' p (L ++ [e]) m f d /\ Kp F w w' /\ ∀ k, F' k -> F k \/ w.heap.size <= k \/ Hd [e] k := by
 obtain ⟨lb, db, nv, cv, hAt, hF⟩ := h
 have he' : MeAt g (Fr p lb db nv cv) w e := he.kept (Kp.refl (fun _ => False) w) (fun _ h => h.elim) fun k _ hk => (hF k).2 (.inl hk)
 obtain ⟨na, nc, rfl⟩ := hAt.rn.sliced;obtain ⟨ca, cc, rfl⟩ := hAt.rc.sliced;obtain ⟨⟨⟨kind, lit, ins⟩, tag⟩, v, vt, va, tm, at'⟩ := e;obtain ⟨av, c1, hv⟩ := he'.v.sliced;obtain ⟨at1, c2, hvt⟩ := he'.vt.sliced;obtain ⟨aa1, c3, hva⟩ := he'.va.sliced;simp only at hv hvt hva
 obtain ⟨e, hee⟩ : ∃ e : Me, e = ⟨⟨⟨kind, lit, ins⟩, tag⟩, v, vt, va, tm, at'⟩ := ⟨_, rfl⟩
 have hen : nde e = [.int .i64 kind, .int .i64 lit, v] := by rw [hee]; rfl
 have hec : cle e = [vt, va] := by rw [hee]; rfl
 rw [<- hee] at he';have HE := lh he';have HAT := lh hAt;have HEE := lh hee
 have HON : Hid (∀ u ∈ nde e, u.oneCell' = true) := by intro u hu; rw [hen] at hu; simp at hu; rcases hu with rfl | rfl | rfl <;> first | rfl | (rw [hv]; rfl)
 have HOC : Hid (∀ u ∈ cle e, u.oneCell' = true) := by intro u hu; rw [hec] at hu; simp at hu; rcases hu with rfl | rfl <;> first | (rw [hvt]; rfl) | (rw [hva]; rfl)
 have HEN := lh hen;have HEC := lh hec;obtain ⟨w0, hw0⟩ := nm ((w.alloc (.cells #[.int .i64 kind, .int .i64 lit, v] 147)).alloc (.cells #[vt, va] 149))
 have hb0 : Below w.heap.size w w0 := by rw [hw0]; exact (ba _ _).alloc (by simp) _
 have hx0 : Blk w0 w.heap.size #[.int .i64 kind, .int .i64 lit, v] 147 := by rw [hw0]; exact (Blk.new w _ _).alloc _
 have hx1 : Blk w0 (w.heap.size + 1) #[vt, va] 149 := by rw [hw0]; exact Blk.new' _ (by simp) _ _
 have hs0 : w0.heap.size = w.heap.size + 2 := by rw [hw0]; simp
 have hbk := hAt.blk.later hb0;have k4 : w0.cell? ⟨p, 4, none⟩ = some (.slice na L.length nc) := hbk.cell 4;have hpz : p < w.heap.size := hAt.blk.lt;have k4' : w.cell? ⟨p, 4, none⟩ = some (.slice na L.length nc) := hAt.blk.cell 4;have j0 : w0.cell? ⟨w.heap.size, 0, none⟩ = some (.int .i64 kind) := hx0.cell 0;have j1 : w0.cell? ⟨w.heap.size, 1, none⟩ = some (.int .i64 lit) := hx0.cell 1;have j2 : w0.cell? ⟨w.heap.size, 2, none⟩ = some v := hx0.cell 2
 have h65 : decide ((L.length : Int) = 65536) = false := by simp; omega
 have h65' : ((L.length : Int) == 65536) = false := by simp; omega
 have HL := lh hl;have HX1 := lh hx1;have HS0 := lh hs0;have HB0 := lh hb0;have HBK := lh hbk
 have HZB : Hid (g.B <= w0.heap.size) := by show _ <= _; omega
 have HRW : Hid (OwnL nde 147 3 w0 g.B (.slice na L.length nc) L) := hAt.rn.later hb0
 have HNW : Hid (∀ j u, (nde e)[j]? = some u -> (w0.alloc (.cells #[.int .i64 kind, .int .i64 lit, v] 147)).cell? ⟨w0.heap.size, j, none⟩ = some u) := fun j u h => by
  rw [World.cell?_alloc_at _ _ _ _ rfl]; rw [HEN.o] at h; simpa using h
 have HLL : Hid (L.length <= 1073741824) := by show _ <= _; omega
 have HSP : Hid (¬ ((Value.slice na L.length nc).ownBlock = some p)) := hAt.s2.1
 have HN1 : Hid (∀ k, (Value.slice na L.length nc).ownBlock = some k -> k < w.heap.size) := fun k hk => (World.ownsRow.lt hAt.rn k hk).2
 have hpz0 : p < w0.heap.size := by omega
 have hwz0 : w.heap.size < w0.heap.size := by omega
 clear hAt he he' hv hvt hva hee hen hec hb0 hx0 hx1 hs0 hbk hl;go_enter Tryz.func70, Tryz.ntmps70;go_wp2_with fail;rw [<- hw0];clear hw0;go_wp2_with fail
 go_region_law (first | (refine zd1 ycj rfl _ _ rfl g.B (.slice na L.length nc) L e rfl (HRW.o.alloc _).drew w0.heap.size rfl rfl HNW.o HON.o HLL.o (by decide) (Nat.le_trans HZB.o (by simp [World.drew])) ?_; intro g3 cap3 w3 ho3 hg3 hl3; have hk3 := Kp.grown (M := fun k => (Value.slice na L.length nc).ownBlock = some k) hg3 (fun k hk => hk); have hb3 : Blk w3 p #[.int .i64 g.n, .slice g.oa g.order.length g.oc, .bool g.probe, .bool g.cache, .slice na L.length nc, .slice ca L.length cc, .map (some lb), .map (some db)] 141 := Blk.kept (by exact HBK.o.alloc _) hk3 HSP.o; have m1 : w3.cell? ⟨p, 4, none⟩ = some (.slice na L.length nc) := hb3.cell 4; have m2 := hb3.fr 4))
 all_goals
  have HG3 : Hid (w0.grownBy w3 (Value.slice na L.length nc).ownBlock) := by first | exact zcb hg3 | exact zb6 hg3
  have HO3 := lh ho3;have HL3 : Hid ((Value.slice na L.length nc).ownBlock = some g3 \/ w0.heap.size <= g3) := hl3.imp id (fun h => by rw [h]; simp)
  have hkg : Kp (fun k => (Value.slice na L.length nc).ownBlock = some k) w0 w3 := Kp.grown HG3.o fun k hk => hk
  have hks : Kp (fun k => k = p) w3 (w3.setCell ⟨p, 4, none⟩ (.slice (some ⟨g3, 0, none⟩) (L.length + 1) cap3)) := Kp.setCell _ _ _ rfl;have HB3 : Hid (Blk (w3.setCell ⟨p, 4, none⟩ (.slice (some ⟨g3, 0, none⟩) (L.length + 1) cap3)) p #[.int .i64 g.n, .slice g.oa g.order.length g.oc, .bool g.probe, .bool g.cache, .slice (some ⟨g3, 0, none⟩) (L.length + 1) cap3, .slice ca L.length cc, .map (some lb), .map (some db)] 141) := hb3.set 4 _
  have HX3 : Hid (Blk (w3.setCell ⟨p, 4, none⟩ (.slice (some ⟨g3, 0, none⟩) (L.length + 1) cap3)) (w.heap.size + 1) #[vt, va] 149) := (HX1.o.kept hkg fun e => by have := HN1.o _ e; omega).kept hks fun e => by omega
  have HRC : Hid (OwnL cle 149 2 (w3.setCell ⟨p, 4, none⟩ (.slice (some ⟨g3, 0, none⟩) (L.length + 1) cap3)) g.B (.slice ca L.length cc) L) :=
   ((HAT.o.rc.later HB0.o).kept hkg fun k hk e => HAT.o.s4 k e hk).kept hks fun k hk e => HAT.o.s3.1 (by rw [<- e]; exact hk)
  have HZ3 : Hid (w0.heap.size <= (w3.setCell ⟨p, 4, none⟩ (.slice (some ⟨g3, 0, none⟩) (L.length + 1) cap3)).heap.size) := Nat.le_trans hkg.size hks.size;clear hg3 ho3 hl3 hk3 hb3 hkg hks m1 m2;obtain ⟨W3, hW3⟩ := nm (w3.setCell ⟨p, 4, none⟩ (.slice (some ⟨g3, 0, none⟩) (L.length + 1) cap3));rw [<- hW3] at HB3 HX3 HRC HZ3;rw [<- hW3];have HW3 := lh hW3;clear hW3;have n5 : W3.cell? ⟨p, 5, none⟩ = some (.slice ca L.length cc) := HB3.o.cell 5;have i0 : W3.cell? ⟨w.heap.size + 1, 0, none⟩ = some vt := HX3.o.cell 0;have i1 : W3.cell? ⟨w.heap.size + 1, 1, none⟩ = some va := HX3.o.cell 1;have hpz3 : p < W3.heap.size := HB3.o.lt
  have hwz3 : w.heap.size + 1 < W3.heap.size := HX3.o.lt
  have HNC : Hid (∀ j u, (cle e)[j]? = some u -> (W3.alloc (.cells #[vt, va] 149)).cell? ⟨W3.heap.size, j, none⟩ = some u) := fun j u h => by
   rw [World.cell?_alloc_at _ _ _ _ rfl]; rw [HEC.o] at h; simpa using h
  have HSC : Hid (¬ ((Value.slice ca L.length cc).ownBlock = some p)) := HAT.o.s3.1;go_wp2_with fail
  go_region_law (first | (refine zd1 yas rfl _ _ rfl g.B (.slice ca L.length cc) L e rfl (HRC.o.alloc _).drew W3.heap.size rfl rfl HNC.o HOC.o HLL.o (by decide) (Nat.le_trans HZB.o (Nat.le_trans HZ3.o (by simp [World.drew]))) ?_; intro g5 cap5 w5 ho5 hg5 hl5; have hk5 := Kp.grown (M := fun k => (Value.slice ca L.length cc).ownBlock = some k) hg5 (fun k hk => hk); have hb5 : Blk w5 p #[.int .i64 g.n, .slice g.oa g.order.length g.oc, .bool g.probe, .bool g.cache, .slice (some ⟨g3, 0, none⟩) (L.length + 1) cap3, .slice ca L.length cc, .map (some lb), .map (some db)] 141 := Blk.kept (by exact HB3.o.alloc _) hk5 HSC.o; have m1 : w5.cell? ⟨p, 5, none⟩ = some (.slice ca L.length cc) := hb5.cell 5; have m2 := hb5.fr 5))
  all_goals
   have HG5 : Hid (W3.grownBy w5 (Value.slice ca L.length cc).ownBlock) := by first | exact zcb hg5 | exact zb6 hg5
   have HO5 := lh ho5;have HL5 : Hid ((Value.slice ca L.length cc).ownBlock = some g5 \/ W3.heap.size <= g5) := hl5.imp id (fun h => by rw [h]; simp);have HB5 := lh hb5;have m4 : w5.cell? ⟨p, 4, none⟩ = some (.slice (some ⟨g3, 0, none⟩) (L.length + 1) cap3) := hb5.cell 4;clear hg5 ho5 hl5 hk5 hb5;have hll := HL.o;go_wp2;go_ret;have h3 := HW3.o;subst h3;have hend := zz9 HAT.o HE.o HL.o HB0.o HG3.o HO3.o HL3.o HG5.o HO5.o (HL5.o.imp id fun h => by simpa [World.setCell] using h) HB5.o;obtain ⟨z1, z2, z3⟩ := hend;have hee := HEE.o;subst hee;refine ⟨rfl, _, ⟨lb, db, _, _, z1, fun k => Iff.rfl⟩, z2.mono fun k _ hk => (hF k).2 (.inl hk), fun k hk => ?_⟩
   rcases hk with hk | ⟨y, hy, hk⟩
   ·exact (z3 k hk).imp (fun h => (hF k).2 (.inl h)) .inl
   rcases List.mem_append.1 hy with hy | hy
   ·exact .inl ((hF k).2 (.inr ⟨y, hy, hk⟩))
   exact .inr (.inr ⟨y, hy, hk⟩)
def zkj (x : Int) : Me := ⟨⟨⟨2, x, []⟩, none⟩, .slice none 0 0, .slice none 0 0, .slice none 0 0, [], []⟩
theorem zxs (g : Cfg) (F : Nat -> Prop) (w : World) (x : Int) : MeAt g F w (zkj x) :=
 ⟨OwnL.nil _ _, fun k h => by simp [zkj, Value.ownBlock] at h, OwnL.nil _ _, fun k h => by simp [zkj, Value.ownBlock] at h, OwnL.nil _ _, fun k h => by simp [zkj, Value.ownBlock] at h, ⟨rfl, rfl⟩⟩
theorem zfn (g : Cfg) (F : Nat -> Prop) (p : Nat) (L : List Me) (x : Int) (w : World) (h : CC g F w p L) (hx1 : -128 <= x) (hx2 : x <= 128) (hl : (litF (L.map fun e => e.c) x).1.length <= 65536) (hB : g.B <= w.heap.size) :
 Calls Tryz.prog 105 #[.pointer (some ⟨p, 0, none⟩), .int .i64 x] w
  fun r w' => r = .returned (.int .i64 (litF (L.map fun e => e.c) x).2) /\ ∃ F', Aft g F p (litF (L.map fun e => e.c) x).1 w w' F' := by
 obtain ⟨m, d, hm, hcs, hdok⟩ := h
 have hcc : CC g F w p L := ⟨m, d, hm, hcs, hdok⟩
 obtain ⟨lb, db, nv, cv, hAt, hF⟩ := hcs;have HKF : Hid (keyOf Tryz.prog 3 (.int .i64 x) = some (.int .i64 x)) := Go.Maps.keyOf_int_mk Tryz.underlying3 (WalkArith.wf_i64 (by omega));have HMP := lh hAt.lm;have k6 : w.cell? ⟨p, 6, none⟩ = some (.map (some lb)) := hAt.blk.cell 6;have HCC := lh hcc
 cases hfi : (L.map fun e => e.c).findIdx? (zdq x) with
 | some i =>
   have HP : Hid (litF (L.map fun e => e.c) x = (L.map fun e => e.c, i)) := by show _ = _; unfold litF; rw [hfi]
   have HBI : Hid (lmap (L.map fun e => e.c) (.int .i64 x) = some (.int .i64 (i : Int))) := by show _ = _; rw [zg7, hfi]; rfl
   clear hfi hl hAt hcc hdok;go_enter Tryz.func105, Tryz.ntmps105;go_wp2_with (at_lookup; refine ze4 rfl _ _ rfl zjb Tryz.underlying138 Tryz.underlying3 zgt rfl HMP.o _ _ rfl HKF.o ?_; rw [HBI.o]);go_ret;rw [HP.o];exact ⟨rfl, F, Aft.refl HCC.o (Below.refl _ _)⟩
 | none =>
   have HP : Hid (litF (L.map fun e => e.c) x = ((L.map fun e => e.c) ++ [⟨⟨2, x, []⟩, none⟩], L.length)) := by show _ = _; unfold litF; rw [hfi]; simp
   have HBI : Hid (lmap (L.map fun e => e.c) (.int .i64 x) = none) := by show _ = _; rw [zg7, hfi]; rfl
   have hll : L.length < 65536 := by
    have := HP.o;rw [this] at hl; simp at hl; omega
   have HADD := lh (zim g F p L m _ d (zkj x) w ⟨lb, db, nv, cv, hAt, hF⟩ (zxs _ _ _ _) hll hB);have HLM := lh (zxu hfi);have HDK : Hid (dok g.cache ((L.map fun e => e.c) ++ [⟨⟨2, x, []⟩, none⟩]) d) := zq0 hdok rfl;have HLL := lh hll;have HM := lh hm;clear hfi hl hAt hcc hdok hm;go_enter Tryz.func105, Tryz.ntmps105;go_wp2_with (at_lookup; refine ze4 rfl _ _ rfl zjb Tryz.underlying138 Tryz.underlying3 zgt rfl HMP.o _ _ rfl HKF.o ?_; rw [HBI.o]);refine HADD.o.mono ?_;rintro e w1 ⟨rfl, F', ⟨lb', db', nv', cv', hAt', hF'⟩, hk1, hsub0⟩
   have hsub : ∀ k, F' k -> F k \/ w.heap.size <= k := fun k hk => (hsub0 k hk).imp id fun h => h.resolve_right fun ⟨y, hy, h⟩ => by
    simp only [List.mem_singleton] at hy; subst hy; simp [zkj, Value.ownBlock] at h
   clear hsub0;have q6 : w1.cell? ⟨p, 6, none⟩ = some (.map (some lb')) := hAt'.blk.cell 6;have HAT := lh hAt';have HK1 := lh hk1;have HMQ := lh hAt'.lm;have HPL : Hid (plainElem (H := Unit) Tryz.prog 3 (.int .i64 (L.length : Int)) = some (.lit (.int .i64 (L.length : Int)), [])) := plainElem_int Tryz.underlying3 (WalkArith.wf_i64 (by have := HLL.o; omega))
   have HNB : Hid (m <= 1073741824) := by show _ <= _; have h1 := HM.o; have h2 := HLL.o; omega
   clear hAt' hk1;go_wp2_with (at_mapUpdate; refine zor rfl _ _ _ rfl zjb Tryz.underlying138 rfl HMQ.o HNB.o (.int .i64 x) (.int .i64 (L.length : Int)) (.int .i64 x) (.int .i64 (L.length : Int)) rfl rfl HKF.o trivial HPL.o ?_);intro w5 hm5 hg5;obtain ⟨z1, z2⟩ := HAT.o.lits hm5 hg5;have Z1 := lh z1;have Z2 := lh z2;clear hm5 hg5 z1 z2;go_wp2;go_ret;rw [HP.o];refine ⟨rfl, F', ⟨⟨L ++ [zkj x], by simp [zkj], m + 1, d, by have := HM.o; simp; omega, ⟨lb', db', nv', cv', ?_, hF'⟩, by simpa [zkj] using HDK.o⟩, HK1.o.trans' (Z2.o.mono fun k _ hk => (hF' k).2 (.inl hk)) hsub, hsub⟩⟩
   have e : lmap ((L ++ [zkj x]).map fun e => e.c) = fun y => if y.sameKey (.int .i64 x) then some (.int .i64 (L.length : Int)) else lmap (L.map fun e => e.c) y := by
    rw [List.map_append];have := HLM.o;rw [List.length_map] at this;exact this
   rw [e]; exact Z1.o
end Go.Proofs.YtlleofjjdhfgcaaGreatDoor
