/- Part of the proofs that laws of censuslaw24 return true for every input, where the tables that the rows list are laid. Texts: Ed, Ee, Ef, R20. -/
import Derived.Test.YtkaojolofaanfaaGreatDoorYA31
import Derived.Test.YtkaojolofaanfaaGreatDoorYA6
import Derived.Test.YtkaojolofaanfaaGreatDoorYA4
import Derived.Test.YtkaojolofaanfaaGreatDoorYA5
import Derived.StillTailTactics
import Derived.Test.YtkaojolofaanfaaGreatDoorYA1
set_option maxHeartbeats 8000000
set_option maxRecDepth 100000
set_option linter.unusedSimpArgs false
set_option linter.unusedVariables false
namespace Go.Proofs.YtkaojolofaanfaaGreatDoor
open Go.RowKit Cen
theorem zps (c : Cl) {v : Int} (h1 : 1 <= v) : zaw v.toNat c = zaw (v.toNat - 1) c ++ ((if inL c (-v) = true then [-v] else []) ++ (if inL c v = true then [v] else [])) := by
 obtain ⟨k, rfl⟩ : ∃ k : Nat, v = (k : Int) + 1 := ⟨(v - 1).toNat, by omega⟩
 rw [show ((k : Int) + 1).toNat = k + 1 by omega, zkd];simp only [inL, List.contains_iff_mem, Nat.add_sub_cancel]
theorem zrx (c : Cl) {v : Int} (h1 : 1 <= v) : oppR c v.toNat = (oppR c (v.toNat - 1) || (inL c v && inL c (-v))) := by
 obtain ⟨k, rfl⟩ : ∃ k : Nat, v = (k : Int) + 1 := ⟨(v - 1).toNat, by omega⟩
 rw [show ((k : Int) + 1).toNat = k + 1 by omega]; rfl
theorem znw (a : Option Addr) (cap : Nat) (c : Cl) (n : Nat) (w : World) (hn : n <= 128) (hl : c.length <= 1073741824) (hx : IntCells w a c) :
 Calls Tryz.prog 158 #[.slice a c.length cap, .int .i64 (n : Int)] w fun e w' => ∃ v, e = .returned (.tuple #[v, .bool (oppR c n)]) /\ OwnInts w' w.heap.size v (zaw n c) /\ Below w.heap.size w w' := by
 have HX := lh hx;have HLC := lh hl;have HN := lh hn;clear hx hl hn;go_enter Tryz.func158, Tryz.ntmps158;go_wp2
 go_loopw [6, 7, 8] (fun o al i wr => ∃ v : Int, 1 <= v /\ v <= (n : Int) + 1 /\ i = .int .i64 v /\ al = .bool (oppR c (v.toNat - 1)) /\ OwnInts wr w.heap.size o (zaw (v.toNat - 1) c) /\ Below w.heap.size w wr) (fun _ _ i _ => n + 1 - (intOf i).toNat)
 case atStart => exact ⟨1, by omega, by omega, rfl, rfl, OwnInts.nil _ _, Below.refl _ _⟩
 case round =>
  obtain ⟨v, hv1, hv2, rfl, rfl, hown, hb⟩ := hrel;have HO := lh hown;have HB := lh hb;have HZ : Hid (w.heap.size <= wr.heap.size) := hb.size;clear hown hb
  by_cases hlt : v <= (n : Int)
  ·have NE0 := zps c hv1;have AE0 := zrx c hv1
   have HL : Hid ((zaw (v.toNat - 1) c).length <= 1073741824) := by
    show _ <= _
    have := zeh c (v.toNat - 1);have := HN.out;omega
   have HL2 : Hid ((zaw (v.toNat - 1) c).length <= 512) := by
    show _ <= _
    have := zeh c (v.toNat - 1);have := HN.out;omega
   have hwr : IntKind.i64.wrap (-v) = -v := IntWalk.i64_in _ (by have := HN.out; omega)
   have hv128 : v <= 128 := by have := HN.out; omega
   generalize oppR c (v.toNat - 1) = al at *;generalize zaw (v.toNat - 1) c = ys at *;have HCC := lh (fun W (hW : Below w.heap.size w W) => zcs a cap c v W HLC.out (HX.out.keep hW));have HCM := lh (fun W (hW : Below w.heap.size w W) => zcs a cap c (-v) W HLC.out (HX.out.keep hW));have HCP := lh (HCC.out wr HB.out);have HCN := lh (HCM.out wr HB.out)
   have e1 : (v + 1).toNat - 1 = v.toNat := by omega
   cases CN : inL c (-v)
   case false =>
    rw [CN] at HCN NE0 AE0
    cases CP : inL c v
    case false =>
     rw [CP] at HCP NE0 AE0
     have NE : zaw ((v + 1).toNat - 1) c = zaw v.toNat c := by rw [e1]
     rw [NE0] at NE
     have AE : oppR c ((v + 1).toNat - 1) = oppR c v.toNat := by rw [e1]
     rw [AE0] at AE;have NEH := lh NE;have AEH := lh AE;have CNH := lh CN;have CPH := lh CP;clear NE AE NE0 AE0 CN CP e1;go_wp2_with fail;refine HCN.out.mono ?_;rintro e wq ⟨rfl, hwq⟩;obtain rfl := hwq;go_wp2_with fail;refine HCP.out.mono ?_;rintro e wq ⟨rfl, hwq⟩;obtain rfl := hwq;go_wp2;go_roundw
     case rel => exact ⟨v + 1, by omega, by omega, rfl, by rw [AEH.out]; simp, by rw [NEH.out]; simpa using HO.out, HB.out⟩
     case measure => simp [intOf]; omega
    case true =>
     rw [CP] at HCP NE0 AE0
     have NE : zaw ((v + 1).toNat - 1) c = zaw v.toNat c := by rw [e1]
     rw [NE0] at NE
     have AE : oppR c ((v + 1).toNat - 1) = oppR c v.toNat := by rw [e1]
     rw [AE0] at AE;have NEH := lh NE;have AEH := lh AE;have CNH := lh CN;have CPH := lh CP;clear NE AE NE0 AE0 CN CP e1;go_wp2_with fail;refine HCN.out.mono ?_;rintro e wq ⟨rfl, hwq⟩;obtain rfl := hwq;go_wp2_with fail;refine HCP.out.mono ?_;rintro e wq ⟨rfl, hwq⟩;obtain rfl := hwq;go_wp2_with (at_builtin; refine zhs rfl _ _ rfl w.heap.size u6 ys v rfl HO.out rfl HL.out HZ.out ?_);intro v2 w2 hown2 hgrow2 _;have HO2 := lh hown2;have HB2 : Hid (Below w.heap.size w w2) := HB.out.grown hgrow2 HZ.out (fun q hq => (HO.out.lt q hq).1);have HCN2 := lh (HCM.out w2 HB2.out);rw [CNH.out] at HCN2;clear hown2 hgrow2
     cases al
     case false =>
      go_wp2_with fail;refine (HCN2.out).mono ?_;rintro e wq ⟨rfl, hwq⟩;obtain rfl := hwq;go_wp2;go_roundw
      case rel => exact ⟨v + 1, by omega, by omega, rfl, by rw [AEH.out]; first | rfl | simp, by rw [NEH.out]; simpa using HO2.out, HB2.out⟩
      case measure => simp [intOf]; omega
     case true =>
      go_wp2;go_roundw
      case rel => exact ⟨v + 1, by omega, by omega, rfl, by rw [AEH.out]; first | rfl | simp, by rw [NEH.out]; simpa using HO2.out, HB2.out⟩
      case measure => simp [intOf]; omega
   case true =>
    rw [CN] at HCN NE0 AE0
    cases CP : inL c v
    case false =>
     rw [CP] at HCP NE0 AE0
     have NE : zaw ((v + 1).toNat - 1) c = zaw v.toNat c := by rw [e1]
     rw [NE0] at NE
     have AE : oppR c ((v + 1).toNat - 1) = oppR c v.toNat := by rw [e1]
     rw [AE0] at AE;have NEH := lh NE;have AEH := lh AE;have CNH := lh CN;have CPH := lh CP;clear NE AE NE0 AE0 CN CP e1;go_wp2_with fail;refine HCN.out.mono ?_;rintro e wq ⟨rfl, hwq⟩;obtain rfl := hwq;go_wp2_with (at_builtin; refine zhs rfl _ _ rfl w.heap.size u6 ys (-v) rfl HO.out rfl HL.out HZ.out ?_);intro v1 w1 hown1 hgrow1 _;have HO1 := lh hown1;have HB1 : Hid (Below w.heap.size w w1) := HB.out.grown hgrow1 HZ.out (fun q hq => (HO.out.lt q hq).1);have HZ1 : Hid (w.heap.size <= w1.heap.size) := HB1.out.size;have HCP := lh (HCC.out w1 HB1.out);rw [CPH.out] at HCP;have HCN := lh (HCM.out w1 HB1.out)
     rw [CNH.out] at HCN;clear hown1 hgrow1;go_wp2_with fail;refine HCP.out.mono ?_;rintro e wq ⟨rfl, hwq⟩;obtain rfl := hwq;go_wp2;go_roundw
     case rel => exact ⟨v + 1, by omega, by omega, rfl, by rw [AEH.out]; simp, by rw [NEH.out]; simpa using HO1.out, HB1.out⟩
     case measure => simp [intOf]; omega
    case true =>
     rw [CP] at HCP NE0 AE0
     have NE : zaw ((v + 1).toNat - 1) c = zaw v.toNat c := by rw [e1]
     rw [NE0] at NE
     have AE : oppR c ((v + 1).toNat - 1) = oppR c v.toNat := by rw [e1]
     rw [AE0] at AE;have NEH := lh NE;have AEH := lh AE;have CNH := lh CN;have CPH := lh CP;clear NE AE NE0 AE0 CN CP e1;go_wp2_with fail;refine HCN.out.mono ?_;rintro e wq ⟨rfl, hwq⟩;obtain rfl := hwq;go_wp2_with (at_builtin; refine zhs rfl _ _ rfl w.heap.size u6 ys (-v) rfl HO.out rfl HL.out HZ.out ?_);intro v1 w1 hown1 hgrow1 _;have HO1 := lh hown1;have HB1 : Hid (Below w.heap.size w w1) := HB.out.grown hgrow1 HZ.out (fun q hq => (HO.out.lt q hq).1);have HZ1 : Hid (w.heap.size <= w1.heap.size) := HB1.out.size;have HCP := lh (HCC.out w1 HB1.out);rw [CPH.out] at HCP;have HCN := lh (HCM.out w1 HB1.out)
     rw [CNH.out] at HCN;clear hown1 hgrow1;go_wp2_with fail;refine HCP.out.mono ?_;rintro e wq ⟨rfl, hwq⟩;obtain rfl := hwq;go_wp2_with (at_builtin; refine zhs rfl _ _ rfl w.heap.size v1 (ys ++ [-v]) v rfl HO1.out rfl (by have := HL2.out; simp; omega) HZ1.out ?_);intro v2 w2 hown2 hgrow2 _;have HO2 := lh hown2;have HB2 : Hid (Below w.heap.size w w2) := HB1.out.grown hgrow2 HZ1.out (fun q hq => (HO1.out.lt q hq).1);have HCN2 := lh (HCM.out w2 HB2.out);rw [CNH.out] at HCN2;clear hown2 hgrow2
     cases al
     case false =>
      go_wp2_with fail;refine (HCN2.out).mono ?_;rintro e wq ⟨rfl, hwq⟩;obtain rfl := hwq;go_wp2;go_roundw
      case rel => exact ⟨v + 1, by omega, by omega, rfl, by rw [AEH.out]; first | rfl | simp, by rw [NEH.out]; simpa using HO2.out, HB2.out⟩
      case measure => simp [intOf]; omega
     case true =>
      go_wp2;go_roundw
      case rel => exact ⟨v + 1, by omega, by omega, rfl, by rw [AEH.out]; first | rfl | simp, by rw [NEH.out]; simpa using HO2.out, HB2.out⟩
      case measure => simp [intOf]; omega
  ·have hve : v = (n : Int) + 1 := by omega
   subst hve
   have e1 : ((n : Int) + 1).toNat - 1 = n := by omega
   rw [e1] at HO
   have HA : Hid (oppR c (((n : Int) + 1).toNat - 1) = oppR c n) := by show _ = _; rw [e1]
   generalize oppR c (((n : Int) + 1).toNat - 1) = al at *;have hlt2 : ¬ (n : Int) + 1 <= n := hlt;go_wp2;go_ret2;exact ⟨_, by rw [<- HA.out]; rfl, HO.out, HB.out⟩
theorem zbd {c : Cl} {k : Nat} (h : k < c.length) : c.getD k 0 ∈ c := by
 rw [List.getD_eq_getElem?_getD, List.getElem?_eq_getElem h]; exact List.getElem_mem h
theorem zhu (a : Option Addr) (cap : Nat) (c : Cl) (b : Option Addr) (cap2 : Nat) (d : Cl) (w : World) (hl : c.length <= 1073741824) (hl2 : d.length <= 1073741824) (hx : IntCells w a c) (hy : IntCells w b d) (hc : ∀ x ∈ c, -128 <= x /\ x <= 128) (hd : ∀ x ∈ d, -128 <= x /\ x <= 128) :
 Calls Tryz.prog 200 #[.slice a c.length cap, .slice b d.length cap2] w fun e w' => e = .returned (.bool (befB c d)) /\ Below w.heap.size w w' := by
 have HX := lh hx;have HY := lh hy;have HC := lh hc;have HD := lh hd;clear hx hy hc hd
 by_cases hne : c.length = d.length
 ·have hni : (c.length : Int) = (d.length : Int) := by omega
  have HL := lh (zsv hne);have HNE := lh hne;go_enter Tryz.func200, Tryz.ntmps200;go_wp2
  go_loopw [5] (fun i wr => ∃ k : Nat, k <= c.length /\ i = .int .i64 k /\ (∀ j, j < k -> c.getD j 0 = d.getD j 0) /\ Below w.heap.size w wr) (fun i _ => c.length - (intOf i).toNat)
  case atStart => exact ⟨0, Nat.zero_le _, rfl, fun j h => absurd h (Nat.not_lt_zero _), Below.refl _ _⟩
  case round =>
   obtain ⟨k, hk, rfl, hno, hb⟩ := hrel;have HN := lh hno;have HB := lh hb;have HX1 := lh (HX.out.keep hb);have HY1 := lh (HY.out.keep hb);clear hno hb
   by_cases hlt : k < c.length
   ·have hlt2 : k < d.length := by omega
    obtain ⟨b1, off1, rfl, hc1⟩ := HX1.out k hlt;obtain ⟨b2, off2, rfl, hc2⟩ := HY1.out k hlt2;have hxb := HC.out _ (zbd hlt);have hyb := HD.out _ (zbd hlt2)
    have HLA : Hid (c.getD k 0 ≠ d.getD k 0 -> befB c d = (decide (labs (c.getD k 0) < labs (d.getD k 0)) || (decide (labs (c.getD k 0) = labs (d.getD k 0)) && decide (c.getD k 0 < 0)))) := fun he => by
     rw [HL.out, zxd HNE.out HN.out hlt he, zs2 hxb hyb he]
    have HEX : Hid (c.getD k 0 = d.getD k 0 -> ∀ j, j < k + 1 -> c.getD j 0 = d.getD j 0) := fun he j hj => by
     by_cases e : j = k
     ·subst e; exact he
     ·exact HN.out j (by omega)
    have hki : (k : Int) < (c.length : Int) := by omega
    have hki2 : (k : Int) < (d.length : Int) := by omega
    generalize c.getD k 0 = x at *;generalize d.getD k 0 = y at *
    by_cases he : x = y
    ·subst he;have HE := lh (HEX.out rfl);clear HEX HLA;go_wp2_with fail
     go_quiet (fail)
     go_wp2;go_roundw
     case rel => exact ⟨k + 1, by omega, by go_num, HE.out, HB.out.trans (zad _ _)⟩
     case measure => simp [intOf]; omega
    ·have HR := lh (HLA.out he)
     have hqe : (x == y) = false := by simpa using he
     have HA : Hid (∀ z W, z = x \/ z = y -> Calls Tryz.prog 199 #[.int .i64 z] W fun e w' => e = .returned (.int .i64 (labs z)) /\ W = w') := fun z W h => zn8 z W (by rcases h with rfl | rfl <;> omega) (by rcases h with rfl | rfl <;> omega)
     clear HLA HEX
     rcases Int.lt_trichotomy (labs x) (labs y) with h1 | h1 | h1
     ·have d1 : decide (labs x < labs y) = true := by simpa using h1
      have HRR : Hid (befB c d = true) := by show _ = _; rw [HR.out, d1]; rfl
      clear HR h1;go_wp2_with fail
      go_quiet (fail)
      go_wp2_with fail
      go_quiet (first | exact Calls.quiet_of_same ((HA.out _ _ (by first | exact .inl rfl | exact .inr rfl)).mono fun _ _ hh => ⟨hh.1, hh.2.symm⟩) | exact (HA.out _ _ (by first | exact .inl rfl | exact .inr rfl)).mono fun _ _ hh => ⟨hh.1, _, hh.2.symm⟩)
      go_wp2;go_ret;exact ⟨by rw [HRR.out]; rfl, (HB.out.trans (zad _ _)).trans (zad _ _)⟩
     ·have d1 : decide (labs x < labs y) = false := by simp; omega
      have d2 : (labs x == labs y) = true := by simpa using h1
      have d3 : decide (labs x = labs y) = true := by simpa using h1
      have HRR : Hid (befB c d = decide (x < 0)) := by show _ = _; rw [HR.out, d1, d3]; simp
      clear HR h1
      cases hx0 : decide (x < 0)
      all_goals
       have HX0 := lh hx0
      case false =>
       have hx1 : ¬ x < 0 := by simpa using hx0
       clear hx0;go_wp2_with fail
       go_quiet (fail)
       go_wp2_with fail
       go_quiet (first | exact Calls.quiet_of_same ((HA.out _ _ (by first | exact .inl rfl | exact .inr rfl)).mono fun _ _ hh => ⟨hh.1, hh.2.symm⟩) | exact (HA.out _ _ (by first | exact .inl rfl | exact .inr rfl)).mono fun _ _ hh => ⟨hh.1, _, hh.2.symm⟩)
       go_wp2;go_ret;exact ⟨by rw [HRR.out, HX0.out]; rfl, (HB.out.trans (zad _ _)).trans (zad _ _)⟩
      case true =>
       have hx1 : x < 0 := by simpa using hx0
       clear hx0;go_wp2_with fail
       go_quiet (fail)
       go_wp2_with fail
       go_quiet (first | exact Calls.quiet_of_same ((HA.out _ _ (by first | exact .inl rfl | exact .inr rfl)).mono fun _ _ hh => ⟨hh.1, hh.2.symm⟩) | exact (HA.out _ _ (by first | exact .inl rfl | exact .inr rfl)).mono fun _ _ hh => ⟨hh.1, _, hh.2.symm⟩)
       go_wp2;go_ret;exact ⟨by rw [HRR.out, HX0.out]; rfl, (HB.out.trans (zad _ _)).trans (zad _ _)⟩
     ·have d1 : decide (labs x < labs y) = false := by simp; omega
      have d2 : (labs x == labs y) = false := by simp; omega
      have d3 : decide (labs x = labs y) = false := by simp; omega
      have HRR : Hid (befB c d = false) := by show _ = _; rw [HR.out, d1, d3]; rfl
      clear HR h1;go_wp2_with fail
      go_quiet (fail)
      go_wp2_with fail
      go_quiet (first | exact Calls.quiet_of_same ((HA.out _ _ (by first | exact .inl rfl | exact .inr rfl)).mono fun _ _ hh => ⟨hh.1, hh.2.symm⟩) | exact (HA.out _ _ (by first | exact .inl rfl | exact .inr rfl)).mono fun _ _ hh => ⟨hh.1, _, hh.2.symm⟩)
      go_wp2;go_ret;exact ⟨by rw [HRR.out]; rfl, (HB.out.trans (zad _ _)).trans (zad _ _)⟩
   ·have hke : k = c.length := by omega
    subst hke
    have HR : Hid (befB c d = false) := by show _ = _; rw [HL.out, zwe HNE.out HN.out]; rfl
    go_wp2;go_ret;exact ⟨by rw [HR.out]; rfl, HB.out⟩
 ·have hni : ((c.length : Int) == (d.length : Int)) = false := by simp; omega
  have HL : Hid (befB c d = decide (c.length < d.length)) := by
   show _ = _
   rw [zsu hne, Bool.eq_iff_iff, decide_eq_true_iff, decide_eq_true_iff]; omega
  clear hne;go_enter Tryz.func200, Tryz.ntmps200;go_wp2;go_ret;exact ⟨by rw [HL.out]; rfl, Below.refl _ _⟩
theorem OwnS.fresh {X : Nat -> Prop} {w0 w' : World} {v : Value} {L : List Sl} {a : Option Addr} {xs : Cl} (h : OwnS X w' w0.heap.size v L) (hx : IntIn X w0 a xs) (hb : Below w0.heap.size w0 w') : IntIn (fun k => X k /\ ¬ v.ownBlock = some k) w' a xs :=
 ((hx.mono (Y := fun k => X k /\ k < w0.heap.size) fun k hk hX => ⟨hX, hk⟩).later hb).mono fun k _ hk => ⟨hk.1, fun e => by have := (World.ownsRow.lt h.own k e).1; have := hk.2; omega⟩
def PTR (X : Nat -> Prop) (c : Cl) (l : List Cl) (w wr : World) (o dn i : Value) : Prop :=
 ∃ (k : Nat) (L : List Sl) (oa : Option Addr) (oc : Nat) (bd : Bool), k <= l.length /\ i = .int .i64 (k : Int) /\ dn = .bool bd /\ o = .slice oa L.length oc /\ OwnS X wr w.heap.size (.slice oa L.length oc) L /\
  (l.take k).foldl (zbe c) ([], false) = (L.map (fun e => e.xs), bd) /\ L.length <= k + bd.toNat /\ Below w.heap.size w wr
def zw0 (X : Nat -> Prop) (r : List Cl) (w : World) (e : Ending) (w' : World) : Prop := ∃ a' cap', e = .returned (.slice a' r.length cap') /\ LsIn X w' a' r /\ Below w.heap.size w w'
theorem zfs {α β : Type} (f : β -> α -> β) (z : β) (d : α) {l : List α} {k : Nat} (h : k < l.length) : (l.take (k + 1)).foldl f z = f ((l.take k).foldl f z) (l.getD k d) := by
 rw [List.take_succ_eq_append_getElem h, List.foldl_append]
 simp [List.getD_eq_getElem?_getD, h]
theorem zug (X : Nat -> Prop) (a : Option Addr) (cap : Nat) (l : List Cl) (b : Option Addr) (cap2 : Nat) (c : Cl) (w : World) (hl : l.length <= 1073741822) (hcl : c.length <= 1073741824) (hll : ∀ d ∈ l, d.length <= 1073741824 /\ ∀ x ∈ d, -128 <= x /\ x <= 128) (hc : ∀ x ∈ c, -128 <= x /\ x <= 128)
 (hx : LsIn X w a l) (hy : IntIn X w b c) (hX : ∀ k, w.heap.size <= k -> X k) :
 Calls Tryz.prog 159 #[.slice a l.length cap, .slice b c.length cap2] w (zw0 X (insC c l) w) := by
 have HX := lh hx;have HY := lh hy;have HXX := lh hX;have HC := lh hc;have HLL := lh hll
 have HPE : Hid (∀ s, (l.take l.length).foldl (zbe c) ([], false) = s -> insC c l = zo2 c s) := fun s hs => by
  rw [List.take_length] at hs;rw [<- hs, zr3]; rfl
 clear hx hy hX hc hll;go_enter Tryz.func159, Tryz.ntmps159;go_wp2
 go_loopw [5, 6, 7] (fun o dn i wr => PTR X c l w wr o dn i) (fun _ _ i _ => l.length - (intOf i).toNat)
 case atStart => exact ⟨0, [], none, 0, false, Nat.zero_le _, rfl, rfl, rfl, OwnS.nil _ _ _, rfl, Nat.zero_le _, Below.refl _ _⟩
 case round =>
  obtain ⟨k, L, oa, oc, bd, hk, rfl, rfl, rfl, hO, hs, hlen, hb⟩ := hrel;have HO := lh hO;have HS := lh hs;have HB := lh hb;have HZ : Hid (w.heap.size <= wr.heap.size) := hb.size;have HLE := lh hlen;have HY1 := lh (HO.out.fresh HY.out hb);clear hO hs hlen
  by_cases hlt : k < l.length
  ·obtain ⟨b1, off1, ai, ci, rfl, hc1, hi⟩ := HX.out.get hlt;have hc1' := zaa hb hc1;have HD := lh (HO.out.fresh hi hb)
   have hmem : l.getD k [] ∈ l := by rw [List.getD_eq_getElem?_getD, List.getElem?_eq_getElem hlt]; exact List.getElem_mem hlt
   obtain ⟨hdl, hdb⟩ := HLL.out _ hmem
   have HST : Hid ((l.take (k + 1)).foldl (zbe c) ([], false) = zbe c (L.map (fun e => e.xs), bd) (l.getD k [])) := by show _ = _; rw [zfs _ _ [] hlt, HS.out]
   have hki : (k : Int) < (l.length : Int) := by omega
   generalize l.getD k [] = d at *;have HDL := lh hdl;have HDB := lh hdb
   have HLM : Hid (L.length <= 1073741823) := by have := HLE.out; have := Bool.toNat_le bd; show _ <= _; omega
   have HDI := lh hi;have HLOW := lh (zak hc1);have hc0 := hc1;have HC0 := lh hc0;clear hmem hdl hdb hi hc1 hb hc0
   cases bd with
   | true =>
     have HN : Hid (zbe c (L.map (fun e => e.xs), true) d = (L.map (fun e => e.xs) ++ [d], true)) := rfl;go_wp2_with (at_builtin; go_loud (refine zjf (C := #[.slice ai d.length ci]) zd5 rfl _ _ rfl w.heap.size (.slice oa L.length oc) L ⟨ai, ci, d⟩ rfl HO.out.own rfl rfl rfl (zcp _) (by have := HLM.out; omega) (by decide) HZ.out ?_));intro g5 cap5 w5 ho5 hg5 hgn5;have HO5 := lh (HO.out.push HD.out ho5 hg5 hgn5);have HB5 : Hid (Below w.heap.size w w5) := HB.out.grown hg5 HZ.out (fun q hq => (World.ownsRow.lt HO.out.own q hq).1);clear ho5 hg5 hgn5;go_wp2;go_roundw
     case rel => exact ⟨k + 1, L ++ [⟨ai, ci, d⟩], _, _, true, by omega, by go_num, rfl, by simp, HO5.out, by rw [HST.out, HN.out, List.map_append]; rfl, by have := HLE.out; simp at this ⊢; omega, HB5.out⟩
     case measure => simp [intOf]; omega
   | false =>
     have HC1 := lh (zhu ai ci d b cap2 c wr HDL.out hcl HD.out.1 HY1.out.1 HDB.out HC.out)
     cases h1 : befB d c with
     | true =>
       have HN : Hid (zbe c (L.map (fun e => e.xs), false) d = (L.map (fun e => e.xs) ++ [d], false)) := by show _ = _; unfold zbe; rw [h1]; rfl
       rw [h1] at HC1;clear h1;go_wp2_with fail;refine HC1.out.mono ?_;rintro e w1 ⟨rfl, hb1⟩;have HO1 := lh (HO.out.later hb1);have HD1 := lh (HD.out.later hb1);have HB1 := lh (HB.out.trans (hb1.mono HZ.out));have HZ1 : Hid (w.heap.size <= w1.heap.size) := HB1.out.size;have hc2 := zaa hb1 hc1';clear hb1;go_wp2_with (at_builtin; go_loud (refine zjf (C := #[.slice ai d.length ci]) zd5 rfl _ _ rfl w.heap.size (.slice oa L.length oc) L ⟨ai, ci, d⟩ rfl HO1.out.own rfl rfl rfl (zcp _) (by have := HLM.out; omega) (by decide) HZ1.out ?_));intro g5 cap5 w5 ho5 hg5 hgn5;have HO5 := lh (HO1.out.push HD1.out ho5 hg5 hgn5)
       have HB5 : Hid (Below w.heap.size w w5) := HB1.out.grown hg5 HZ1.out (fun q hq => (World.ownsRow.lt HO1.out.own q hq).1);clear ho5 hg5 hgn5;go_wp2;go_roundw
       case rel => exact ⟨k + 1, L ++ [⟨ai, ci, d⟩], _, _, false, by omega, by go_num, rfl, by simp, HO5.out, by rw [HST.out, HN.out, List.map_append]; rfl, by have := HLE.out; simp at this ⊢; omega, HB5.out⟩
       case measure => simp [intOf]; omega
     | false =>
       rw [h1] at HC1;go_wp2_with fail;refine HC1.out.mono ?_;rintro e w1 ⟨rfl, hb1⟩;have HO1 := lh (HO.out.later hb1);have HD1 := lh (HD.out.later hb1);have HY2 := lh (HY1.out.later hb1);have HB1 := lh (HB.out.trans (hb1.mono HZ.out));have HZ1 : Hid (w.heap.size <= w1.heap.size) := HB1.out.size;have hc2 := zaa hb1 hc1';have HC2 := lh (zhu b cap2 c ai ci d w1 hcl HDL.out HY2.out.1 HD1.out.1 HC.out HDB.out);clear hb1
       cases h2 : befB c d with
       | true =>
         have HN : Hid (zbe c (L.map (fun e => e.xs), false) d = (L.map (fun e => e.xs) ++ [c] ++ [d], true)) := by show _ = _; unfold zbe; rw [h1, h2]; rfl
         rw [h2] at HC2;clear h1 h2;go_wp2_with fail;refine HC2.out.mono ?_;rintro e w2 ⟨rfl, hb2⟩;have HO2 := lh (HO1.out.later hb2);have HD2 := lh (HD1.out.later hb2);have HY3 := lh (HY2.out.later hb2);have HB2 := lh (HB1.out.trans (hb2.mono HZ1.out));have HZ2 : Hid (w.heap.size <= w2.heap.size) := HB2.out.size;have hc3 := zaa hb2 hc2;clear hb2;go_wp2_with (at_builtin; go_loud (refine zjf (C := #[.slice b c.length cap2]) zd5 rfl _ _ rfl w.heap.size (.slice oa L.length oc) L ⟨b, cap2, c⟩ rfl HO2.out.own rfl rfl rfl (zcp _) (by have := HLM.out; omega) (by decide) HZ2.out ?_));intro g5 cap5 w5 ho5 hg5 hgn5
         have HO5 := lh (HO2.out.push HY3.out ho5 hg5 hgn5);have HB5 : Hid (Below w.heap.size w w5) := HB2.out.grown hg5 HZ2.out (fun q hq => (World.ownsRow.lt HO2.out.own q hq).1);clear ho5 hg5 hgn5;have HZ5 : Hid (w.heap.size <= w5.heap.size) := HB5.out.size;have hc4 : w5.cell? ⟨b1, off1 + k, none⟩ = some (.slice ai d.length ci) := zaa HB5.out HC0.out
         have HOX : Hid (OwnS X w5 w.heap.size (.slice (some ⟨g5, 0, none⟩) (L.length + 1) cap5) (L ++ [⟨b, cap2, c⟩])) := by have := HO5.out; rwa [List.length_append] at this
         have HD5 := lh (HOX.out.fresh HDI.out HB5.out);go_wp2_with (at_builtin; go_loud (refine zjf (C := #[.slice ai d.length ci]) zd5 rfl _ _ rfl w.heap.size (.slice (some ⟨g5, 0, none⟩) (L.length + 1) cap5) (L ++ [⟨b, cap2, c⟩]) ⟨ai, ci, d⟩ rfl HOX.out.own rfl rfl rfl (zcp _) (by have := HLM.out; simp; omega) (by decide) HZ5.out ?_));intro g6 cap6 w6 ho6 hg6 hgn6;have HO6 := lh (HOX.out.push (e := ⟨ai, ci, d⟩) HD5.out (by rw [List.length_append, List.append_assoc]; exact ho6) hg6 hgn6);have HB6 : Hid (Below w.heap.size w w6) := HB5.out.grown hg6 HZ5.out (fun q hq => (World.ownsRow.lt HOX.out.own q hq).1)
         clear ho6 hg6 hgn6;go_wp2;go_roundw
         case rel => exact ⟨k + 1, L ++ [⟨b, cap2, c⟩] ++ [⟨ai, ci, d⟩], _, _, true, by omega, by go_num, rfl, by simp, HO6.out, by rw [HST.out, HN.out, List.map_append, List.map_append]; rfl, by have := HLE.out; simp at this ⊢; omega, HB6.out⟩
         case measure => simp [intOf]; omega
       | false =>
         have HN : Hid (zbe c (L.map (fun e => e.xs), false) d = (L.map (fun e => e.xs) ++ [d], true)) := by show _ = _; unfold zbe; rw [h1, h2]; rfl
         rw [h2] at HC2;clear h1 h2;go_wp2_with fail;refine HC2.out.mono ?_;rintro e w2 ⟨rfl, hb2⟩;have HO2 := lh (HO1.out.later hb2);have HD2 := lh (HD1.out.later hb2);have HB2 := lh (HB1.out.trans (hb2.mono HZ1.out));have HZ2 : Hid (w.heap.size <= w2.heap.size) := HB2.out.size;have hc3 := zaa hb2 hc2;clear hb2;go_wp2_with (at_builtin; go_loud (refine zjf (C := #[.slice ai d.length ci]) zd5 rfl _ _ rfl w.heap.size (.slice oa L.length oc) L ⟨ai, ci, d⟩ rfl HO2.out.own rfl rfl rfl (zcp _) (by have := HLM.out; omega) (by decide) HZ2.out ?_));intro g5 cap5 w5 ho5 hg5 hgn5;have HO5 := lh (HO2.out.push HD2.out ho5 hg5 hgn5)
         have HB5 : Hid (Below w.heap.size w w5) := HB2.out.grown hg5 HZ2.out (fun q hq => (World.ownsRow.lt HO2.out.own q hq).1);clear ho5 hg5 hgn5;go_wp2;go_roundw
         case rel => exact ⟨k + 1, L ++ [⟨ai, ci, d⟩], _, _, true, by omega, by go_num, rfl, by simp, HO5.out, by rw [HST.out, HN.out, List.map_append]; rfl, by have := HLE.out; simp at this ⊢; omega, HB5.out⟩
         case measure => simp [intOf]; omega
  ·have hke : k = l.length := by omega
   subst hke;have HE := lh (HPE.out _ HS.out)
   have HLM : Hid (L.length <= 1073741823) := by have := HLE.out; have := Bool.toNat_le bd; show _ <= _; omega
   cases bd with
   | true =>
     obtain ⟨_, h2⟩ := HO.out.ls HXX.out;have HF : Hid (insC c l = L.map fun e => e.xs) := HE.out;go_wp2;go_ret;exact ⟨oa, oc, by rw [HF.out, List.length_map]; rfl, by rw [HF.out]; exact h2, HB.out⟩
   | false =>
     go_wp2_with (at_builtin; go_loud (refine zjf (C := #[.slice b c.length cap2]) zd5 rfl _ _ rfl w.heap.size (.slice oa L.length oc) L ⟨b, cap2, c⟩ rfl HO.out.own rfl rfl rfl (zcp _) (by have := HLM.out; omega) (by decide) HZ.out ?_));intro g5 cap5 w5 ho5 hg5 hgn5;have HO5 := lh (HO.out.push HY1.out ho5 hg5 hgn5);have HB5 : Hid (Below w.heap.size w w5) := HB.out.grown hg5 HZ.out (fun q hq => (World.ownsRow.lt HO.out.own q hq).1);clear ho5 hg5 hgn5
     have HF : Hid (insC c l = (L ++ [(⟨b, cap2, c⟩ : Sl)]).map fun (e : Sl) => e.xs) := by show _ = _; rw [HE.out, List.map_append]; rfl
     obtain ⟨_, h2⟩ := HO5.out.ls HXX.out;go_wp2;go_ret;exact ⟨some ⟨g5, 0, none⟩, cap5, by rw [HF.out, List.length_map, List.length_append]; rfl, by rw [HF.out]; exact h2, HB5.out⟩
theorem zto {ins : List Int} {b : Int} (h : ∀ j, j < ins.length -> 0 <= ins.getD j 0 /\ ins.getD j 0 < b) : zhb ins b = true := by
 rw [zdo];intro i hi;obtain ⟨j, hj, rfl⟩ := List.getElem_of_mem hi;have := h j hj
 simpa [List.getD_eq_getElem?_getD, hj] using this
theorem zmg {ins : List Int} {b : Int} {j : Nat} (hj : j < ins.length) (h : ins.getD j 0 < 0 \/ b <= ins.getD j 0) : zhb ins b = false := by
 rw [Bool.eq_false_iff]; intro hc;rw [zdo] at hc;have := hc ins[j] (List.getElem_mem hj)
 have e : ins.getD j 0 = ins[j] := by simp [List.getD_eq_getElem?_getD, hj]
 omega
theorem znu (kind lit n before : Int) (a : Option Addr) (cap : Nat) (ins : List Int) (w : World) (hl : ins.length <= 1073741824) (hx : IntCells w a ins) :
 Calls Tryz.prog 79 #[.agg #[.int .i64 kind, .int .i64 lit, .slice a ins.length cap], .int .i64 n, .int .i64 before] w
  fun e w' => e = .returned (.bool (ndOk ⟨kind, lit, ins⟩ n before)) /\ Below w.heap.size w w' := by
 have HB : Hid (Below w.heap.size w (w.alloc (.cells #[.int .i64 kind, .int .i64 lit, .slice a ins.length cap] 67))) := (Below.refl _ _).alloc (Nat.le_refl _) _;have HX := lh (hx.keep HB.out)
 have HE : Hid (((ins.length : Int) == 0) = decide (ins = [])) := by show _ = _; rw [Bool.eq_iff_iff]; simp
 clear hx;go_enter Tryz.func79, Tryz.ntmps79;go_wp2
 go_loop [7] (fun i => ∃ k : Nat, k <= ins.length /\ i = .int .i64 k /\ ∀ j, j < k -> 0 <= ins.getD j 0 /\ ins.getD j 0 < before) (fun i => ins.length - (intOf i).toNat)
 case atStart => exact ⟨0, Nat.zero_le _, rfl, fun j h => absurd h (Nat.not_lt_zero _)⟩
 case round =>
  obtain ⟨k, hk, rfl, hno⟩ := hrel;have HN := lh hno;clear hno
  by_cases hlt : k < ins.length
  ·obtain ⟨b, off, rfl, hc⟩ := HX.out k hlt;generalize hxe : ins.getD k 0 = x at hc;have HXE := lh hxe;clear hxe;have hbz := zak hc
   by_cases c1 : x < 0
   ·have d1 : decide (x < 0) = true := by simpa using c1
    have HR : Hid (ndOk ⟨kind, lit, ins⟩ n before = false) := by show _ = _; unfold ndOk; rw [zmg hlt (.inl (by rw [HXE.out]; exact c1))]; rfl
    clear c1;go_wp2;go_ret;exact ⟨zah HR.out.symm, HB.out⟩
   ·have d1 : decide (x < 0) = false := by simpa using c1
    by_cases c2 : before <= x
    ·have d2 : decide (before <= x) = true := by simpa using c2
     have HR : Hid (ndOk ⟨kind, lit, ins⟩ n before = false) := by show _ = _; unfold ndOk; rw [zmg hlt (.inr (by rw [HXE.out]; exact c2))]; rfl
     clear c1 c2;go_wp2;go_ret;exact ⟨zah HR.out.symm, HB.out⟩
    ·have d2 : decide (before <= x) = false := by simpa using c2
     have HC : Hid (0 <= x /\ x < before) := ⟨by omega, by omega⟩
     clear c1 c2;go_wp2;go_round
     case rel => exact ⟨k + 1, by omega, by go_num, fun j hj => by
      by_cases e : j = k
      ·subst e; rw [HXE.out]; exact HC.out
      ·exact HN.out j (by omega)⟩
     case measure => simp [intOf]; omega
  ·have : k = ins.length := by omega
   subst this
   have HR : Hid (ndOk ⟨kind, lit, ins⟩ n before = zcr ⟨kind, lit, ins⟩ n) := by show _ = _; unfold ndOk; rw [zto HN.out]; rfl
   by_cases k0 : kind = 0 \/ kind = 1 \/ kind = 3 \/ kind = 4
   ·by_cases l0 : lit = 0
    ·subst l0
     rcases k0 with rfl | rfl | rfl | rfl
     all_goals
      go_wp2;go_ret;exact ⟨zah (by rw [HR.out]; simp [zcr]; try exact HE.out), HB.out⟩
    ·have hl0 : (lit == 0) = false := by simpa using l0
     have HL0 := lh l0
     rcases k0 with rfl | rfl | rfl | rfl
     all_goals
      clear l0;go_wp2;go_ret;exact ⟨zah (by rw [HR.out]; simp [zcr, HL0.out]), HB.out⟩
   ·have e0 : (kind == 0) = false := by simp; omega
    have e1 : (kind == 1) = false := by simp; omega
    by_cases k2 : kind = 2
    ·subst k2
     cases hv : zas lit n
     all_goals
      have H3 := lh (fun W => (zlc lit n W).mono (R' := fun E w' => E = .returned (.bool _) /\ W = w') (fun E w' ⟨h1, h2⟩ => ⟨by rw [h1, hv], h2⟩));have HV := lh hv;clear hv k0;go_wp2_with (go_at_call 53; refine (H3.out _).mono ?_; rintro e w' ⟨rfl, rfl⟩);go_ret;exact ⟨zah (by rw [HR.out]; simp [zcr, HV.out]; try exact HE.out), HB.out⟩
    ·have e2 : (kind == 2) = false := by simpa using k2
     have e3 : (kind == 3) = false := by simp; omega
     have e4 : (kind == 4) = false := by simp; omega
     have HF : Hid (zcr ⟨kind, lit, ins⟩ n = false) := by
      show _ = _; unfold zcr; simp only; rw [if_neg (by omega), if_neg (by omega), if_neg (by omega)]
     clear k0 k2;go_wp2;go_ret;exact ⟨zah (by rw [HR.out, HF.out]), HB.out⟩
theorem zeg (t : Nt) : zdi t = true ↔ (0 <= t.n /\ t.n <= 128 /\ 1 <= t.l.length /\ t.l.length <= 65536) /\ ∀ j, j < t.l.length -> ndOk (t.l.getD j default) t.n j = true := by
 simp only [zdi, zop, Bool.and_eq_true, decide_eq_true_eq];exact ⟨fun h => ⟨by omega, h.2⟩, fun h => ⟨by omega, h.2⟩⟩
theorem zgp (n : Int) (a : Option Addr) (cap : Nat) (l : List Nd) (w : World) (hl : l.length <= 1073741824) (hx : NdCells w a l) :
 Calls Tryz.prog 28 #[.agg #[.int .i64 n, .slice a l.length cap]] w fun e w' => e = .returned (.bool (zdi ⟨n, l⟩)) /\ Below w.heap.size w w' := by
 have HB := lh ((Below.refl w.heap.size w).alloc (Nat.le_refl _) (.cells #[.int .i64 n, .slice a l.length cap] 24));have HBK := lh (Blk.new w #[.int .i64 n, .slice a l.length cap] 24);have HX := lh (hx.keep HB.out);clear hx
 by_cases c1 : n < 0
 ·have HR : Hid (zdi ⟨n, l⟩ = false) := by show _ = _; rw [Bool.eq_false_iff]; intro h; have := zcv h; simp only at this; omega
  have d1 : decide (n < 0) = true := by simpa using c1
  clear c1;go_enter Tryz.func28, Tryz.ntmps28;go_wp2;go_ret;exact ⟨zah HR.out.symm, HB.out⟩
 ·have d1 : decide (n < 0) = false := by simpa using c1
  by_cases c2 : 128 < n
  ·have HR : Hid (zdi ⟨n, l⟩ = false) := by show _ = _; rw [Bool.eq_false_iff]; intro h; have := zcv h; simp only at this; omega
   have d2 : decide (128 < n) = true := by simpa using c2
   clear c1 c2;go_enter Tryz.func28, Tryz.ntmps28;go_wp2;go_ret;exact ⟨zah HR.out.symm, HB.out⟩
  ·have d2 : decide (128 < n) = false := by simpa using c2
   by_cases c3 : l.length < 1
   ·have HR : Hid (zdi ⟨n, l⟩ = false) := by show _ = _; rw [Bool.eq_false_iff]; intro h; have := zcv h; simp only at this; omega
    have d3 : decide ((l.length : Int) < 1) = true := by simp; omega
    clear c1 c2 c3;go_enter Tryz.func28, Tryz.ntmps28;go_wp2;go_ret;exact ⟨zah HR.out.symm, HB.out⟩
   ·have d3 : decide ((l.length : Int) < 1) = false := by simp; omega
    by_cases c4 : 65536 < l.length
    ·have HR : Hid (zdi ⟨n, l⟩ = false) := by show _ = _; rw [Bool.eq_false_iff]; intro h; have := zcv h; simp only at this; omega
     have d4 : decide ((65536 : Int) < (l.length : Int)) = true := by simp; omega
     clear c1 c2 c3 c4;go_enter Tryz.func28, Tryz.ntmps28;go_wp2;go_ret;exact ⟨zah HR.out.symm, HB.out⟩
    ·have d4 : decide ((65536 : Int) < (l.length : Int)) = false := by simp; omega
     have HH : Hid (0 <= n /\ n <= 128 /\ 1 <= l.length /\ l.length <= 65536) := ⟨by omega, by omega, by omega, by omega⟩
     clear c1 c2 c3 c4;go_enter Tryz.func28, Tryz.ntmps28;go_wp2;clear d1 d2 d3 d4;generalize hW : w.alloc (.cells #[.int .i64 n, .slice a l.length cap] 24) = W at *;have HZ := lh HB.out.size;clear hW
     go_loopw [3] (fun i wr => ∃ k : Nat, k <= l.length /\ i = .int .i64 k /\ (∀ j, j < k -> ndOk (l.getD j default) n j = true) /\ Below W.heap.size W wr) (fun i _ => l.length - (intOf i).toNat)
     case atStart => exact ⟨0, Nat.zero_le _, rfl, fun j h => absurd h (Nat.not_lt_zero _), Below.refl _ _⟩
     case round =>
      obtain ⟨k, hk, rfl, hno, hb⟩ := hrel;have HN := lh hno;have HBR := lh hb;have HBW := lh (HB.out.trans (hb.mono HZ.out));have HKR := lh (HBK.out.later hb);clear hno hb;have k0 : wr.cell? ⟨w.heap.size, 0, none⟩ = some (.int .i64 n) := HKR.out.cell 0;have k1 : wr.cell? ⟨w.heap.size, 1, none⟩ = some (.slice a l.length cap) := HKR.out.cell 1
      by_cases hlt : k < l.length
      ·obtain ⟨b, off, rfl, c0, c1, av, cv, c2, hin, hil⟩ := (HX.out.keep HBR.out) k hlt;have HF := lh (znu (l.getD k default).kind (l.getD k default).lit n k av cv (l.getD k default).ins wr.drew hil hin);have HND : Hid ((⟨(l.getD k default).kind, (l.getD k default).lit, (l.getD k default).ins⟩ : Nd) = l.getD k default) := rfl;generalize hxd : l.getD k default = x at *;have HXD := lh hxd;clear hxd;rw [HND.out] at HF
       have hki : (k : Int) < (l.length : Int) := by omega
       clear hin
       cases hok : ndOk x n k
       all_goals
        rw [hok] at HF;have HOK := lh hok;clear hok
       all_goals
        go_wp2_with fail;refine wp_region_still_tail 8 (by kernel_rfl) (by kernel_rfl) ?_;simp only [List.take_succ_cons, List.take_zero, List.drop_succ_cons, List.drop_zero]
        change wpStill _ _ (World.drew _) _ _ _
        repeat still_step
        refine wpStill_nil ?_;go_wp2_with fail;refine HF.out.mono ?_;rintro e w1 ⟨rfl, hb1⟩;have HB1 : Hid (Below W.heap.size W w1) := HBR.out.trans ((Below.drew (Below.refl _ _)).trans (Below.mono hb1 (by have := HBR.out.size; simpa using this)));clear hb1;go_wp2
       ·have HR : Hid (zdi ⟨n, l⟩ = false) := by
         show _ = _; rw [Bool.eq_false_iff]; intro h
         have := ((zeg _).1 h).2 k hlt;simp only at this;rw [HXD.out, HOK.out] at this; simp at this
        go_ret;exact ⟨zah HR.out.symm, HB.out.trans (HB1.out.mono HZ.out)⟩
       ·go_roundw
        case rel => exact ⟨k + 1, by omega, by go_num, fun j hj => by
         by_cases e : j = k
         ·subst e; rw [HXD.out]; exact HOK.out
         ·exact HN.out j (by omega), HB1.out⟩
        case measure => simp [intOf]; omega
      ·have : k = l.length := by omega
       subst this
       have HR : Hid (zdi ⟨n, l⟩ = true) := by show _ = _; rw [zeg]; exact ⟨HH.out, HN.out⟩
       go_wp2;go_ret;exact ⟨zah HR.out.symm, HBW.out⟩
end Go.Proofs.YtkaojolofaanfaaGreatDoor
