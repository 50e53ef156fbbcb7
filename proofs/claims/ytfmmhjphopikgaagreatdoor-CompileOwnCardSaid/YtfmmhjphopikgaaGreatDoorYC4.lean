/- Part of the proofs that laws of censuslaw24 return true for every input, where the tables that the rows list are laid. Texts: Cp3, Ls, Shelf, Maps, KeyL, Key, Bld, BldL, InAdd, Sort, NetL. -/
import Derived.Test.YtfmmhjphopikgaaGreatDoorYC3
import Derived.Deep.RegionHeld3
import Derived.Test.YtfmmhjphopikgaaGreatDoorYC2
import Derived.Test.YtfmmhjphopikgaaGreatDoorYC1
import Derived.Shelf.Small.Bits
import Derived.Shelf.Strconv.Itoa0
import Derived.Shelf.Strconv.Itoa1
import Derived.Shelf.LaysM
import Derived.Shelf.Strconv.Itoa2
import Derived.Shelf.Sort.Plain
import Derived.Shelf.Strconv.AppendUint10
import Derived.Shelf.Strconv.AppendInt10
import Derived.Shelf.Strconv.AppendIntPublic10
import Derived.Shelf.Slices.Equal
import Derived.Ground.Names2Prog
import Derived.Shelf.Slices.CompactI
import Derived.Test.YtfmmhjphopikgaaGreatDoorProg
import Derived.Maps.OwnOps
import Derived.Maps.OwnSet
import Derived.Lib.ItoaNum
import Derived.Lib.AppendStr
import Derived.Deep.AppendLies
import Derived.Deep.RegionLaw
import Derived.StillTailTactics
import Derived.Sort.OwnSortedInts
set_option maxHeartbeats 8000000
set_option maxRecDepth 100000
set_option linter.unusedSimpArgs false
set_option linter.unusedVariables false
namespace Go.Proofs.YtfmmhjphopikgaaGreatDoor
open Go.RowKit Cen
def leC (e f : Ce) : Prop := ¬ ltC f.xs e.xs
theorem zad {B : Nat} (w : World) (n : Nat) : Below B w (w.drewN n) := let h := Below.refl B w; ⟨h.os, h.tape, h.output, h.size, h.block⟩
theorem ordC_leC : Ord leC := ⟨fun x y => by
 unfold leC
 by_cases h : ltC y.xs x.xs
 ·exact .inr (zb7 h)
 ·exact .inl h, fun x y z h1 h2 h3 => by
 unfold leC at *
 by_cases h4 : ltC y.xs z.xs
 ·exact h1 (by
   by_cases h5 : ltC y.xs x.xs
   ·exact h5
   exact absurd (zfy h4 h3) h5)
 by_cases e : y.xs = z.xs
 ·rw [e] at h1; exact h1 h3
 have h6 : ltC z.xs y.xs := by
  unfold ltC at *
  rcases Int.lt_trichotomy (cmpC y.xs z.xs) 0 with h | h | h
  ·exact absurd h h4
  ·exact absurd (zh2.1 h) e
  exact zge h
 exact h2 h6⟩
theorem zov {e f : Ce} (h : ltC e.xs f.xs) : leC e f := zb7 h
def CsOk (w : World) (g : Nat) (l : List Ce) : Prop := ∀ e ∈ l, e.xs.length <= 1073741824 /\ litB e.xs /\ IntCells w e.a e.xs /\ ∀ p, e.a = some p -> p.block ≠ g
theorem CsOk.kept {w w' : World} {g : Nat} {l : List Ce} (h : CsOk w g l) (hk : Kp (fun y => y = g) w w') : CsOk w' g l := fun e he => by
 obtain ⟨h1, h2, h3, h4⟩ := h e he;refine ⟨h1, h2, fun i hi => ?_, h4⟩;obtain ⟨b, off, e', hc⟩ := h3 i hi;exact ⟨b, off, e', hk.cell hc (show b ≠ g from h4 _ e')⟩
theorem CsOk.perm {w : World} {g : Nat} {l m : List Ce} (h : CsOk w g l) (hp : m.Perm l) : CsOk w g m := fun e he => h e (hp.mem_iff.1 he)
theorem CsOk.at {w : World} {g : Nat} {l : List Ce} (h : CsOk w g l) {i : Nat} (hi : i < l.length) : (gd l i).xs.length <= 1073741824 /\ litB (gd l i).xs /\ IntCells w (gd l i).a (gd l i).xs := by
 rw [zat hi]; obtain ⟨h1, h2, h3, _⟩ := h _ (List.getElem_mem hi); exact ⟨h1, h2, h3⟩
theorem zdu : ∀ (args : Array Value) (w : World), (callFunc 106 args).run Tryz.prog w = .ok (.enter 106 args) w := fun _ _ => by kernel_rfl
theorem zod {w : World} {g : Nat} {l : List Ce} (h : CsOk w g l) {i j : Nat} (hi : i < l.length) (hj : j < l.length) (V : World) (hV : Kp (fun y => y = g) w V) :
 Calls Tryz.prog 106 #[clv (gd l i).a (gd l i).xs.length (gd l i).c (gd l i).i, clv (gd l j).a (gd l j).xs.length (gd l j).c (gd l j).i] V fun e w' => e = .returned (.int .i64 (cmpC (gd l i).xs (gd l j).xs)) /\ Below V.heap.size V w' := by
 obtain ⟨a1, a2, a3⟩ := (h.kept hV).at hi;obtain ⟨b1, b2, b3⟩ := (h.kept hV).at hj;exact zpw _ _ _ _ _ _ _ _ V a1 b1 a3 b3 a2 b2
abbrev FN : Value := .func (.func 106) #[] #[]
structure InsAtC (g cap base : Nat) (l : List Ce) (a k : Nat) (w wr : World) (cur : List Ce) : Prop where
 own : OwnC wr base (.slice (some ⟨g, 0, none⟩) l.length cap) cur
 mg : Mg leC l cur a k
 kp : Kp (fun y => y = g) w wr
def zhp (g cap base : Nat) (l : List Ce) (a b : Nat) (w : World) (e : Ending) (w' : World) : Prop :=
 ∃ l', Mg leC l l' a b /\ e = .returned (.tuple #[]) /\ OwnC w' base (.slice (some ⟨g, 0, none⟩) l.length cap) l' /\ Kp (fun y => y = g) w w'
theorem Mg.one {l : List Ce} {a b : Nat} (h : b <= a + 1) : Mg leC l l a b := Mg.nil fun i j h1 h2 h3 => by omega
theorem Mg.shrink {l l' : List Ce} {a b : Nat} (h : Mg leC l l' a (a + 1)) (h1 : a <= b) (h2 : b <= a + 1) : Mg leC l l' a b := by
 by_cases e : b = a + 1
 ·rw [e]; exact h
 have e' : b = a := by omega
 subst e';refine ⟨h.perm, fun t _ => ?_, fun t h3 h4 => by omega, fun i j h3 h4 h5 => by omega⟩
 by_cases c : t = b
 ·subst c;obtain ⟨s, s1, s2, e⟩ := h.inn t (Nat.le_refl _) (by omega);rw [e, show s = t by omega]
 exact h.out t (by omega)
theorem zgh (g cap base a b : Nat) (l : List Ce) (w : World) (ho : OwnC w base (.slice (some ⟨g, 0, none⟩) l.length cap) l) (hc : CsOk w g l) (h1 : a <= b) (h2 : b <= l.length) (hm : l.length <= 1073741824) :
 Calls Tryz.prog 149 #[.slice (some ⟨g, 0, none⟩) l.length cap, .int .i64 (a : Int), .int .i64 (b : Int), FN] w (zhp g cap base l a b w) := by
 have HI : Hid (InsAtC g cap base l a (a + 1) w w l) := ⟨ho, Mg.one (by omega), Kp.refl _ _⟩
 have HC := lh hc;have hcf := zdu;clear ho hc;go_enter Tryz.func149, Tryz.ntmps149;go_wp2
 go_loopw [8] (fun i wr => ∃ k : Nat, a + 1 <= k /\ (k <= b \/ k = a + 1) /\ i = .int .i64 k /\ ∃ cur, InsAtC g cap base l a k w wr cur) (fun i _ => b - (intOf i).toNat)
 case atStart => exact ⟨a + 1, Nat.le_refl _, .inr rfl, ival (by omega), l, HI.o⟩
 obtain ⟨wo, rfl⟩ : ∃ wo : World, wo = wr := ⟨_, rfl⟩
 obtain ⟨k, hk1, hk2, rfl, cur, hcur⟩ := hrel;have HCU := lh hcur;have hlen : cur.length = l.length := hcur.mg.perm.length_eq;clear hcur
 by_cases hlt : k < b
 ·have HCK : Hid (CsOk wo g cur) := (HC.o.kept HCU.o.kp).perm HCU.o.mg.perm;have HOW := lh HCU.o.own;go_wp2_with fail
  go_loopw [9] (fun j wr => ∃ p : Nat, a <= p /\ p <= k /\ j = .int .i64 p /\ (∀ t, p <= t -> t < k -> leC (gd cur k) (gd cur t)) /\ ∃ m, OwnC wr base (.slice (some ⟨g, 0, none⟩) l.length cap) m /\ m.Perm cur /\ Ins cur m k p /\ Kp (fun y => y = g) wo wr) (fun j _ => (intOf j).toNat)
  case atStart => exact ⟨k, by omega, Nat.le_refl _, rfl, fun t h1 h2 => by omega, cur, HOW.o, List.Perm.refl _, Ins.start _ _, Kp.refl _ _⟩
  obtain ⟨wi, rfl⟩ : ∃ wi : World, wi = wr := ⟨_, rfl⟩
  obtain ⟨p, hp1, hp2, rfl, hle, m, hown, hperm, hins, hkp⟩ := hrel;have HLE := lh hle;have HOI := lh hown;have HPE := lh hperm;have HIN := lh hins;have HKP := lh hkp;have hml : m.length = l.length := hperm.length_eq.trans hlen;have HML : Hid (l.length = m.length) := hml.symm;clear hle hperm hins hkp
  have HEND : Hid (p = a \/ leC (gd cur (p - 1)) (gd cur k) -> ∀ (V : World) (n : Nat), OwnC V base (.slice (some ⟨g, 0, none⟩) l.length cap) m -> Kp (fun y => y = g) wi V -> InsAtC g cap base l a (k + 1) w V m) := fun h V _ hV hkV => by
   have hmi : Mg leC cur m a (k + 1) := by
    refine ⟨HPE.o, fun t ht => ?_, fun t h3 h4 => ⟨_, ?_, ?_, HIN.o.2 t⟩, HIN.o.sorted ordC_leC HCU.o.mg.so hp1 hp2 h HLE.o⟩
    ·rw [HIN.o.2 t]; congr 1; unfold insI; (repeat' split) <;> omega
    ·unfold insI; (repeat' split) <;> omega
    unfold insI; (repeat' split) <;> omega
   refine ⟨hV, ⟨hmi.perm.trans HCU.o.mg.perm, fun t ht => ?_, fun t h3 h4 => ?_, hmi.so⟩, Kp.trans (M := fun y => y = g) HCU.o.kp (Kp.trans (M := fun y => y = g) HKP.o hkV)⟩
   ·rw [hmi.out t ht, HCU.o.mg.out t (by omega)]
   obtain ⟨s, s1, s2, e⟩ := hmi.inn t h3 h4
   by_cases c : s < k
   ·obtain ⟨u, u1, u2, e'⟩ := HCU.o.mg.inn s s1 c;exact ⟨u, u1, by omega, by rw [e, e']⟩
   exact ⟨s, s1, s2, by rw [e, HCU.o.mg.out s (by omega)]⟩
  by_cases hpa : a < p
  ·have hpl : p < m.length := by omega
   have hpl2 : p - 1 < m.length := by omega
   have epk : gd m p = gd cur k := by rw [HIN.o.2 p]; congr 1; unfold insI; (repeat' split) <;> omega
   have epj : gd m (p - 1) = gd cur (p - 1) := by rw [HIN.o.2 (p - 1)]; congr 1; unfold insI; (repeat' split) <;> omega
   have HCA := lh (fun V hV => zod ((HCK.o.kept HKP.o).perm HPE.o) hpl hpl2 V hV);have a0 := hown.c0 HML.o hpl;have a1 := hown.c1 HML.o hpl;have b0 := hown.c0 HML.o hpl2;have b1 := hown.c1 HML.o hpl2;have gl := hown.lt.1
   have e1 : IntKind.i64.wrap ((p : Int) - 1) = ((p - 1 : Nat) : Int) := by rw [IntWalk.i64_in _ (by omega)]; omega
   have E1 := lh e1
   have hpi : ((p - 1 : Nat) : Int) < (l.length : Int) := by omega
   have hpi2 : (p : Int) < (l.length : Int) := by omega
   have hpi3 : p - 1 < l.length := by omega
   have hpi4 : p < l.length := by omega
   have hgd : decide ((a : Int) < (p : Int)) = true := by simp; omega
   have hgd2 : decide (a < p) = true := by simp; omega
   have HSW := lh (fun (V : World) (h : OwnC V base (.slice (some ⟨g, 0, none⟩) l.length cap) m) => h.swp HML.o hpl hpl2)
   have HCV : Hid (cmpC (gd m p).xs (gd m (p - 1)).xs = cmpC (gd cur k).xs (gd cur (p - 1)).xs) := by show _ = _; rw [epk, epj]
   have HFR := lh (fun (V : World) (h : OwnC V base (.slice (some ⟨g, 0, none⟩) l.length cap) m) (j : Nat) => h.fr HML.o j);generalize hcv : cmpC (gd m p).xs (gd m (p - 1)).xs = cv at *
   have HST : Hid (cv < 0 -> ∀ t, p - 1 <= t -> t < k -> leC (gd cur k) (gd cur t)) := fun h t h1 h2 => by
    by_cases c : p <= t
    ·exact HLE.o t c h2
    rw [show t = p - 1 by omega]; exact zov (by unfold ltC; rw [<- HCV.o]; exact h)
   have HNO : Hid (¬ cv < 0 -> leC (gd cur (p - 1)) (gd cur k)) := fun h hn => h (by rw [HCV.o]; exact hn)
   generalize hya : (gd m p).a = ya at *;generalize hyl : (gd m p).xs.length = yl at *;generalize hyc : (gd m p).c = yc at *;generalize hyi : (gd m p).i = yi at *;generalize hza : (gd m (p - 1)).a = za at *;generalize hzl : (gd m (p - 1)).xs.length = zl at *;generalize hzc : (gd m (p - 1)).c = zc at *;generalize hzi : (gd m (p - 1)).i = zi at *;clear hown epk epj e1 hcv hya hyl hyc hyi hza hzl hzc hzi
   have HKS : Hid (∀ w' : World, Below wi.heap.size wi w' -> w'.cell? ⟨g, p * 2, none⟩ = some (.slice ya yl yc) /\ w'.cell? ⟨g, p * 2 + 1, none⟩ = some (.int .i64 yi) /\ w'.cell? ⟨g, (p - 1) * 2, none⟩ = some (.slice za zl zc) /\ w'.cell? ⟨g, (p - 1) * 2 + 1, none⟩ = some (.int .i64 zi)) := lh fun w' h => ⟨zaa h a0, zaa h a1, zaa h b0, zaa h b1⟩
   by_cases hneg : cv < 0
   ·have hd1 : decide (cv < 0) = true := by simpa using hneg
    have HS2 := lh (HST.o hneg);clear hneg;go_wp2_with fail;have e1 := E1.o
    go_region_held3 (fun w' => w'.cell? ⟨g, p * 2, none⟩ = some (.slice ya yl yc) /\ w'.cell? ⟨g, p * 2 + 1, none⟩ = some (.int .i64 yi) /\ w'.cell? ⟨g, (p - 1) * 2, none⟩ = some (.slice za zl zc) /\ w'.cell? ⟨g, (p - 1) * 2 + 1, none⟩ = some (.int .i64 zi))
     (first
       | exact HKS.o _ (Below.refl _ _).drew
       | exact HKS.o _ hv5)
     (first
       | (go_at_call 106
          refine Calls.mono (HCA.o _ (Kp.below (Below.refl _ _).drew)) ?_;rintro e v5 ⟨rfl, hb5⟩
          have hv5 : Below wi.heap.size wi v5 := (Below.refl wi.heap.size wi).drew.trans (hb5.mono (Nat.le_refl _))))
    all_goals
     go_wp2_with fail;obtain ⟨x0, x1, x2, x3⟩ := HKS.o v5 hv5;have HO5 := lh (HOI.o.later hv5);have f1 := HFR.o v5 HO5.o (p * 2);have f2 := HFR.o v5 HO5.o (p * 2 + 1);have f3 := HFR.o v5 HO5.o ((p - 1) * 2);have f4 := HFR.o v5 HO5.o ((p - 1) * 2 + 1);have gl5 := HO5.o.lt.1
     have HKK : Hid (∀ c d e f, Kp (fun y => y = g) wo ((((v5.setCell ⟨g, p * 2, none⟩ c).setCell ⟨g, p * 2 + 1, none⟩ d).setCell ⟨g, (p - 1) * 2, none⟩ e).setCell ⟨g, (p - 1) * 2 + 1, none⟩ f)) := fun c d e f => by
      have M := Kp.setCell (M := fun y => y = g);exact Kp.trans (M := fun y => y = g) (Kp.trans (M := fun y => y = g) (Kp.trans (M := fun y => y = g) (Kp.trans (M := fun y => y = g) (Kp.trans (M := fun y => y = g) HKP.o (Kp.below hv5)) (M _ _ _ rfl)) (M _ _ _ rfl)) (M _ _ _ rfl)) (M _ _ _ rfl)
     have HOS := lh (HSW.o v5 HO5.o);clear a0 a1 b0 b1 hb5;have HV5 := lh hv5;clear hv5;go_region
     all_goals
      clear e1;go_wp2;go_roundw
      case rel => exact ⟨p - 1, by omega, by omega, ival (by omega), HS2.o, swp m p (p - 1), HOS.o.later (Below.refl _ _).drew, (zf6 hpl hpl2).trans HPE.o, HIN.o.step (by omega) hp2 (by omega), Kp.trans (M := fun y => y = g) (HKK.o _ _ _ _) (Kp.below (Below.refl _ _).drew)⟩
      case measure => simp [intOf]; omega
   have hd1 : decide (cv < 0) = false := by simpa using hneg
   have HS2 := lh (HNO.o hneg);clear hneg;go_wp2_with fail;have e1 := E1.o
   go_region_held3 (fun w' => w'.cell? ⟨g, p * 2, none⟩ = some (.slice ya yl yc) /\ w'.cell? ⟨g, p * 2 + 1, none⟩ = some (.int .i64 yi) /\ w'.cell? ⟨g, (p - 1) * 2, none⟩ = some (.slice za zl zc) /\ w'.cell? ⟨g, (p - 1) * 2 + 1, none⟩ = some (.int .i64 zi))
    (first
      | exact HKS.o _ (Below.refl _ _).drew
      | exact HKS.o _ hv5)
    (first
      | (go_at_call 106
         refine Calls.mono (HCA.o _ (Kp.below (Below.refl _ _).drew)) ?_;rintro e v5 ⟨rfl, hb5⟩
         have hv5 : Below wi.heap.size wi v5 := (Below.refl wi.heap.size wi).drew.trans (hb5.mono (Nat.le_refl _))))
   all_goals
    have HE5 := lh (HEND.o (.inr HS2.o) v5 0 (HOI.o.later hv5) (Kp.below hv5));clear e1 hb5 hv5 a0 a1 b0 b1;go_wp2;go_roundw
    case rel => exact ⟨k + 1, by omega, .inl (by omega), ival (by omega), m, HE5.o⟩
    case measure => simp [intOf]; omega
  have hpe : p = a := by omega
  have hgd : decide ((a : Int) < (p : Int)) = false := by simp; omega
  have hgd2 : decide (a < p) = false := by simp; omega
  have HE5 := lh (fun V h1 h2 => HEND.o (.inl hpe) V 0 h1 h2);clear hown hpe hpa;go_wp2_with fail
  go_quiet (fail)
  all_goals
   go_wp2;go_roundw
   case rel => exact ⟨k + 1, by omega, .inl (by omega), ival (by omega), m, HE5.o _ (HOI.o.later (zad _ _)) (Kp.below (zad _ _))⟩
   case measure => simp [intOf]; omega
 have HE : Hid (Mg leC l cur a b) := by
  by_cases e : k <= b
  ·rw [show b = k by omega]; exact HCU.o.mg
  have := HCU.o.mg;rw [show k = a + 1 by omega] at this;exact Mg.shrink this h1 (by omega)
 go_wp2
 go_end0
 exact ⟨cur, HE.o, rfl, HCU.o.own, HCU.o.kp⟩
def LsCells (w : World) (a : Option Addr) (t : List Cl) : Prop := ∀ i, i < t.length -> ∃ b off ai ci, a = some ⟨b, off, none⟩ /\ w.cell? ⟨b, off + i, none⟩ = some (.slice ai (t.getD i []).length ci) /\ IntCells w ai (t.getD i [])
theorem LsCells.keep {w w' : World} {a : Option Addr} {t : List Cl} (h : LsCells w a t) (hb : Below w.heap.size w w') : LsCells w' a t := fun i hi => by
 obtain ⟨b, off, ai, ci, e, h1, h2⟩ := h i hi;exact ⟨b, off, ai, ci, e, zaa hb h1, h2.keep hb⟩
def zd8 (n : Int) : List Cl -> Int
 | [] => 0
 | c :: t => if 128 < c.length then 2 else if (c.all fun x => zas x n) = true then zd8 n t else 1
def chkT (n : Int) (t : List Cl) : Int := if n < 0 \/ 128 < n then 6 else if 4096 < t.length then 2 else zd8 n t
theorem zjv {n : Int} {t : List Cl} {k : Nat} (h : k < t.length) : zd8 n (t.drop k) = if 128 < (t.getD k []).length then 2 else if ((t.getD k []).all fun x => zas x n) = true then zd8 n (t.drop (k + 1)) else 1 := by
 rw [List.drop_eq_getElem_cons h, zd8]; simp [List.getD_eq_getElem?_getD, h]
end Go.Proofs.YtfmmhjphopikgaaGreatDoor
namespace Go.Proofs
open Go.Shelf
def Tryz.lays125_ren : Go.Shelf.Ren := ⟨fun | 125 => 119 | 128 => 146 | 129 => 147 | n => n, fun | 46 => 128 | 3 => 3 | 51 => 159 | 53 => 54 | 4 => 4 | 5 => 5 | 9 => 9 | n => n, fun | n => n⟩
theorem Tryz.lays125 : Go.Proofs.Lays.n125 Tryz.prog Tryz.lays125_ren := {
 mixed := by kernel_rfl
 f125 := Tryz.func119.trans (congrArg some (by kernel_rfl))
 f128 := Tryz.func146.trans (congrArg some (by kernel_rfl))
 f129 := Tryz.func147.trans (congrArg some (by kernel_rfl))
 t3 := Tryz.underlying3
 a3 := Tryz.isAgg3
 z3 := Tryz.sizeOf3
 v3 := Tryz.zeroValue3
 t4 := Tryz.underlying4
 a4 := Tryz.isAgg4
 z4 := Tryz.sizeOf4
 v4 := Tryz.zeroValue4
 t5 := Tryz.underlying5
 a5 := Tryz.isAgg5
 z5 := Tryz.sizeOf5
 v5 := Tryz.zeroValue5
 t9 := Tryz.underlying9
 a9 := Tryz.isAgg9
 z9 := Tryz.sizeOf9
 v9 := Tryz.zeroValue9
 t46 := Tryz.underlying128
 a46 := Tryz.isAgg128
 z46 := Tryz.sizeOf128
 v46 := Tryz.zeroValue128
 t51 := Tryz.underlying159
 a51 := Tryz.isAgg159
 z51 := Tryz.sizeOf159
 v51 := Tryz.zeroValue159
 t53 := Tryz.underlying54
 a53 := Tryz.isAgg54
 z53 := Tryz.sizeOf54
 v53 := Tryz.zeroValue54 }
theorem Tryz.bits_Len (x : Int) (w : World) (h0 : 0 <= x) (h1 : x <= 18446744073709551615) :
 Calls Tryz.prog 119 #[.int .u64 x] w fun e w' => e = .returned (.int .i64 (Lib.bitLen x.toNat)) /\ w' = w := Any.bits_Len Tryz.lays125 x w h0 h1
open Go.Lib in
open Go.Lib in
open Go.Lib in
open Go.Lib in
open Go.RowKit Go.Sort Go.Lib in
def Tryz.lays189_ren : Go.Shelf.Ren := ⟨fun | 189 => 80 | 125 => 119 | 257 => 118 | 128 => 146 | 129 => 147 | 294 => 137 | 295 => 138 | 296 => 139 | 297 => 140 | 298 => 141 | 299 => 142 | 216 => 143 | 300 => 144 | 301 => 145 | 328 => 153 | 329 => 154 | 330 => 155 | 331 => 156 | 332 => 157 | 215 => 158 | 343 => 171 | n => n, fun | 28 => 25 | 3 => 3 | 46 => 128 | 0 => 0 | 51 => 159 | 53 => 54 | 4 => 4 | 183 => 153 | 182 => 152 | 131 => 139 | 5 => 5 | 9 => 9 | 218 => 165 | 222 => 169 | 228 => 182 | 229 => 183 | n => n, fun | n => n⟩
theorem Tryz.lays189 : Go.Proofs.Lays.n189 Tryz.prog Tryz.lays189_ren := {
 mixed := by kernel_rfl
 f125 := Tryz.func119.trans (congrArg some (by kernel_rfl))
 f128 := Tryz.func146.trans (congrArg some (by kernel_rfl))
 f129 := Tryz.func147.trans (congrArg some (by kernel_rfl))
 f189 := Tryz.func80.trans (congrArg some (by kernel_rfl))
 f215 := Tryz.func158.trans (congrArg some (by kernel_rfl))
 f216 := Tryz.func143.trans (congrArg some (by kernel_rfl))
 f257 := Tryz.func118.trans (congrArg some (by kernel_rfl))
 f294 := Tryz.func137.trans (congrArg some (by kernel_rfl))
 f295 := Tryz.func138.trans (congrArg some (by kernel_rfl))
 f296 := Tryz.func139.trans (congrArg some (by kernel_rfl))
 f297 := Tryz.func140.trans (congrArg some (by kernel_rfl))
 f298 := Tryz.func141.trans (congrArg some (by kernel_rfl))
 f299 := Tryz.func142.trans (congrArg some (by kernel_rfl))
 f300 := Tryz.func144.trans (congrArg some (by kernel_rfl))
 f301 := Tryz.func145.trans (congrArg some (by kernel_rfl))
 f328 := Tryz.func153.trans (congrArg some (by kernel_rfl))
 f329 := Tryz.func154.trans (congrArg some (by kernel_rfl))
 f330 := Tryz.func155.trans (congrArg some (by kernel_rfl))
 f331 := Tryz.func156.trans (congrArg some (by kernel_rfl))
 f332 := Tryz.func157.trans (congrArg some (by kernel_rfl))
 f343 := Tryz.func171.trans (congrArg some (by kernel_rfl))
 t0 := Tryz.underlying0
 a0 := Tryz.isAgg0
 z0 := Tryz.sizeOf0
 v0 := Tryz.zeroValue0
 t3 := Tryz.underlying3
 a3 := Tryz.isAgg3
 z3 := Tryz.sizeOf3
 v3 := Tryz.zeroValue3
 t4 := Tryz.underlying4
 a4 := Tryz.isAgg4
 z4 := Tryz.sizeOf4
 v4 := Tryz.zeroValue4
 t5 := Tryz.underlying5
 a5 := Tryz.isAgg5
 z5 := Tryz.sizeOf5
 v5 := Tryz.zeroValue5
 t9 := Tryz.underlying9
 a9 := Tryz.isAgg9
 z9 := Tryz.sizeOf9
 v9 := Tryz.zeroValue9
 t28 := Tryz.underlying25
 a28 := Tryz.isAgg25
 z28 := Tryz.sizeOf25
 v28 := Tryz.zeroValue25
 t46 := Tryz.underlying128
 a46 := Tryz.isAgg128
 z46 := Tryz.sizeOf128
 v46 := Tryz.zeroValue128
 t51 := Tryz.underlying159
 a51 := Tryz.isAgg159
 z51 := Tryz.sizeOf159
 v51 := Tryz.zeroValue159
 t53 := Tryz.underlying54
 a53 := Tryz.isAgg54
 z53 := Tryz.sizeOf54
 v53 := Tryz.zeroValue54
 t131 := Tryz.underlying139
 a131 := Tryz.isAgg139
 z131 := Tryz.sizeOf139
 v131 := Tryz.zeroValue139
 t182 := Tryz.underlying152
 a182 := Tryz.isAgg152
 z182 := Tryz.sizeOf152
 v182 := Tryz.zeroValue152
 t183 := Tryz.underlying153
 a183 := Tryz.isAgg153
 z183 := Tryz.sizeOf153
 v183 := Tryz.zeroValue153
 t218 := Tryz.underlying165
 a218 := Tryz.isAgg165
 z218 := Tryz.sizeOf165
 v218 := Tryz.zeroValue165
 t222 := Tryz.underlying169
 a222 := Tryz.isAgg169
 z222 := Tryz.sizeOf169
 v222 := Tryz.zeroValue169
 t228 := Tryz.underlying182
 a228 := Tryz.isAgg182
 z228 := Tryz.sizeOf182
 v228 := Tryz.zeroValue182
 t229 := Tryz.underlying183
 a229 := Tryz.isAgg183
 z229 := Tryz.sizeOf183
 v229 := Tryz.zeroValue183 }
open Go.Sort Go.RowKit in
theorem Tryz.slices_Sort_int (blk off cap : Nat) (zs : List Int) (w : World) (hH : Holds (Value.int .i64) w blk off zs.toArray) (hblk : blk < w.heap.size) (hsz : zs.length < 4611686018427387904) :
 Calls Tryz.prog 80 #[.slice (some ⟨blk, off, none⟩) zs.length cap] w fun e w' =>
  e = .returned (.tuple #[]) /\ ∃ n os, w' = grow (putRow (Value.int .i64) (Sort.ahead w n) blk off (zs.mergeSort fun x y => decide (x <= y)).toArray) os := Any.slices_Sort_int Tryz.lays189 blk off cap zs w hH hblk hsz
def Tryz.laysM288_ren : Go.Shelf.Ren := ⟨fun | 288 => 168 | 283 => 176 | 284 => 177 | 285 => 178 | 286 => 179 | 129 => 147 | 317 => 185 | 318 => 186 | 319 => 187 | 320 => 188 | 337 => 190 | 338 => 191 | n => n, fun | 37 => 149 | 53 => 54 | 3 => 3 | 4 => 4 | 9 => 9 | 171 => 188 | 0 => 0 | 173 => 190 | 212 => 199 | 51 => 159 | 5 => 5 | 20 => 20 | 213 => 200 | 46 => 128 | 232 => 202 | 233 => 203 | n => n, fun | 17 => 0 | 18 => 1 | 19 => 2 | n => n⟩
open Go.RowKit Go.Sort Go.Lib in
open Go.RowKit Go.Sort Go.Lib in
open Go.RowKit Go.Sort Go.Lib in
def Tryz.laysM249_ren : Go.Shelf.Ren := ⟨fun | 249 => 151 | 288 => 168 | 283 => 176 | 284 => 177 | 285 => 178 | 286 => 179 | 129 => 147 | 317 => 185 | 318 => 186 | 319 => 187 | 320 => 188 | 337 => 190 | 338 => 191 | n => n, fun | 37 => 149 | 2 => 2 | 3 => 3 | 53 => 54 | 4 => 4 | 9 => 9 | 171 => 188 | 0 => 0 | 173 => 190 | 212 => 199 | 51 => 159 | 5 => 5 | 20 => 20 | 213 => 200 | 46 => 128 | 232 => 202 | 233 => 203 | n => n, fun | 17 => 0 | 18 => 1 | 19 => 2 | n => n⟩
open Go.RowKit Go.Sort Go.Lib in
def Tryz.laysM176_ren : Go.Shelf.Ren := ⟨fun | 176 => 135 | 249 => 151 | 288 => 168 | 283 => 176 | 284 => 177 | 285 => 178 | 286 => 179 | 129 => 147 | 317 => 185 | 318 => 186 | 319 => 187 | 320 => 188 | 337 => 190 | 338 => 191 | n => n, fun | 37 => 149 | 2 => 2 | 3 => 3 | 53 => 54 | 4 => 4 | 9 => 9 | 171 => 188 | 0 => 0 | 173 => 190 | 212 => 199 | 51 => 159 | 5 => 5 | 20 => 20 | 213 => 200 | 46 => 128 | 232 => 202 | 233 => 203 | n => n, fun | 17 => 0 | 18 => 1 | 19 => 2 | n => n⟩
theorem Tryz.laysM176 : Go.Proofs.LaysM.n176 Tryz.prog Tryz.laysM176_ren := {
 mixed := by kernel_rfl
 f129 := Tryz.func147.trans (congrArg some (by kernel_rfl))
 f176 := Tryz.func135.trans (congrArg some (by kernel_rfl))
 f249 := Tryz.func151.trans (congrArg some (by kernel_rfl))
 f283 := Tryz.func176.trans (congrArg some (by kernel_rfl))
 f284 := Tryz.func177.trans (congrArg some (by kernel_rfl))
 f285 := Tryz.func178.trans (congrArg some (by kernel_rfl))
 f286 := Tryz.func179.trans (congrArg some (by kernel_rfl))
 f288 := Tryz.func168.trans (congrArg some (by kernel_rfl))
 f317 := Tryz.func185.trans (congrArg some (by kernel_rfl))
 f318 := Tryz.func186.trans (congrArg some (by kernel_rfl))
 f319 := Tryz.func187.trans (congrArg some (by kernel_rfl))
 f320 := Tryz.func188.trans (congrArg some (by kernel_rfl))
 f337 := Tryz.func190.trans (congrArg some (by kernel_rfl))
 f338 := Tryz.func191.trans (congrArg some (by kernel_rfl))
 t0 := Tryz.underlying0
 a0 := Tryz.isAgg0
 z0 := Tryz.sizeOf0
 v0 := Tryz.zeroValue0
 t2 := Tryz.underlying2
 a2 := Tryz.isAgg2
 z2 := Tryz.sizeOf2
 v2 := Tryz.zeroValue2
 t3 := Tryz.underlying3
 a3 := Tryz.isAgg3
 z3 := Tryz.sizeOf3
 v3 := Tryz.zeroValue3
 t4 := Tryz.underlying4
 a4 := Tryz.isAgg4
 z4 := Tryz.sizeOf4
 v4 := Tryz.zeroValue4
 t5 := Tryz.underlying5
 a5 := Tryz.isAgg5
 z5 := Tryz.sizeOf5
 v5 := Tryz.zeroValue5
 t9 := Tryz.underlying9
 a9 := Tryz.isAgg9
 z9 := Tryz.sizeOf9
 v9 := Tryz.zeroValue9
 t20 := Tryz.underlying20
 a20 := Tryz.isAgg20
 z20 := Tryz.sizeOf20
 v20 := Tryz.zeroValue20
 t37 := Tryz.underlying149
 a37 := Tryz.isAgg149
 z37 := Tryz.sizeOf149
 v37 := Tryz.zeroValue149
 t46 := Tryz.underlying128
 a46 := Tryz.isAgg128
 z46 := Tryz.sizeOf128
 v46 := Tryz.zeroValue128
 t51 := Tryz.underlying159
 a51 := Tryz.isAgg159
 z51 := Tryz.sizeOf159
 v51 := Tryz.zeroValue159
 t53 := Tryz.underlying54
 a53 := Tryz.isAgg54
 z53 := Tryz.sizeOf54
 v53 := Tryz.zeroValue54
 t171 := Tryz.underlying188
 a171 := Tryz.isAgg188
 z171 := Tryz.sizeOf188
 v171 := Tryz.zeroValue188
 t173 := Tryz.underlying190
 a173 := Tryz.isAgg190
 z173 := Tryz.sizeOf190
 v173 := Tryz.zeroValue190
 t212 := Tryz.underlying199
 a212 := Tryz.isAgg199
 z212 := Tryz.sizeOf199
 v212 := Tryz.zeroValue199
 t213 := Tryz.underlying200
 a213 := Tryz.isAgg200
 z213 := Tryz.sizeOf200
 t232 := Tryz.underlying202
 a232 := Tryz.isAgg202
 z232 := Tryz.sizeOf202
 v232 := Tryz.zeroValue202
 t233 := Tryz.underlying203
 a233 := Tryz.isAgg203
 z233 := Tryz.sizeOf203
 v233 := Tryz.zeroValue203
 g17 := by kernel_rfl
 g18 := by kernel_rfl
 g19 := by kernel_rfl
 i0 := by kernel_rfl
 i2 := by kernel_rfl
 i3 := by kernel_rfl
 i4 := by kernel_rfl
 i5 := by kernel_rfl
 i9 := by kernel_rfl
 i20 := by kernel_rfl
 i37 := by kernel_rfl
 i46 := by kernel_rfl
 i51 := by kernel_rfl
 i53 := by kernel_rfl
 i171 := by kernel_rfl
 i173 := by kernel_rfl
 i212 := by kernel_rfl
 i232 := by kernel_rfl
 i233 := by kernel_rfl
 m17 := by kernel_rfl
 m18 := by kernel_rfl
 m19 := by kernel_rfl }
open Go.RowKit Go.Sort Go.Lib in
theorem Tryz.strconv_AppendInt_10 (B n : Nat) (i : Int) (h0 : -9223372036854775808 <= i) (h1 : i <= 9223372036854775807) (sv : Value) (xs : List Value) (w : World) (hown : w.ownsRow B 5 1 sv n xs) (hBw : B <= w.heap.size) (hlim : n + 21 <= 140737488355328) (htab : Lib.TabBelow Tryz.prog B w "internal/strconv.uint64pow10" .u64 Lib.pow10Tab) :
 Calls Tryz.prog 135 #[sv, .int .i64 i, .int .i64 10] w fun e w' => ∃ v', e = .returned v' /\ w'.ownsRow B 5 1 v' (n + (Lib.itoa i).length) (xs ++ Lib.byteCells (Lib.itoa i)) /\ Below B w w' /\ Lib.OthersKept 5 none w w' := Any.strconv_AppendInt_10 Tryz.laysM176 B n i h0 h1 sv xs w hown hBw hlim htab
open Go.RowKit Go.Lib in
open Go.RowKit Go.Lib in
def Tryz.laysNm220_ren : Go.Shelf.Ren := ⟨fun | 20 => 132 | n => n, fun | 22 => 25 | 3 => 3 | 4 => 4 | 0 => 0 | n => n, fun | n => n⟩
theorem Tryz.laysNm220 : Go.Proofs.Lays2.n20 Tryz.prog Tryz.laysNm220_ren := {
 mixed := by kernel_rfl
 f20 := Tryz.func132.trans (congrArg some (by kernel_rfl))
 t0 := Tryz.underlying0
 a0 := Tryz.isAgg0
 z0 := Tryz.sizeOf0
 v0 := Tryz.zeroValue0
 t3 := Tryz.underlying3
 a3 := Tryz.isAgg3
 z3 := Tryz.sizeOf3
 v3 := Tryz.zeroValue3
 t4 := Tryz.underlying4
 a4 := Tryz.isAgg4
 z4 := Tryz.sizeOf4
 v4 := Tryz.zeroValue4
 t22 := Tryz.underlying25
 a22 := Tryz.isAgg25
 z22 := Tryz.sizeOf25
 v22 := Tryz.zeroValue25
 i3 := by kernel_rfl }
open Go.RowKit Go.Lib Go.Sort in
open Go.RowKit Go.Lib Go.Sort in
theorem Tryz.slices_Compact_int (blk off cap : Nat) (zs : List Int) (w : World) (hH : Holds (Value.int .i64) w blk off zs.toArray) (hsz : zs.length <= 9223372036854775807) (hcap : zs.length <= cap) :
 Calls Tryz.prog 132 #[.slice (some ⟨blk, off, none⟩) zs.length cap] w fun e w' => e = .returned (.slice (some ⟨blk, off, none⟩) (Lib.compact zs).length cap) /\ ∃ q, w' = putRow (Value.int .i64) (Sort.ahead w q) blk off (Lib.compact zs ++ List.replicate (zs.length - (Lib.compact zs).length) 0).toArray := Any.slices_Compact_int Tryz.laysNm220 blk off cap zs w hH hsz hcap
open Go.RowKit Go.Lib Go.Sort in
theorem Tryz.slices_Compact_int_empty (a : Option Addr) (cap : Nat) (w : World) :
 Calls Tryz.prog 132 #[.slice a 0 cap] w fun e w' => e = .returned (.slice a 0 cap) /\ w' = w := Any.slices_Compact_int_empty Tryz.laysNm220 a cap w
end Go.Proofs
namespace Go.Proofs.YtfmmhjphopikgaaGreatDoor
open Go.RowKit Cen
open Go.Maps (Keyed string_keyed int_keyed)
def MapL (k e : TypeId) (w : World) (b n : Nat) (f : Lit -> Option Lit) : Prop :=
 ∃ D : DataW Unit, w.ownsMap Tryz.prog k (plainElem Tryz.prog e) b n D /\ (∀ x, Maps.has D x = (f x).isSome) /\ ∀ x y, f x = some y -> ∀ z, D.atKey x z = .lit y
section
variable {k e : TypeId} {w : World} {b n : Nat} {f : Lit -> Option Lit}
theorem MapL.made (w : World) : MapL k e (w.alloc (.map #[] 0)) w.heap.size 0 (fun _ => none) :=
 ⟨.map [], World.ownsMap_made w _ _ _, fun _ => rfl, fun _ _ h => by simp at h⟩
theorem MapL.lt (h : MapL k e w b n f) : b < w.heap.size := let ⟨_, h1, _⟩ := h; h1.lt
theorem MapL.kept {M : Nat -> Prop} {w' : World} (h : MapL k e w b n f) (hk : Kp M w w') (hm : ¬ M b) : MapL k e w' b n f := by
 obtain ⟨D, ⟨es, clock, h1, h2⟩, h3, h4⟩ := h;exact ⟨D, ⟨es, clock, hk.heap h1 hm, h2⟩, h3, h4⟩
theorem MapL.later {w' : World} (h : MapL k e w b n f) (hb : Below w.heap.size w w') : MapL k e w' b n f := h.kept (Kp.below (M := fun _ => False) hb) id
theorem zg3 {x : Lit} (h : WideAt.IsKeyLit x) : x.sameKey x = true := by cases x <;> simp [Lit.sameKey, WideAt.IsKeyLit] at *
theorem MapL.put {w' : World} (D : DataW Unit) (h : w.ownsMap Tryz.prog k (plainElem Tryz.prog e) b n D) (h3 : ∀ x, Maps.has D x = (f x).isSome) (h4 : ∀ x y, f x = some y -> ∀ z, D.atKey x z = .lit y)
 {x y : Lit} (hx : WideAt.IsKeyLit x) (hw : w'.ownsMap Tryz.prog k (plainElem Tryz.prog e) b (n + 1) (D.put x (.lit y))) : MapL k e w' b (n + 1) (fun x' => if x'.sameKey x then some y else f x') := by
 refine ⟨_, hw, fun x' => ?_, fun x' y' hy z => ?_⟩
 ·by_cases e : x' = x
  ·subst e; simp [Maps.has_put_same h.isMap hx, zg3 hx]
  rw [Maps.has_put_other e, h3]; simp [Maps.sameKey_ne e]
 by_cases e : x' = x
 ·subst e; simp [zg3 hx] at hy; subst hy; exact Maps.atKey_put_same h.isMap hx _ _
 simp [Maps.sameKey_ne e] at hy; rw [Maps.atKey_put_other e]; exact h4 _ _ hy z
end
section
variable {ops : Array Oper} {rest : List Oper} {o : Oper} {a : Act} {Q : Exit -> Act -> World -> Prop} {w : World} {b n : Nat} {f : Lit -> Option Lit} {t k e : TypeId}
def zvc : Option Lit -> Int | some (.int _ c) => c | _ => 0
theorem zep (hg : o.guard = none) (m x : Operand) (hop : o.op = Op.lookup t m x true) (K : Keyed Tryz.prog k) (ht : Tryz.prog.underlying t = some (.map k e)) (he : Tryz.prog.underlying e = some (.int .i64)) (hz : ∀ w, (zeroValue e).run Tryz.prog w = .ok (.int .i64 0) w)
 (hm : a.eval m = .map (some b)) (hown : MapL k e w b n f) (key : Value) (kl : Lit) (hx : a.eval x = key) (hkey : keyOf Tryz.prog k key = some kl)
 (hK : wpList Tryz.prog ops Q rest (a.put o.dst (.tuple #[.int .i64 (zvc (f kl)), .bool (f kl).isSome])) w) : wpList Tryz.prog ops Q (o :: rest) a w := by
 obtain ⟨D, h1, h3, h4⟩ := hown
 refine wpList_lookup_own_ok_int w hg m x t hop k e .i64 K ht he (hz w) b n D hm h1 key kl hx hkey fun c hc _ => ?_
 have e2 : c = zvc (f kl) := by
  cases hf : f kl with
  | none =>
    have := Maps.atKey_of_not_has (D := D) (k := kl) (by rw [h3, hf]; rfl) (.lit (.int .i64 0));rw [this] at hc; simp at hc; rw [<- hc]; rfl
  | some y =>
    rw [h4 _ _ hf] at hc; simp at hc; rw [hc]; rfl
 rw [h3, e2]; exact hK
theorem zmy (hg : o.guard = none) (m x v : Operand) (hop : o.op = Op.mapUpdate t m x v) (K : Keyed Tryz.prog k) (ht : Tryz.prog.underlying t = some (.map k e))
 (hm : a.eval m = .map (some b)) (hown : MapL k e w b n f) (hn : n <= 1073741824) (key val : Value) (kl y : Lit) (hx : a.eval x = key) (hv : a.eval v = val) (hkey : keyOf Tryz.prog k key = some kl) (hi : WideAt.IsKeyLit kl)
 (hval : plainElem (H := Unit) Tryz.prog e val = some (.lit y, []))
 (hK : ∀ w', MapL k e w' b (n + 1) (fun x' => if x'.sameKey kl then some y else f x') -> w.grownBy w' (some b) -> wpList Tryz.prog ops Q rest (a.put o.dst undef) w') : wpList Tryz.prog ops Q (o :: rest) a w := by
 obtain ⟨D, h1, h3, h4⟩ := hown
 exact wpList_mapUpdate_own w hg m x v t hop k e K ht _ b n D hm h1 (by unfold maxLen; omega) key val kl hx hv hkey (.lit y) [] hval
  fun w' h5 h6 => hK w' (MapL.put D h1 h3 h4 hi h5) h6
end
end Go.Proofs.YtfmmhjphopikgaaGreatDoor
namespace Cen
open Go
def zc9 (n : Int) : List UInt8 := Lib.itoa n ++ [32]
theorem zor (n : Int) (h0 : -65536 <= n) (h1 : n <= 65536) : (Lib.itoa n).length <= 20 := by
 have key : ∀ k : Nat, k < 10 ^ 7 -> (Lib.decDigits k).length <= 8 := fun k hk => by
  rw [Lib.decDigits_length]
  have h2 : ∀ (f m : Nat), m < 10 ^ f -> Lib.nDigits m <= f + 1 := by
   intro f
   induction f with
   | zero => intro m hm; rw [Lib.nDigits_small (by omega)]; omega
   | succ f ih =>
     intro m hm
     by_cases h10 : m < 10
     ·rw [Lib.nDigits_small h10]; omega
     rw [Lib.nDigits_big h10];have := ih (m / 10) (by rw [Nat.pow_succ] at hm; omega);omega
  exact h2 7 k hk
 unfold Lib.itoa
 split
 ·simp; have := key n.natAbs (by omega); omega
 have := key n.toNat (by omega); omega
theorem zrc (n : Int) (h0 : -65536 <= n) (h1 : n <= 65536) : (zc9 n).length <= 21 := by have := zor n h0 h1; simp [zc9]; omega
def zt2 : List UInt8 -> Nat := List.foldl (fun a c => 10 * a + (c.toNat - 48)) 0
theorem zpu (l : List UInt8) (c : UInt8) : zt2 (l ++ [c]) = 10 * zt2 l + (c.toNat - 48) := by simp [zt2]
theorem zc0 {k : Nat} (h : k < 10) : (UInt8.ofNat (48 + k)).toNat = 48 + k := by
 simp [UInt8.toNat_ofNat']; omega
theorem zfr (u : Nat) : zt2 (Lib.decDigits u) = u := by
 induction u using Nat.strongRecOn with
 | _ u ih =>
   rw [Lib.decDigits]
   split
   ·rename_i h; show 10 * 0 + ((UInt8.ofNat (48 + u)).toNat - 48) = u; rw [zc0 h]; omega
   rename_i h
   rw [zpu, ih (u / 10) (by omega), zc0 (by omega)];omega
theorem zb3 (u : Nat) : ∀ c ∈ Lib.decDigits u, 48 <= c.toNat /\ c.toNat <= 57 := by
 induction u using Nat.strongRecOn with
 | _ u ih =>
   rw [Lib.decDigits]
   split
   ·rename_i h; intro c hc; rw [List.mem_singleton.1 hc, zc0 h]; omega
   rename_i h
   intro c hc
   rcases List.mem_append.1 hc with h1 | h1
   ·exact ih (u / 10) (by omega) c h1
   rw [List.mem_singleton.1 h1, zc0 (by omega)]; omega
theorem zfq {u v : Nat} (h : Lib.decDigits u = Lib.decDigits v) : u = v := by rw [<- zfr u, h, zfr]
theorem zgx (u : Nat) : Lib.decDigits u ≠ [] := by
 rw [Lib.decDigits]; split <;> simp
theorem ztq {m n : Int} (h : Lib.itoa m = Lib.itoa n) : m = n := by
 unfold Lib.itoa at h
 by_cases h1 : m < 0 <;> by_cases h2 : n < 0
 ·rw [if_pos h1, if_pos h2] at h;have := zfq (List.cons.inj h).2;omega
 ·rw [if_pos h1, if_neg h2] at h;have := zb3 n.toNat 45 (by rw [<- h]; simp);exact absurd this.1 (by decide)
 ·rw [if_neg h1, if_pos h2] at h;have := zb3 m.toNat 45 (by rw [h]; simp);exact absurd this.1 (by decide)
 rw [if_neg h1, if_neg h2] at h;have := zfq h;omega
theorem zmi (n : Int) : (32 : UInt8) ∉ Lib.itoa n := by
 unfold Lib.itoa
 split
 ·intro h
  rcases List.mem_cons.1 h with h1 | h1
  ·exact absurd h1 (by decide)
  have := (zb3 _ _ h1).1; exact absurd this (by decide)
 intro h;have := (zb3 _ _ h).1; exact absurd this (by decide)
theorem cut32 {a b r s : List UInt8} (ha : (32 : UInt8) ∉ a) (hb : (32 : UInt8) ∉ b) (h : a ++ 32 :: r = b ++ 32 :: s) : a = b /\ r = s := by
 induction a generalizing b with
 | nil =>
   cases b with
   | nil => simpa using h
   | cons y b => simp at h hb; exact absurd h.1 hb.1
 | cons x a ih =>
   cases b with
   | nil => simp at h ha; exact absurd h.1.symm ha.1
   | cons y b =>
     simp only [List.cons_append, List.cons.injEq] at h;simp at ha hb;obtain ⟨h1, h2⟩ := ih ha.2 hb.2 h.2;exact ⟨by rw [h.1, h1], h2⟩
theorem zrb {m n : Int} {r s : List UInt8} (h : zc9 m ++ r = zc9 n ++ s) : m = n /\ r = s := by
 unfold zc9 at h;simp only [List.append_assoc, List.singleton_append] at h;obtain ⟨h1, h2⟩ := cut32 (zmi m) (zmi n) h;exact ⟨ztq h1, h2⟩
theorem zti (l : List Int) (h : ∀ x ∈ l, -65536 <= x /\ x <= 65536) : (l.flatMap zc9).length <= 21 * l.length := by
 induction l with
 | nil => simp
 | cons x l ih =>
   have h1 := zrc x (h x (by simp)).1 (h x (by simp)).2
   have h2 := ih fun y hy => h y (by simp [hy])
   simp only [List.flatMap_cons, List.length_append, List.length_cons]; omega
end Cen
namespace Go.Proofs.YtfmmhjphopikgaaGreatDoor
open Go.RowKit Cen
abbrev Tab (w : World) : Prop := Lib.TabIs Tryz.prog w "internal/strconv.uint64pow10" .u64 Lib.pow10Tab
theorem Tab.keep {w w' : World} (h : Tab w) (hb : Below w.heap.size w w') : Tab w' := by
 unfold Tab Lib.TabIs World.var? at *;rw [show Tryz.prog.globalNamed "internal/strconv.uint64pow10" = some 0 from by kernel_rfl] at *;simp only [Option.bind_some] at *
 rcases Nat.lt_or_ge 0 w.heap.size with h' | h'
 ·rw [hb.block _ h']; exact h
 rw [Array.getElem?_eq_none h'] at h; simp at h
theorem zg9 (l m : List UInt8) : Lib.byteCells l ++ Lib.byteCells m = Lib.byteCells (l ++ m) := by simp [Lib.byteCells]
def small (x : Int) : Prop := -65536 <= x /\ x <= 65536
end Go.Proofs.YtfmmhjphopikgaaGreatDoor
namespace Go.Proofs.YtfmmhjphopikgaaGreatDoor
open Go.RowKit Cen
open Go.Maps (Keyed string_keyed int_keyed)
theorem OwnL.alloc {α : Type} {enc : α -> List Value} {e k : Nat} {w : World} {base : Nat} {v : Value} {l : List α} (h : OwnL enc e k w base v l) (o : Obj) : OwnL enc e k (w.alloc o) base v l := World.ownsRow.alloc h o
theorem OwnL.drew {α : Type} {enc : α -> List Value} {e k : Nat} {w : World} {base : Nat} {v : Value} {l : List α} (h : OwnL enc e k w base v l) : OwnL enc e k w.drew base v l := h
section
variable {P : Program} {ops : Array Oper} {o : Oper} {a : Act} {w : World} {K : Act -> World -> Prop} {Q : Exit -> Act -> World -> Prop} {EE : Prop}
theorem zbn {α : Type} {enc : α -> List Value} {t e k bytes : Nat} {z : Value} (E : Elem t e k bytes z) (hgd : o.guard = none) (s x : Operand) (ho : o.op = .call { callee := .builtin .append, args := #[s, x], argTypes := #[t, t] })
 (base : Nat) (v : Value) (l : List α) (y : α) (hs : a.eval s = v) (hown : OwnL enc e k w base v l) (bc : Nat) (hx : a.eval x = .slice (some ⟨bc, 0, none⟩) 1 1) (hk : (enc y).length = k)
 (hnews : ∀ j u, (enc y)[j]? = some u -> w.cell? ⟨bc, j, none⟩ = some u) (h1 : ∀ u ∈ enc y, u.oneCell' = true) (hl : l.length <= 1073741824) (hby : bytes <= 1000) (hbase : base <= w.heap.size)
 (h : ∀ g cap w', OwnL enc e k w' base (.slice (some ⟨g, 0, none⟩) (l.length + 1) cap) (l ++ [y]) -> w.grownBy w' v.ownBlock -> (v.ownBlock = some g \/ g = w.heap.size) -> K (a.put o.dst (.slice (some ⟨g, 0, none⟩) (l.length + 1) cap)) w') :
 if Region.wanted o (yielded ops a.tmps) = true then Oper.wp Tryz.prog o a w K Q else EE := by
 obtain ⟨ht, i, hi, hz, hsz, hby', hzs, h0⟩ := E;refine step_append_lies w hgd s x t ho base e i z k bytes ht hi hz hsz hby' hzs h0 v l.length (l.flatMap enc) hs hown ⟨bc, 0, none⟩ 1 1 (enc y) hx (by rw [hk]; omega) ?_ h1 (by omega) (by unfold maxLen; omega) ?_ hbase w.heap.size rfl ?_
 ·intro j u hj
  have e1 : (⟨bc, 0, none⟩ : Addr).add j = ⟨bc, j, none⟩ := by
   unfold Addr.add; split
   ·rename_i hj0; rw [hj0]
   simp
  rw [e1]; exact hnews j u hj
 ·have := Nat.mul_le_mul (show l.length + 1 <= 1073741825 by omega) hby; omega
 intro g cap w' h2 h3 h4 _;exact h g cap w' (by unfold OwnL; rw [List.length_append, List.flatMap_append]; simpa using h2) h3 h4
end
theorem zaz {W w' : World} {ob : Obj} {row : Option Nat} (h : ((W.alloc ob).drew).grownBy w' row) : W.grownBy w' row :=
 ⟨h.os, h.tape, h.output, Nat.le_trans (by simp [World.drew]) h.size, fun k hk hn => (h.block k (by simp [World.drew]; omega) hn).trans (Below.heap_alloc W ob k hk)⟩
theorem zw8 : Elem 31 48 3 40 (.agg #[.int .i64 0, .int .i64 0, .slice none 0 0]) := .mk Tryz.underlying31 (by kernel_rfl) rfl (by decide)
theorem OwnL.sliced {α : Type} {enc : α -> List Value} {e k : Nat} {w : World} {base : Nat} {v : Value} {l : List α} (h : OwnL enc e k w base v l) : ∃ a cap, v = .slice a l.length cap := by
 rcases h.shape with ⟨h1, h2⟩ | ⟨g, cap, h1, _⟩
 ·exact ⟨none, 0, by rw [h1, h2]; rfl⟩
 exact ⟨_, _, h1⟩
theorem zil : Keyed Tryz.prog 9 := string_keyed Tryz.underlying9
theorem zf9 (w : World) : (zeroValue 3).run Tryz.prog w = .ok (.int .i64 0) w := by kernel_rfl
end Go.Proofs.YtfmmhjphopikgaaGreatDoor
namespace Cen
end Cen
namespace Cen
def nd (L : List Nd) (i : Int) : Nd := L.getD i.toNat default
def zcu (l : List Int) : List Int := l.mergeSort fun x y => decide (x <= y)
end Cen
namespace Cen
theorem zmw {l : List Int} {y : Int} : y ∈ zcu l ↔ y ∈ l := by unfold zcu; exact List.mem_mergeSort
end Cen
namespace Go.Proofs.YtfmmhjphopikgaaGreatDoor
open Go.RowKit Cen
open Go.Maps (Keyed string_keyed int_keyed)
theorem zik : Keyed Tryz.prog 3 := int_keyed Tryz.underlying3
theorem OwnInts.lt {w : World} {base : Nat} {v : Value} {xs : List Int} (h : OwnInts w base v xs) : ∀ k, v.ownBlock = some k -> base <= k /\ k < w.heap.size := World.ownsRow.lt h
end Go.Proofs.YtfmmhjphopikgaaGreatDoor
namespace Go.Proofs.YtfmmhjphopikgaaGreatDoor
open Go.RowKit Cen
theorem zk4 (w : World) : Calls Tryz.prog 137 #[.slice none 0 0, .int .i64 0, .int .i64 0] w fun e w' => e = .returned (.tuple #[]) /\ w = w' := by
 go_enter Tryz.func137, Tryz.ntmps137;go_wp2;refine wp_loop_rounds 1 ?_;rw [rounds_succ];go_wp2
 go_end0
 exact ⟨rfl, rfl⟩
theorem zwj (l : Int) (w : World) : Calls Tryz.prog 118 #[.slice none 0 0, .int .i64 0, .int .i64 0, .int .i64 l] w fun e w' => e = .returned (.tuple #[]) /\ w = w' := by
 go_enter Tryz.func118, Tryz.ntmps118;go_wp2;refine wp_loop_rounds 1 ?_;rw [rounds_succ];go_wp2_with fail;refine (zk4 _).mono ?_;rintro e w1 ⟨rfl, rfl⟩;go_wp2;exact bodyPost_ret (v := .tuple #[]) (by simp [results, Tryz.results118, go_sem]) rfl ⟨rfl, rfl⟩
theorem zuo (w : World) : Calls Tryz.prog 80 #[.slice none 0 0] w fun e w' => e = .returned (.tuple #[]) /\ w = w' := by
 go_enter Tryz.func80, Tryz.ntmps80;go_wp2_with fail;refine (Tryz.bits_Len 0 w (by omega) (by omega)).mono ?_;rintro e w1 ⟨rfl, rfl⟩;go_wp2_with fail;refine (zwj _ _).mono ?_;rintro e w1 ⟨rfl, rfl⟩;go_wp2
 go_end0
 exact ⟨rfl, rfl⟩
theorem zun (base : Nat) (v : Value) (xs : List Int) (w : World) (h : OwnInts w base v xs) (hl : xs.length <= 1073741824) :
 Calls Tryz.prog 80 #[v] w fun e w' => e = .returned (.tuple #[]) /\ OwnInts w' base v (zcu xs) /\ w.grownBy w' v.ownBlock := by
 have hsl : (zcu xs).length = xs.length := by unfold zcu; exact List.length_mergeSort _
 rcases h.2 with ⟨hv, h0⟩ | ⟨g, cap, cur, hv, hg, hh, hn, hm, hs, ht⟩
 ·have : xs = [] := List.eq_nil_of_length_eq_zero h0;subst this; subst hv
  refine (zuo w).mono fun e w' ⟨h1, h2⟩ => ⟨h1, ?_, ?_⟩
  ·subst h2; unfold zcu; simpa using h
  subst h2; exact ⟨rfl, rfl, rfl, Nat.le_refl _, fun _ _ _ => rfl⟩
 subst hv;rw [Nat.mul_one] at ht
 refine (Tryz.slices_Sort_int g 0 cap xs w (Go.holds_of_blockI hh ht) (lt_of_block hh) (by omega)).mono fun e w' ⟨h1, n, os, h2⟩ => ⟨h1, ?_, ?_⟩
 ·rw [h2]
  show World.ownsRow _ _ _ _ _ _ _
  rw [hsl];exact Go.ownsRow_sortedI hsl hg hh hn hm hs
 rw [h2]; exact Go.grownBy_sortedI _
end Go.Proofs.YtfmmhjphopikgaaGreatDoor
namespace Cen
def b2i (b : Bool) : Int := if b then 1 else 0
end Cen
