/- Part of the proofs that laws return true for every input, where the tables that the rows list are laid. Texts: Cp8, CpA, CpC, CpB, CpN. -/
import Derived.Test.YtflhbcnhaeijbaaGreatDoorYH12
import Derived.Test.YtflhbcnhaeijbaaGreatDoorYH6
import Derived.Test.YtflhbcnhaeijbaaGreatDoorYH4
import Derived.BigQuiet
import Derived.Lib.SlicesCompact
import Derived.Test.YtflhbcnhaeijbaaGreatDoorYH3
import Derived.Lib.RowBridge
import Derived.Test.YtflhbcnhaeijbaaGreatDoorYH1
set_option maxHeartbeats 8000000
set_option maxRecDepth 100000
set_option linter.unusedSimpArgs false
set_option linter.unusedVariables false
namespace Go.Proofs.YtflhbcnhaeijbaaGreatDoor
open Go.RowKit Cen
def zvq (g cap base : Nat) (l : List Ce) (w : World) (e : Ending) (w' : World) : Prop :=
 ∃ l' : List Ce, e = .returned (.slice (some ⟨g, 0, none⟩) l'.length cap) /\ OwnC w' base (.slice (some ⟨g, 0, none⟩) l'.length cap) l' /\ (l'.map fun e => e.xs) = ordC (l.map fun e => e.xs) /\ (∀ e ∈ l', e ∈ l) /\ Kp (fun y => y = g) w w'
theorem zrz {l m : List Cl} (hp : m.Perm l) : ordC m = ordC l := zkg fun x => hp.mem_iff
theorem zi0 (g cap base : Nat) (l : List Ce) (w : World) (ho : OwnC w base (.slice (some ⟨g, 0, none⟩) l.length cap) l) (hc : CsOk w g l) (hm : l.length <= 1073741824) :
 Calls Tryz.prog 65 #[.slice (some ⟨g, 0, none⟩) l.length cap] w (zvq g cap base l w) := by
 have HS := lh (zjn g cap base l w ho hc hm);have HC := lh hc;clear ho hc;go_enter Tryz.func65, Tryz.ntmps65;go_wp2_with fail;refine Calls.mono HS.o ?_;rintro e w5 ⟨c, ⟨hown, hperm, hkp⟩, hsd, rfl⟩;have hlen : l.length = c.length := hperm.length_eq.symm;have HF := lh (zh4 g cap base c w5 (by rw [<- hlen]; exact hown) ((HC.o.kept hkp).perm hperm) (by omega))
 have HSD : Hid (Sd leC c 0 c.length) := by have := lh hsd; rwa [hlen] at this
 have HP := lh hperm;have HKP := lh hkp;have HLE := lh hlen;clear hown hperm hkp hsd hlen;rw [<- HLE.o] at HF;go_wp2_with fail;refine Calls.mono HF.o ?_;rintro e w6 ⟨rfl, hown, hkp⟩;have HOW := lh hown;have HK2 := lh hkp;clear hown hkp;go_wp2;go_ret;refine ⟨za4 c c.length, by rw [HLE.o]; rfl, HOW.o, by rw [zqs HSD.o]; exact zrz (HP.o.map _), fun e he => ?_, Kp.trans (M := fun y => y = g) HKP.o HK2.o⟩;obtain ⟨t, h1, _, rfl⟩ := zlw he;exact HP.o.mem_iff.1 (by rw [zat h1]; exact List.getElem_mem h1)
theorem zne (w : World) : Calls Tryz.prog 98 #[.slice none 0 0, FN2] w fun e w' => e = .returned (.slice none 0 0) /\ w = w' := by
 go_enter Tryz.func98, Tryz.ntmps98;go_wp2;go_ret;exact ⟨rfl, rfl⟩
theorem zmv (w : World) : Calls Tryz.prog 65 #[.slice none 0 0] w fun e w' => e = .returned (.slice none 0 0) /\ w = w' := by
 go_enter Tryz.func65, Tryz.ntmps65;go_wp2_with fail;refine (zjo _).mono ?_;rintro e w1 ⟨rfl, rfl⟩;go_wp2_with fail;refine (zne _).mono ?_;rintro e w1 ⟨rfl, rfl⟩;go_wp2;go_ret;exact ⟨rfl, rfl⟩
def leL (x y : Int) : Prop := ¬ cmpL y x < 0
theorem zt9 : Ord leL := ⟨fun x y => by unfold leL; rw [zcm, zcm]; omega, fun x y z h1 h2 => by unfold leL at *; rw [zcm] at *; omega⟩
theorem zve {x y : Int} (h : leL x y) (hn : x ≠ y) : ltL x y := by unfold leL ltL at *; rw [zcm] at *; omega
abbrev OwnI (w : World) (base : Nat) (v : Value) (l : List Int) : Prop := OwnL I1 3 1 w base v l
theorem OwnI.c0 {w : World} {base g cap n : Nat} {l : List Int} (h : OwnI w base (.slice (some ⟨g, 0, none⟩) n cap) l) (hn : n = l.length) {i : Nat} (hi : i < l.length) : w.cell? ⟨g, i, none⟩ = some (.int .i64 (gd l i)) := by
 rw [zat hi]; exact OwnL.cell1 hn h i hi
theorem OwnI.swp {w : World} {base g cap n : Nat} {l : List Int} (h : OwnI w base (.slice (some ⟨g, 0, none⟩) n cap) l) (hn : n = l.length) {i j : Nat} (hi : i < l.length) (hj : j < l.length) :
 OwnI ((w.setCell ⟨g, i, none⟩ (.int .i64 (gd l j))).setCell ⟨g, j, none⟩ (.int .i64 (gd l i))) base (.slice (some ⟨g, 0, none⟩) n cap) (swp l i j) := by
 have h1 := h.put1 hn zlm i hi (gd l j) _ rfl;exact h1.put1 (by simpa using hn) zlm j (by simpa using hj) (gd l i) _ rfl
theorem zlq : ∀ (args : Array Value) (w : World), (callFunc 120 args).run Tryz.prog w = .ok (.enter 120 args) w := fun _ _ => by kernel_rfl
abbrev FNL : Value := .func (.func 120) #[] #[]
theorem litB.gd {l : List Int} (h : litB l) {i : Nat} (hi : i < l.length) : -128 <= gd l i /\ gd l i <= 128 := by rw [zat hi]; exact h _ (List.getElem_mem hi)
def zm5 (g cap base : Nat) (l : List Int) (w : World) (e : Ending) (w' : World) : Prop :=
 ∃ l' : List Int, l'.Perm l /\ Sd leL l' 0 l.length /\ e = .returned (.tuple #[]) /\ OwnI w' base (.slice (some ⟨g, 0, none⟩) l.length cap) l' /\ Kp (fun y => y = g) w w'
theorem ztm (g cap base : Nat) (l : List Int) (w : World) (ho : OwnI w base (.slice (some ⟨g, 0, none⟩) l.length cap) l) (hc : litB l) (hm : l.length <= 1073741824) :
 Calls Tryz.prog 147 #[.slice (some ⟨g, 0, none⟩) l.length cap, .int .i64 0, .int .i64 (l.length : Int), FNL] w (zm5 g cap base l w) := by
 have HO := lh ho;have HC := lh hc;have hcf := zlq;clear ho hc;go_enter Tryz.func147, Tryz.ntmps147;go_wp2
 go_loopw [8] (fun i wr => ∃ k : Nat, 1 <= k /\ (k <= l.length \/ k = 1) /\ i = .int .i64 k /\ ∃ cur, OwnI wr base (.slice (some ⟨g, 0, none⟩) l.length cap) cur /\ cur.Perm l /\ Sd leL cur 0 k /\ Kp (fun y => y = g) w wr) (fun i _ => l.length - (intOf i).toNat)
 case atStart => exact ⟨1, Nat.le_refl _, .inr rfl, rfl, l, HO.o, List.Perm.refl _, fun i j h1 h2 h3 => by omega, Kp.refl _ _⟩
 obtain ⟨wo, rfl⟩ : ∃ wo : World, wo = wr := ⟨_, rfl⟩
 obtain ⟨k, hk1, hk2, rfl, cur, hown, hperm, hsd, hkp⟩ := hrel;have hlen : cur.length = l.length := hperm.length_eq;have HOW := lh hown;have HPR := lh hperm;have HSD := lh hsd;have HKO := lh hkp
 have HLB : Hid (litB cur) := fun x hx => HC.o x (hperm.mem_iff.1 hx)
 clear hown hperm hsd hkp
 by_cases hlt : k < l.length
 ·go_wp2_with fail
  go_loopw [9] (fun j wr => ∃ p : Nat, p <= k /\ j = .int .i64 p /\ (∀ t, p <= t -> t < k -> leL (gd cur k) (gd cur t)) /\ ∃ m, OwnI wr base (.slice (some ⟨g, 0, none⟩) l.length cap) m /\ m.Perm cur /\ Ins cur m k p /\ Kp (fun y => y = g) wo wr) (fun j _ => (intOf j).toNat)
  case atStart => exact ⟨k, Nat.le_refl _, rfl, fun t h1 h2 => by omega, cur, HOW.o, List.Perm.refl _, Ins.start _ _, Kp.refl _ _⟩
  obtain ⟨wi, rfl⟩ : ∃ wi : World, wi = wr := ⟨_, rfl⟩
  obtain ⟨p, hp2, rfl, hle, m, hown, hperm, hins, hkp⟩ := hrel;have HLE := lh hle;have HOI := lh hown;have HPE := lh hperm;have HIN := lh hins;have HKP := lh hkp;have hml : m.length = l.length := hperm.length_eq.trans hlen;have HML : Hid (l.length = m.length) := hml.symm;clear hle hperm hins hkp
  have HEND : Hid (p = 0 \/ leL (gd cur (p - 1)) (gd cur k) -> ∀ V : World, OwnI V base (.slice (some ⟨g, 0, none⟩) l.length cap) m -> Kp (fun y => y = g) wi V -> (OwnI V base (.slice (some ⟨g, 0, none⟩) l.length cap) m /\ m.Perm l /\ Sd leL m 0 (k + 1) /\ Kp (fun y => y = g) w V)) := fun h V hV hkV =>
   ⟨hV, HPE.o.trans HPR.o, HIN.o.sorted zt9 HSD.o (Nat.zero_le _) hp2 h HLE.o, Kp.trans (M := fun y => y = g) HKO.o (Kp.trans (M := fun y => y = g) HKP.o hkV)⟩
  by_cases hpa : 0 < p
  ·have hpl : p < m.length := by omega
   have hpl2 : p - 1 < m.length := by omega
   have epk : gd m p = gd cur k := by rw [HIN.o.2 p]; congr 1; unfold insI; (repeat' split) <;> omega
   have epj : gd m (p - 1) = gd cur (p - 1) := by rw [HIN.o.2 (p - 1)]; congr 1; unfold insI; (repeat' split) <;> omega
   have a0 := OwnI.c0 hown HML.o hpl;have b0 := OwnI.c0 hown HML.o hpl2;have f1 := hown.fr HML.o p;have f2 := hown.fr HML.o (p - 1);have gl := hown.lt.1;have HOS := lh (fun (V : World) (h : OwnI V base (.slice (some ⟨g, 0, none⟩) l.length cap) m) => OwnI.swp h HML.o hpl hpl2);rw [epk, epj] at HOS;rw [epk] at a0;rw [epj] at b0
   have hlk : k < cur.length := by omega
   have hlp : p - 1 < cur.length := by omega
   obtain ⟨x1, x2⟩ := HLB.o.gd hlk;obtain ⟨y1, y2⟩ := HLB.o.gd hlp;have HCA := lh (fun V => znl (gd cur k) (gd cur (p - 1)) x1 x2 y1 y2 V)
   have e1 : IntKind.i64.wrap ((p : Int) - 1) = ((p - 1 : Nat) : Int) := by rw [IntWalk.i64_in _ (by omega)]; omega
   have E1 := lh e1
   have hpi : ((p - 1 : Nat) : Int) < (l.length : Int) := by omega
   have hpi2 : (p : Int) < (l.length : Int) := by omega
   have hpi3 : p - 1 < l.length := by omega
   have hpi4 : p < l.length := by omega
   have hgd : decide ((0 : Int) < (p : Int)) = true := by simp; omega
   have hgd2 : decide (0 < p) = true := by simp; omega
   have HST : Hid (cmpL (gd cur k) (gd cur (p - 1)) < 0 -> ∀ t, p - 1 <= t -> t < k -> leL (gd cur k) (gd cur t)) := fun h t h1 h2 => by
    by_cases c : p <= t
    ·exact HLE.o t c h2
    rw [show t = p - 1 by omega]; unfold leL; rw [zlv]; omega
   have HNO : Hid (¬ cmpL (gd cur k) (gd cur (p - 1)) < 0 -> leL (gd cur (p - 1)) (gd cur k)) := fun h => h
   clear hown epk epj e1 x1 x2 y1 y2;generalize hx : gd cur k = x at *;generalize hy : gd cur (p - 1) = y at *;generalize hcv : cmpL x y = cv at *;clear hx hy hcv
   have HKS : Hid (∀ w' : World, Below wi.heap.size wi w' -> w'.cell? ⟨g, p, none⟩ = some (.int .i64 x) /\ w'.cell? ⟨g, p - 1, none⟩ = some (.int .i64 y)) := lh fun w' h => ⟨zaa h a0, zaa h b0⟩
   by_cases hneg : cv < 0
   ·have hd1 : decide (cv < 0) = true := by simpa using hneg
    have HS2 := lh (HST.o hneg);clear hneg;go_wp2_with fail;have e1 := E1.o
    go_region_held3 (fun w' => w'.cell? ⟨g, p, none⟩ = some (.int .i64 x) /\ w'.cell? ⟨g, p - 1, none⟩ = some (.int .i64 y))
     (first
       | exact HKS.o _ (Below.refl _ _).drew
       | exact HKS.o _ hv5)
     (first
       | (go_at_call 120
          refine Calls.mono (HCA.o _) ?_;rintro e v5 ⟨rfl, hw⟩;have hv5 : Below wi.heap.size wi v5 := hw ▸ (Below.refl wi.heap.size wi).drew
          clear hw))
    all_goals
     go_wp2_with fail;obtain ⟨z0, z1⟩ := HKS.o v5 hv5;have HO5 := lh (HOI.o.later hv5);have h1 := HO5.o.fr HML.o p;have h2 := HO5.o.fr HML.o (p - 1);have gl5 := HO5.o.lt.1
     have HKK : Hid (∀ c d, Kp (fun y => y = g) wo ((v5.setCell ⟨g, p, none⟩ c).setCell ⟨g, p - 1, none⟩ d)) := fun c d => by
      have M := Kp.setCell (M := fun y => y = g);exact Kp.trans (M := fun y => y = g) (Kp.trans (M := fun y => y = g) (Kp.trans (M := fun y => y = g) HKP.o (Kp.below hv5)) (M _ _ _ rfl)) (M _ _ _ rfl)
     have HOS2 := lh (HOS.o v5 HO5.o);clear a0 b0 f1 f2 hv5;go_region
     all_goals
      clear e1;go_wp2;go_roundw
      case rel => exact ⟨p - 1, by omega, ival (by omega), HS2.o, swp m p (p - 1), HOS2.o.later (Below.refl _ _).drew, (zf6 hpl hpl2).trans HPE.o, HIN.o.step (by omega) hp2 (by omega), Kp.trans (M := fun y => y = g) (HKK.o _ _) (Kp.below (Below.refl _ _).drew)⟩
      case measure => simp [intOf]; omega
   have hd1 : decide (cv < 0) = false := by simpa using hneg
   have HS2 := lh (HNO.o hneg);clear hneg;go_wp2_with fail;have e1 := E1.o
   go_region_held3 (fun w' => w'.cell? ⟨g, p, none⟩ = some (.int .i64 x) /\ w'.cell? ⟨g, p - 1, none⟩ = some (.int .i64 y))
    (first
      | exact HKS.o _ (Below.refl _ _).drew
      | exact HKS.o _ hv5)
    (first
      | (go_at_call 120
         refine Calls.mono (HCA.o _) ?_;rintro e v5 ⟨rfl, hw⟩;have hv5 : Below wi.heap.size wi v5 := hw ▸ (Below.refl wi.heap.size wi).drew
         clear hw))
   all_goals
    have HE5 := lh (fun V h1 h2 => HEND.o (.inr HS2.o) V h1 h2);clear e1 a0 b0;go_wp2;go_roundw
    case rel => exact ⟨k + 1, by omega, .inl (by omega), ival (by omega), m, HE5.o _ (HOI.o.later hv5) (Kp.below hv5)⟩
    case measure => simp [intOf]; omega
  have hpe : p = 0 := by omega
  have hgd : decide ((0 : Int) < (p : Int)) = false := by simp; omega
  have hgd2 : decide (0 < p) = false := by simp; omega
  have HE5 := lh (fun V h1 h2 => HEND.o (.inl hpe) V h1 h2);clear hown hpe hpa;go_wp2_with fail
  go_quiet (fail)
  all_goals
   go_wp2;go_roundw
   case rel => exact ⟨k + 1, by omega, .inl (by omega), ival (by omega), m, HE5.o _ (HOI.o.later (zad _ _)) (Kp.below (zad _ _))⟩
   case measure => simp [intOf]; omega
 have HE : Hid (Sd leL cur 0 l.length) := fun i j h1 h2 h3 => HSD.o i j h1 h2 (by omega)
 go_wp2
 go_end0
 exact ⟨cur, HPR.o, HE.o, rfl, HOW.o, HKO.o⟩
theorem zub (g cap base : Nat) (d : Int) (l : List Int) (w : World) (ho : OwnI w base (.slice (some ⟨g, 0, none⟩) l.length cap) l) (hc : litB l) (hm : l.length <= 12) :
 Calls Tryz.prog 138 #[.slice (some ⟨g, 0, none⟩) l.length cap, .int .i64 0, .int .i64 (l.length : Int), .int .i64 d, FNL] w (zm5 g cap base l w) := by
 have HS := lh (ztm g cap base l w ho hc (by omega));clear ho hc
 have hd : decide ((l.length : Int) <= 12) = true := by simp; omega
 have hd2 : decide (l.length <= 12) = true := by simp; omega
 go_enter Tryz.func138, Tryz.ntmps138;go_wp2;refine wp_loop_rounds 1 ?_;rw [rounds_succ];go_wp2_with fail;refine HS.o.mono ?_;rintro e w1 ⟨l', h1, h2, rfl, h3, h4⟩;have H := lh (And.intro h1 (And.intro h2 (And.intro h3 h4)));clear h1 h2 h3 h4;go_wp2;exact bodyPost_ret (v := .tuple #[]) (by simp [results, Tryz.results138, go_sem]) rfl ⟨l', H.o.1, H.o.2.1, rfl, H.o.2.2.1, H.o.2.2.2⟩
theorem zlf (g cap base : Nat) (l : List Int) (w : World) (ho : OwnI w base (.slice (some ⟨g, 0, none⟩) l.length cap) l) (hc : litB l) (hm : l.length <= 12) :
 Calls Tryz.prog 119 #[.slice (some ⟨g, 0, none⟩) l.length cap, FNL] w (zm5 g cap base l w) := by
 have HS := lh (fun d => zub g cap base d l w ho hc hm);clear ho hc;go_enter Tryz.func119, Tryz.ntmps119;go_wp2_with fail;refine (Tryz.bits_Len l.length w (by omega) (by omega)).mono ?_;rintro e w1 ⟨rfl, rfl⟩;go_wp2_with fail;refine (HS.o _).mono ?_;rintro e w1 ⟨l', h1, h2, rfl, h3, h4⟩;have H := lh (And.intro h1 (And.intro h2 (And.intro h3 h4)));clear h1 h2 h3 h4;go_wp2
 go_end0
 exact ⟨l', H.o.1, H.o.2.1, rfl, H.o.2.2.1, H.o.2.2.2⟩
end Go.Proofs.YtflhbcnhaeijbaaGreatDoor
namespace Go.Proofs.YtflhbcnhaeijbaaGreatDoor
open Cen
theorem zgb (zs : List Int) (i : Nat) : zs.toArray[i]! = gd zs i := by
 unfold gd
 simp [List.getD_eq_getElem?_getD, Array.getElem!_eq_getD]
theorem zij {zs : List Int} {k : Nat} : Go.Lib.keeps zs.toArray k = true ↔ k = 0 \/ gd zs k ≠ gd zs (k - 1) := by
 unfold Go.Lib.keeps;rw [zgb, zgb, decide_eq_true_eq]
theorem znd {zs : List Int} {x : Int} : x ∈ Go.Lib.compact zs ↔ ∃ t, t < zs.length /\ Go.Lib.keeps zs.toArray t = true /\ x = gd zs t := by
 unfold Go.Lib.compact Go.Lib.compactUpTo;rw [List.mem_map]
 constructor
 ·rintro ⟨t, ht, rfl⟩;obtain ⟨h1, h2⟩ := List.mem_filter.1 ht;exact ⟨t, List.mem_range.1 h1, h2, zgb _ _⟩
 rintro ⟨t, h1, h2, rfl⟩;exact ⟨t, List.mem_filter.2 ⟨List.mem_range.2 h1, h2⟩, zgb _ _⟩
theorem zgw {zs : List Int} : ∀ t, ∃ s, s <= t /\ Go.Lib.keeps zs.toArray s = true /\ gd zs s = gd zs t
 | 0 => ⟨0, Nat.le_refl _, zij.2 (.inl rfl), rfl⟩
 | t + 1 => by
   by_cases h : gd zs (t + 1) = gd zs t
   ·obtain ⟨s, h1, h2, h3⟩ := zgw (zs := zs) t;exact ⟨s, by omega, h2, h3.trans h.symm⟩
   exact ⟨t + 1, Nat.le_refl _, zij.2 (.inr h), rfl⟩
theorem zl0 {zs : List Int} (hs : Sd leL zs 0 zs.length) : (Go.Lib.compact zs).Pairwise ltL /\ ∀ x, x ∈ Go.Lib.compact zs ↔ x ∈ zs := by
 refine ⟨?_, fun x => ?_⟩
 ·unfold Go.Lib.compact Go.Lib.compactUpTo;rw [List.pairwise_map];refine List.Pairwise.imp_of_mem ?_ ((List.pairwise_lt_range (n := zs.length)).filter (Go.Lib.keeps zs.toArray));intro s t hs1 ht1 hst;obtain ⟨h1, _⟩ := List.mem_filter.1 hs1;obtain ⟨h2, h3⟩ := List.mem_filter.1 ht1;rw [List.mem_range] at h1 h2;rw [zgb, zgb];have hle := hs s t (Nat.zero_le _) hst h2
  refine zve hle fun e => ?_
  rcases zij.1 h3 with h3 | h3
  ·omega
  apply h3
  by_cases c : s = t - 1
  ·rw [<- c]; exact e.symm
  have a1 := hs s (t - 1) (Nat.zero_le _) (by omega) (by omega);have a2 := hs (t - 1) t (Nat.zero_le _) (by omega) h2
  apply Classical.byContradiction
  intro hne
  have b2 := zve a2 fun e' => hne e'.symm
  rw [<- e] at b2;exact a1 b2
 rw [znd]
 constructor
 ·rintro ⟨t, h1, _, rfl⟩;rw [zat h1]; exact List.getElem_mem h1
 intro hx;obtain ⟨t, h1, rfl⟩ := List.getElem_of_mem hx;obtain ⟨s, k1, k2, k3⟩ := zgw (zs := zs) t;exact ⟨s, by omega, k2, by rw [k3, zat h1]⟩
def oppT (d : List Int) (k : Nat) : Prop := ∃ i, 0 < i /\ i < k /\ gd d i = - gd d (i - 1)
theorem zmu {d : List Int} (hs : d.Pairwise ltL) (hv : ∀ x ∈ d, x ≠ 0 /\ -128 <= x /\ x <= 128) : oppT d d.length ↔ taut d = true := by
 rw [zcd]
 constructor
 ·rintro ⟨i, h1, h2, h3⟩;refine ⟨gd d i, by rw [zat h2]; exact List.getElem_mem h2, ?_⟩;rw [h3, Int.neg_neg, zat (by omega)]; exact List.getElem_mem _
 rintro ⟨x, hx, hnx⟩
 have key : ∀ y, 0 < y -> y ∈ d -> -y ∈ d -> oppT d d.length := by
  intro y hy h1 h2;obtain ⟨b, hb, eb⟩ := List.getElem_of_mem h1;obtain ⟨a, ha, ea⟩ := List.getElem_of_mem h2;obtain ⟨v1, v2, v3⟩ := hv y h1;have hP := List.pairwise_iff_getElem.1 hs
  have ly : zac y = y := by rw [zal v1 v2 v3, if_neg (by omega)]
  have lny : zac (-y) = y := by rw [zal (by omega) (by omega) (by omega), if_pos (by omega)]; omega
  have hab : a < b := by
   apply Classical.byContradiction
   intro c
   by_cases e : a = b
   ·subst e; rw [eb] at ea; omega
   have := hP b a hb ha (by omega);rw [eb, ea] at this;unfold ltL at this; rw [zcm] at this; omega
  by_cases e : b = a + 1
  ·refine ⟨b, by omega, hb, ?_⟩;rw [zat hb, zat (by omega), eb]
   have : d[b - 1] = -y := by rw [<- ea]; congr 1; omega
   rw [this]; omega
  have h3 := hP a (a + 1) ha (by omega) (by omega);have h4 := hP (a + 1) b (by omega) hb (by omega);rw [ea] at h3; rw [eb] at h4;obtain ⟨z1, z2, z3⟩ := hv _ (List.getElem_mem (show a + 1 < d.length by omega));generalize d[a + 1] = z at h3 h4 z1 z2 z3;have lz := zal z1 z2 z3;unfold ltL at h3 h4; rw [zcm] at h3 h4
  split at lz <;> omega
 obtain ⟨v1, _, _⟩ := hv x hx
 by_cases c : 0 < x
 ·exact key x c hx hnx
 exact key (-x) (by omega) hnx (by rwa [Int.neg_neg])
end Go.Proofs.YtflhbcnhaeijbaaGreatDoor
namespace Go.Proofs.YtflhbcnhaeijbaaGreatDoor
open Go.RowKit Cen
theorem znm (x n : Int) (a : Addr) (w : World) (h : w.cell? a = some (.int .i64 n)) :
 Calls Tryz.prog 118 #[.int .i64 x, .pointer (some a)] w fun e w' => e = .returned (.bool (!zas x n)) /\ w = w' := by
 go_enter Tryz.func118, Tryz.ntmps118;go_wp2_with (go_at_call 37; refine (zde _ _ _).mono ?_; rintro e w' ⟨rfl, rfl⟩);go_ret; exact ⟨rfl, rfl⟩
theorem zha : zb0 118 := fun _ _ => by kernel_rfl
theorem zm7 (xs : List Int) (p : Int -> Bool) : (!(xs.any fun x => !p x)) = xs.all p := by
 induction xs with
 | nil => rfl
 | cons x xs ih => rw [List.any_cons, List.all_cons, Bool.not_or, Bool.not_not, ih]
theorem zj9 (a : Option Addr) (cap : Nat) (xs : List Int) (n : Int) (w : World) (hl : xs.length <= 1073741824) (hx : IntCells w a xs) :
 Calls Tryz.prog 91 #[.slice a xs.length cap, .int .i64 n] w fun e w' => e = .returned (.bool (xs.all fun x => zas x n)) /\ Below w.heap.size w w' := by
 have hb0 : Below w.heap.size w (w.alloc (.cells #[.int .i64 n] 3)) := (Below.refl _ _).alloc (Nat.le_refl _) _;have HX := lh (hx.keep hb0);have HB := lh hb0
 have hne : (!(xs.any fun x => !zas x n)) = xs.all fun x => zas x n := zm7 _ _
 have HNE := lh hne;clear hx hb0 hne;go_enter Tryz.func91, Tryz.ntmps91;go_wp2_with fail;refine (zd4 a cap xs 118 #[.pointer (some ⟨w.heap.size, 0, none⟩)] (fun x => !zas x n) _ hl HX.o (fun x _ => znm x n _ _ (by rw [World.cell?_alloc_at _ _ _ _ (by simp)]; rfl)) zha).mono ?_;rintro e w1 ⟨rfl, rfl⟩;go_wp2;go_ret;exact ⟨zah HNE.o, HB.o⟩
theorem zg2 (a : Option Addr) (cap : Nat) (xs : List Int) (w : World) (hl : xs.length <= 1073741824) (hx : IntCells w a xs) (hb : litB xs) :
 Calls Tryz.prog 93 #[.slice a xs.length cap] w fun e w' => (∃ r : Bool, e = .returned (.bool r) /\ (r = true ↔ oppT xs xs.length)) /\ Below w.heap.size w w' := by
 have HX := lh hx;have HLB := lh hb;clear hx hb;go_enter Tryz.func93, Tryz.ntmps93;go_wp2
 go_loopw [3] (fun i wr => ∃ k : Nat, 1 <= k /\ (k <= xs.length \/ k = 1) /\ i = .int .i64 k /\ ¬ oppT xs k /\ Below w.heap.size w wr) (fun i _ => xs.length - (intOf i).toNat)
 case atStart => exact ⟨1, Nat.le_refl _, .inr rfl, rfl, fun ⟨i, h1, h2, _⟩ => by omega, Below.refl _ _⟩
 obtain ⟨k, hk1, hk2, rfl, hno, hb⟩ := hrel;have HNO := lh hno;have HB := lh hb;clear hno hb
 by_cases hlt : k < xs.length
 ·obtain ⟨b, off, rfl, hc1⟩ := HX.o.keep HB.o k hlt;obtain ⟨b', off', e', hc2⟩ := HX.o.keep HB.o (k - 1) (by omega);simp only [Option.some.injEq, Addr.mk.injEq, and_true] at e';obtain ⟨rfl, rfl⟩ := e';have x1 : xs.getD k 0 = gd xs k := rfl;have x2 : xs.getD (k - 1) 0 = gd xs (k - 1) := rfl;rw [x1] at hc1;rw [x2] at hc2;obtain ⟨y1, y2⟩ := HLB.o.gd (show k - 1 < xs.length by omega);have HY : Hid (IntKind.i64.wrap (-(gd xs (k - 1))) = -(gd xs (k - 1))) := IntWalk.i64_in _ (by omega)
  have e1 : IntKind.i64.wrap ((k : Int) - 1) = ((k - 1 : Nat) : Int) := by rw [IntWalk.i64_in _ (by omega)]; omega
  have E1 := lh e1
  have hki : ((k - 1 : Nat) : Int) < (xs.length : Int) := by omega
  have hki2 : (k : Int) < (xs.length : Int) := by omega
  have hki3 : k - 1 < xs.length := by omega
  have HS : Hid (oppT xs (k + 1) ↔ oppT xs k \/ gd xs k = - gd xs (k - 1)) := by
   show _ ↔ _
   constructor
   ·rintro ⟨i, h1, h2, h3⟩
    by_cases c : i = k
    ·subst c; exact .inr h3
    exact .inl ⟨i, h1, by omega, h3⟩
   rintro (⟨i, h1, h2, h3⟩ | h)
   ·exact ⟨i, h1, by omega, h3⟩
   exact ⟨k, by omega, by omega, h⟩
  have HUP : Hid (oppT xs (k + 1) -> oppT xs xs.length) := fun ⟨i, h1, h2, h3⟩ => ⟨i, h1, by omega, h3⟩
  clear x1 x2 e1 y1 y2
  by_cases heq : gd xs k = - gd xs (k - 1)
  ·have hd : (gd xs k == - gd xs (k - 1)) = true := by simpa using heq
   have hd2 : decide (gd xs k = - gd xs (k - 1)) = true := by simpa using heq
   have HEQ := lh heq;clear heq;generalize gd xs k = x at *;generalize gd xs (k - 1) = y at *;go_wp2_with fail;have e1 := E1.o;have hy := HY.o
   go_quiet (fail)
   all_goals
    go_wp2;go_ret;exact ⟨⟨true, rfl, fun _ => HUP.o (HS.o.2 (.inr HEQ.o)), fun _ => rfl⟩, HB.o.trans ((zad _ _).mono HB.o.size)⟩
  have hd : (gd xs k == - gd xs (k - 1)) = false := by simpa using heq
  have hd2 : decide (gd xs k = - gd xs (k - 1)) = false := by simpa using heq
  have HEQ := lh heq;clear heq;generalize gd xs k = x at *;generalize gd xs (k - 1) = y at *;go_wp2_with fail;have e1 := E1.o;have hy := HY.o
  go_quiet (fail)
  all_goals
   clear e1 hy;go_wp2;go_roundw
   case rel => exact ⟨k + 1, by omega, .inl (by omega), ival (by omega), fun h => (HS.o.1 h).elim HNO.o HEQ.o, HB.o.trans ((zad _ _).mono HB.o.size)⟩
   case measure => simp [intOf]; omega
 have HE : Hid (¬ oppT xs xs.length) := fun ⟨i, h1, h2, h3⟩ => HNO.o ⟨i, h1, by omega, h3⟩
 go_wp2;go_ret;exact ⟨⟨false, rfl, fun h => by simp at h, fun h => absurd h HE.o⟩, HB.o⟩
theorem OwnI.cut {w : World} {base g cap : Nat} {xs ys : List Int} (h : OwnI w base (.slice (some ⟨g, 0, none⟩) (xs ++ ys).length cap) (xs ++ ys)) : OwnI w base (.slice (some ⟨g, 0, none⟩) xs.length cap) xs := by
 refine zaq.1 ?_;have h := zaq.2 h;refine ⟨by simp, ?_⟩
 rcases h.2 with ⟨h3, _⟩ | ⟨g', cap', cur, hv, hb, hg, hnc, hcm, hcs, ht⟩
 ·simp at h3
 simp only [Value.slice.injEq, Option.some.injEq, Addr.mk.injEq, and_true, true_and] at hv;obtain ⟨rfl, rfl⟩ := hv;refine .inr ⟨_, _, cur, rfl, hb, hg, by rw [List.length_append] at hnc; omega, hcm, hcs, ?_⟩;have h3 := congrArg (List.take xs.length) ht;rw [List.take_take, List.map_append, List.take_left' (by simp), Nat.mul_one, show min xs.length (xs ++ ys).length = xs.length by rw [List.length_append]; omega] at h3;rw [Nat.mul_one]; exact h3
theorem zly (g cap base : Nat) (l : List Int) (w : World) (ho : OwnI w base (.slice (some ⟨g, 0, none⟩) l.length cap) l) (hm : l.length <= 1073741824) :
 Calls Tryz.prog 122 #[.slice (some ⟨g, 0, none⟩) l.length cap] w fun e w' => e = .returned (.slice (some ⟨g, 0, none⟩) (Go.Lib.compact l).length cap) /\ OwnI w' base (.slice (some ⟨g, 0, none⟩) (Go.Lib.compact l).length cap) (Go.Lib.compact l) /\ Kp (fun y => y = g) w w' := by
 rcases (zaq.2 ho).2 with ⟨h3, _⟩ | ⟨g', cap', cur, hv, hg, hh, hn, hmx, hs, ht⟩
 ·simp at h3
 simp only [Value.slice.injEq, Option.some.injEq, Addr.mk.injEq, and_true, true_and] at hv;obtain ⟨rfl, rfl⟩ := hv;rw [Nat.mul_one] at ht;refine (Tryz.slices_Compact_int g 0 cap l w (Go.holds_of_blockI hh ht) (by omega) (by omega)).mono ?_;rintro e w' ⟨rfl, q, rfl⟩;have hle := Go.Lib.compact_length_le l
 have hsz : (Go.Lib.compact l ++ List.replicate (l.length - (Go.Lib.compact l).length) 0).length = l.length := by simp; omega
 have hO := Go.ownsRow_sortedI (n := q) (os := #[]) (w := w) (base := base) (e := 3) hsz hg hh hn hmx hs;have hG := Go.grownBy_sortedI (w := w) (g := g) (n := q) (os := #[]) (Go.Lib.compact l ++ List.replicate (l.length - (Go.Lib.compact l).length) 0).toArray;rw [Go.Sort.grow_empty] at hO hG;refine ⟨rfl, OwnI.cut (ys := List.replicate (l.length - (Go.Lib.compact l).length) 0) ?_, ?_⟩
 ·refine zaq.1 ?_
  show World.ownsRow _ _ _ _ _ _ _
  rw [hsz]; exact hO
 exact ⟨hG.os, hG.tape, hG.output, hG.size, fun k hk hM => hG.block k hk fun e => hM (by cases e; rfl)⟩
theorem zlz (w : World) : Calls Tryz.prog 122 #[.slice none 0 0] w fun e w' => e = .returned (.slice none 0 0) /\ w = w' :=
 (Tryz.slices_Compact_int_empty none 0 w).mono fun _ _ ⟨h1, h2⟩ => ⟨h1, h2.symm⟩
theorem ztn (w : World) : Calls Tryz.prog 147 #[.slice none 0 0, .int .i64 0, .int .i64 0, FNL] w fun e w' => e = .returned (.tuple #[]) /\ w = w' := by
 go_enter Tryz.func147, Tryz.ntmps147;go_wp2;refine wp_loop_rounds 1 ?_;rw [rounds_succ];go_wp2
 go_end0
 exact ⟨rfl, rfl⟩
theorem zuc (d : Int) (w : World) : Calls Tryz.prog 138 #[.slice none 0 0, .int .i64 0, .int .i64 0, .int .i64 d, FNL] w fun e w' => e = .returned (.tuple #[]) /\ w = w' := by
 go_enter Tryz.func138, Tryz.ntmps138;go_wp2;refine wp_loop_rounds 1 ?_;rw [rounds_succ];go_wp2_with fail;refine (ztn _).mono ?_;rintro e w1 ⟨rfl, rfl⟩;go_wp2;exact bodyPost_ret (v := .tuple #[]) (by simp [results, Tryz.results138, go_sem]) rfl ⟨rfl, rfl⟩
theorem zlg (w : World) : Calls Tryz.prog 119 #[.slice none 0 0, FNL] w fun e w' => e = .returned (.tuple #[]) /\ w = w' := by
 go_enter Tryz.func119, Tryz.ntmps119;go_wp2_with fail;refine (Tryz.bits_Len 0 w (by omega) (by omega)).mono ?_;rintro e w1 ⟨rfl, rfl⟩;go_wp2_with fail;refine (zuc _ _).mono ?_;rintro e w1 ⟨rfl, rfl⟩;go_wp2
 go_end0
 exact ⟨rfl, rfl⟩
def zsn (c : List Int) (w : World) (e : Ending) (w' : World) : Prop := ∃ v d, e = .returned v /\ OwnI w' w.heap.size v d /\ d.Pairwise ltL /\ (∀ x, x ∈ d ↔ x ∈ c) /\ d.length <= c.length /\ Below w.heap.size w w'
theorem Kp.fresh {B g : Nat} {w w' : World} (h : Kp (fun y => y = g) w w') (hg : B <= g) (hB : B <= w.heap.size) : Below B w w' := ⟨h.os, h.tape, h.output, h.size, fun k hk => h.block k (Nat.lt_of_lt_of_le hk hB) (by omega)⟩
theorem zj8 (a : Option Addr) (cap : Nat) (c : List Int) (w : World) (hl : c.length <= 12) (hx : IntCells w a c) (hb : litB c) :
 Calls Tryz.prog 92 #[.slice a c.length cap] w (zsn c w) := by
 have HL := lh (zav a cap c w (by omega) hx);have HB := lh hb;clear hx hb;go_enter Tryz.func92, Tryz.ntmps92;go_wp2_with fail;refine HL.o.mono ?_;rintro e w1 ⟨v, rfl, hown, hbl⟩;have hown := zaq.1 hown;have HBL := lh hbl;clear hbl
 rcases hown.shape with ⟨rfl, hc0⟩ | ⟨g, cp, rfl, hg1, hg2⟩
 ·subst hc0;have HO := lh hown;clear hown;go_wp2_with fail;refine (zlg _).mono ?_;rintro e w2 ⟨rfl, rfl⟩;go_wp2_with fail;refine (zlz _).mono ?_;rintro e w2 ⟨rfl, rfl⟩;go_wp2;go_ret;exact ⟨_, [], rfl, HO.o, List.Pairwise.nil, fun x => Iff.rfl, Nat.le_refl _, HBL.o⟩
 have HS := lh (zlf g cp _ c w1 hown HB.o hl);clear hown;go_wp2_with fail;refine HS.o.mono ?_;rintro e w2 ⟨d, hp, hsd, rfl, hown2, hkp⟩;have hlen : c.length = d.length := hp.length_eq.symm;have HC := lh (zly g cp _ d w2 (by rw [<- hlen]; exact hown2) (by omega));rw [<- hlen] at HC;have HLI := lh (zl0 (zs := d) (by rw [<- hlen]; exact hsd));have HP := lh hp;have HK := lh (hkp.fresh hg1 HBL.o.size);have HSZ : Hid (w.heap.size <= w2.heap.size) := Nat.le_trans HBL.o.size hkp.size;clear hown2 hkp hp hsd hlen;go_wp2_with fail;refine HC.o.mono ?_;rintro e w3 ⟨rfl, hown3, hkp3⟩;have HO3 := lh hown3;have HK3 := lh (hkp3.fresh hg1 HSZ.o)
 clear hown3 hkp3;go_wp2;go_ret;exact ⟨_, _, rfl, HO3.o, HLI.o.1, fun x => (HLI.o.2 x).trans HP.o.mem_iff, by rw [<- HP.o.length_eq]; exact Go.Lib.compact_length_le _, (HBL.o.trans HK.o).trans HK3.o⟩
def zvk (n : Nat) (c : List Int) (w : World) (e : Ending) (w' : World) : Prop := ∃ v, e = .returned (.tuple #[v, .bool (taut c), .int .i64 0]) /\ OwnI w' w.heap.size v (zaw n c) /\ (zaw n c).length <= 12 /\ Below w.heap.size w w'
theorem zkm {c d : List Int} (h : ∀ x, x ∈ c ↔ x ∈ d) : taut c = taut d := by
 have : taut c = true ↔ taut d = true := by rw [zcd, zcd]; exact exists_congr fun x => and_congr (h x) (h _)
 cases h1 : taut c <;> cases h2 : taut d <;> simp_all
theorem zk7 (n : Nat) (hn : n <= 128) (a : Option Addr) (cap : Nat) (c : List Int) (w : World) (hl : c.length <= 12) (hx : IntCells w a c) (hc : ∀ x ∈ c, x ≠ 0 /\ -(n : Int) <= x /\ x <= n) :
 Calls Tryz.prog 64 #[.slice a c.length cap, .int .i64 n] w (zvk n c w) := by
 have hlb : litB c := fun x hx => by have := hc x hx; omega
 have hok : (c.all fun x => zas x n) = true := by
  rw [List.all_eq_true];intro x hx;obtain ⟨h1, h2, h3⟩ := hc x hx;have := zal h1 (by omega) (by omega);unfold zas
  split at this <;> simp <;> omega
 have HV := lh (zj9 a cap c n w (by omega) hx);rw [hok] at HV;have HO := lh (fun (V : World) (h : Below w.heap.size w V) => zj8 a cap c V hl (hx.keep h) hlb);have HC := lh hc;clear hx hok hlb hc;go_enter Tryz.func64, Tryz.ntmps64;go_wp2_with fail;refine HV.o.mono ?_;rintro e w1 ⟨rfl, hb1⟩;have H1 := lh (HO.o w1 hb1);have HB1 := lh hb1;clear hb1;go_wp2_with fail;refine H1.o.mono ?_;rintro e w2 ⟨v, d, rfl, hown, hpw, hmem, hdc, hb2⟩;have hdn : d = zaw n c := zej hn hpw hmem HC.o;have hown : OwnI w2 w.heap.size v d := hown.lower HB1.o.size;obtain ⟨av, cv, rfl, hcells, _⟩ := (zaq.2 hown).cells;have hdl : d.length <= 12 := Nat.le_trans hdc hl
 have hdv : ∀ x ∈ d, x ≠ 0 /\ -128 <= x /\ x <= 128 := fun x hx => by have := HC.o x ((hmem x).1 hx); omega
 have HP := lh (zg2 av cv d w2 (by omega) hcells fun x hx => (hdv x hx).2);have HT := lh ((zmu hpw hdv).trans (by rw [zkm hmem]));have HDN := lh hdn;have HOW := lh hown;have HB2 := lh (HB1.o.trans (hb2.mono HB1.o.size));clear hpw hmem hdv hcells hown hb2 hdn;go_wp2_with fail;refine HP.o.mono ?_;rintro e w3 ⟨⟨r, rfl, hr⟩, hb3⟩
 have hrt : r = taut c := by
  have := hr.trans HT.o
  cases r <;> cases h : taut c <;> simp_all
 subst hrt;have HO3 := lh (HOW.o.later hb3);have HB3 := lh (HB2.o.trans (hb3.mono HB2.o.size));clear hr hb3;go_wp2;exact bodyPost_ret (v := .tuple #[.slice av d.length cv, .bool (taut c), .int .i64 0]) (by simp [results, Tryz.results64, go_sem]) rfl ⟨_, rfl, by rw [<- HDN.o]; exact HO3.o, by rw [<- HDN.o]; exact hdl, HB3.o⟩
theorem zk1 : Elem 106 135 2 32 (.agg #[.slice none 0 0, .int .i64 0]) := .mk Tryz.underlying106 (by kernel_rfl) rfl (by decide)
def CsIn (w : World) (base : Nat) (v : Value) (l : List Ce) : Prop := ∀ e ∈ l, e.xs.length <= 1073741824 /\ litB e.xs /\ IntCells w e.a e.xs /\ ∀ p, e.a = some p -> base <= p.block /\ p.block < w.heap.size /\ ¬ v.ownBlock = some p.block
theorem CsIn.nil (w : World) (base : Nat) (v : Value) : CsIn w base v [] := fun e h => by simp at h
theorem CsIn.ok {w : World} {base g n cap : Nat} {l : List Ce} (h : CsIn w base (.slice (some ⟨g, 0, none⟩) n cap) l) : CsOk w g l := fun e he => by
 obtain ⟨h1, h2, h3, h4⟩ := h e he;exact ⟨h1, h2, h3, fun p hp e' => (h4 p hp).2.2 (by rw [e']; rfl)⟩
theorem CsIn.kept {w w' : World} {base : Nat} {v v' : Value} {l : List Ce} (h : CsIn w base v l) (hk : Kp (fun y => v.ownBlock = some y) w w') (hv : ∀ k, v'.ownBlock = some k -> v.ownBlock = some k \/ w.heap.size <= k) : CsIn w' base v' l := fun e he => by
 obtain ⟨h1, h2, h3, h4⟩ := h e he;refine ⟨h1, h2, h3.kept hk fun p hp => (h4 p hp).2.2, fun p hp => ?_⟩;obtain ⟨k1, k2, k3⟩ := h4 p hp;refine ⟨k1, Nat.lt_of_lt_of_le k2 hk.size, fun e' => ?_⟩
 rcases hv _ e' with h5 | h5
 ·exact k3 h5
 omega
theorem CsIn.sub {w : World} {base : Nat} {v : Value} {l m : List Ce} (h : CsIn w base v l) (hm : ∀ e ∈ m, e ∈ l) : CsIn w base v m := fun e he => h e (hm e he)
def AtN (n : Nat) (t : List Cl) (k : Nat) (l : List Ce) : Prop := ∀ e ∈ l, ∃ j : Nat, j < k /\ e.i = j /\ taut (t.getD j []) = false /\ e.xs = zaw n (t.getD j [])
structure NrmSt (n : Nat) (t : List Cl) (B k : Nat) (w : World) (v : Value) (l : List Ce) : Prop where
 own : OwnC w B v l
 ins : CsIn w B v l
 at' : AtN n t k l
 xs : (l.map fun e => e.xs) = ((t.take k).filter fun c => !taut c).map (zaw n)
def zvp (n : Nat) (t : List Cl) (w : World) (e : Ending) (w' : World) : Prop :=
 ∃ v l, e = .returned v /\ OwnC w' w.heap.size v l /\ CsIn w' w.heap.size v l /\ AtN n t t.length l /\ (l.map fun e => e.xs) = zab n t /\ Below w.heap.size w w'
theorem NrmSt.skip {n : Nat} {t : List Cl} {B k : Nat} {w : World} {v : Value} {l : List Ce} (h : NrmSt n t B k w v l) (hk : k < t.length) (ht : taut (t.getD k []) = true) : NrmSt n t B (k + 1) w v l :=
 ⟨h.own, h.ins, fun e he => let ⟨j, h1, h2⟩ := h.at' e he; ⟨j, by omega, h2⟩, by
   rw [h.xs, List.take_succ_eq_append_getElem hk, List.filter_append, List.map_append]
   have : taut t[k] = true := by rw [<- ht]; simp [List.getD_eq_getElem?_getD, hk]
   simp [this]⟩
theorem NrmSt.len {n : Nat} {t : List Cl} {B k : Nat} {w : World} {v : Value} {l : List Ce} (h : NrmSt n t B k w v l) : l.length <= t.length := by
 have := congrArg List.length h.xs;rw [List.length_map, List.length_map] at this;have h2 := List.length_filter_le (fun c => !taut c) (t.take k);rw [List.length_take] at h2;omega
theorem NrmSt.later {n : Nat} {t : List Cl} {B k : Nat} {w w' : World} {v : Value} {l : List Ce} (h : NrmSt n t B k w v l) (hb : Below w.heap.size w w') : NrmSt n t B k w' v l :=
 ⟨h.own.later hb, h.ins.kept (Kp.below hb) fun _ h => .inl h, h.at', h.xs⟩
theorem zpt (n : Nat) (hn : n <= 128) (a : Option Addr) (cap : Nat) (t : List Cl) (w : World) (hl : t.length <= 1073741823) (hx : LsCells w a t) (ht : ∀ c ∈ t, c.length <= 12 /\ ∀ x ∈ c, x ≠ 0 /\ -(n : Int) <= x /\ x <= n) :
 Calls Tryz.prog 42 #[.agg #[.int .i64 n, .slice a t.length cap]] w (zvp n t w) := by
 have hb0 : Below w.heap.size w (w.alloc (.cells #[.int .i64 n, .slice a t.length cap] 41)) := (Below.refl _ _).alloc (Nat.le_refl _) _
 obtain ⟨w0, hw0⟩ : ∃ w0, w0 = w.alloc (.cells #[.int .i64 n, .slice a t.length cap] 41) := ⟨_, rfl⟩
 have b0 : w0.cell? ⟨w.heap.size, 0, none⟩ = some (.int .i64 n) := by rw [hw0, World.cell?_alloc_at _ _ _ _ rfl]; rfl
 have b1 : w0.cell? ⟨w.heap.size, 1, none⟩ = some (.slice a t.length cap) := by rw [hw0, World.cell?_alloc_at _ _ _ _ rfl]; rfl
 have hs0 : w0.heap.size = w.heap.size + 1 := by rw [hw0]; simp
 rw [<- hw0] at hb0;have HX := lh (hx.keep hb0);have HB0 := lh hb0;have HT := lh ht;have HS0 := lh hs0
 have HIN : Hid (NrmSt n t w0.heap.size 0 w0 (.slice none 0 0) []) := ⟨OwnL.nil _ _, CsIn.nil _ _ _, fun e h => by simp at h, rfl⟩
 clear hx ht hb0 hs0;go_enter Tryz.func42, Tryz.ntmps42;go_wp2_with fail;rw [<- hw0];clear hw0;go_wp2_with fail
 go_loopw [3, 12] (fun v i wr => ∃ k : Nat, k <= t.length /\ i = .int .i64 k /\ Below w0.heap.size w0 wr /\ ∃ l va vc, v = .slice va l.length vc /\ NrmSt n t w0.heap.size k wr (.slice va l.length vc) l) (fun _ i _ => t.length - (intOf i).toNat)
 case atStart => exact ⟨0, Nat.zero_le _, rfl, Below.refl _ _, [], none, 0, rfl, HIN.o⟩
 obtain ⟨k, hk, rfl, hb, l, va, vc, rfl, hst⟩ := hrel;have HB := lh hb;have HST := lh hst;have hle := hst.len;clear hb hst
 by_cases hlt : k < t.length
 ·obtain ⟨b, off, ai, ci, rfl, hc1, hi⟩ := HX.o.keep HB.o k hlt;have b2 := zaa HB.o b0
  have hmem : t.getD k [] ∈ t := by rw [List.getD_eq_getElem?_getD, List.getElem?_eq_getElem hlt]; exact List.getElem_mem hlt
  obtain ⟨hlen, hval⟩ := HT.o _ hmem
  obtain ⟨c, hc⟩ : ∃ c, c = t.getD k [] := ⟨_, rfl⟩
  rw [<- hc] at hc1 hi hlen hval;have HCE := lh hc;have HCL := lh (zk7 n hn ai ci c wr hlen hi hval);have HVL := lh hval
  have hki : (k : Int) < (t.length : Int) := by omega
  clear hmem hlen hval hi hc;go_wp2_with fail;refine HCL.o.mono ?_;rintro e w2 ⟨v2, rfl, hown2, hdl, hb2⟩;have HST2 := lh (HST.o.later hb2);have HB2 := lh (HB.o.trans (hb2.mono HB.o.size));have HLT := lh (show ∀ g, (Value.slice va l.length vc).ownBlock = some g -> g < wr.heap.size from fun g hg => (World.ownsRow.lt HST.o.own g hg).2)
  cases htc : taut c with
  | true =>
    have HS := lh (HST2.o.skip hlt (by rw [<- HCE.o]; exact htc));clear hown2 hb2 htc;go_wp2;go_roundw
    case rel => exact ⟨k + 1, by omega, by go_num, HB2.o, l, va, vc, rfl, HS.o⟩
    case measure => simp [intOf]; omega
  | false =>
    obtain ⟨av, cv, rfl, hcells, hav⟩ := (zaq.2 hown2).cells;have hlt2 := (zaq.2 hown2).lt;have HTC := lh htc;have HCE2 := lh hcells;have HAV := lh hav;have HL2 := lh hlt2;have HDL := lh hdl;have HSZ := lh hb2.size;have HSZ2 : Hid (w0.heap.size <= w2.heap.size) := HB2.o.size;have HLL := lh (show l.length <= 1073741824 by omega);clear hcells hav hlt2 hown2 hb2 htc hdl hle
    have HD : Hid (zaw n c = zaw n (t.getD k [])) := by show _ = _; rw [HCE.o]
    have hdb : litB (zaw n c) := fun x hx => by obtain ⟨_, _, h1, h2⟩ := zbi.1 hx; exact ⟨by omega, by omega⟩
    have HDB := lh hdb;clear hdb;generalize zaw n c = d at *;go_wp2_with (at_builtin; go_loud (refine zjf (C := #[.slice av d.length cv, .int .i64 k]) zk1 rfl _ _ rfl w0.heap.size (.slice va l.length vc) l ⟨av, cv, d, k⟩ rfl HST2.o.own rfl rfl rfl (by intro u hu; simp [ce] at hu; rcases hu with rfl | rfl <;> rfl) HLL.o (by decide) HSZ2.o ?_));intro g cap5 w5 ho5 hg5 hgn
    have HN : Hid (NrmSt n t w0.heap.size (k + 1) w5 (.slice (some ⟨g, 0, none⟩) (l.length + 1) cap5) (l ++ [⟨av, cv, d, k⟩])) := by
     have hob : ∀ g0, (Value.slice va l.length vc).ownBlock = some g0 -> g0 < wr.heap.size := HLT.o
     have hkp : Kp (fun y => (Value.slice va l.length vc).ownBlock = some y) w2 w5 := Kp.grown hg5 fun k h => h
     have hgn' : ∀ k, (Value.slice (some ⟨g, 0, none⟩) (l.length + 1) cap5).ownBlock = some k -> (Value.slice va l.length vc).ownBlock = some k \/ w2.heap.size <= k := fun k h => by
      cases h; exact hgn
     refine ⟨ho5, fun e he => ?_, fun e he => ?_, ?_⟩
     ·rcases List.mem_append.1 he with he | he
      ·exact (HST2.o.ins.kept hkp hgn') e he
      simp only [List.mem_singleton] at he;subst he;refine ⟨Nat.le_trans HDL.o (by decide), HDB.o, HCE2.o.kept hkp fun p hp e' => ?_, fun p hp => ?_⟩
      ·have h1 := hob _ e'; have h2 := (HAV.o p hp).1; omega
      subst hp;have h1 := (HAV.o p rfl).1;have h2 := (HL2.o p.block rfl).2;have h3 := HB.o.size;refine ⟨by omega, Nat.lt_of_lt_of_le h2 hkp.size, fun e' => ?_⟩
      rcases hgn' _ e' with h4 | h4
      ·have := hob _ h4; omega
      omega
     ·rcases List.mem_append.1 he with he | he
      ·obtain ⟨j, h1, h2⟩ := HST2.o.at' e he; exact ⟨j, by omega, h2⟩
      simp only [List.mem_singleton] at he;subst he;exact ⟨k, by omega, rfl, by rw [<- HCE.o]; exact HTC.o, HD.o⟩
     have ht1 : t[k] = t.getD k [] := by simp [List.getD_eq_getElem?_getD, hlt]
     have ht2 : taut t[k] = false := by rw [ht1, <- HCE.o]; exact HTC.o
     rw [List.map_append, HST2.o.xs, List.take_succ_eq_append_getElem hlt, List.filter_append, List.map_append];rw [show [t[k]].filter (fun c => !taut c) = [t[k]] by simp [ht2], ht1, show List.map (zaw n) [t.getD k []] = [zaw n (t.getD k [])] from rfl, <- HD.o]
     rfl
    have HB5 : Hid (Below w0.heap.size w0 w5) := HB2.o.trans (Kp.toBelow (Kp.grown (M := fun y => (Value.slice va l.length vc).ownBlock = some y) hg5 fun k h => h) HSZ2.o fun k hk h => by
     have := (World.ownsRow.lt HST.o.own k h).1; omega)
    clear ho5 hg5 hgn;go_wp2;go_roundw
    case rel => exact ⟨k + 1, by omega, by go_num, HB5.o, l ++ [⟨av, cv, d, k⟩], some ⟨g, 0, none⟩, cap5, by rw [List.length_append]; rfl, by rw [List.length_append]; exact HN.o⟩
    case measure => simp [intOf]; omega
 have hke : k = t.length := by omega
 subst hke
 have HXS : Hid ((l.map fun e => e.xs) = (t.filter fun c => !taut c).map (zaw n)) := by
  show _ = _
  rw [HST.o.xs, List.take_length]
 have HSB := lh (HB0.o.trans (HB.o.mono HB0.o.size));have HZ : Hid (w.heap.size <= w0.heap.size) := HB0.o.size
 rcases HST.o.own.shape with ⟨hv, h0⟩ | ⟨g, cp, hv, hg1, hg2⟩
 ·simp only [Value.slice.injEq] at hv;obtain ⟨rfl, _, rfl⟩ := hv;subst h0
  have HNF : Hid (zab n t = []) := by
   show _ = _
   unfold zab;rw [<- HXS.o]; rfl
  go_wp2_with fail;refine (zmv _).mono ?_;rintro e w2 ⟨rfl, rfl⟩;go_wp2;go_ret;exact ⟨_, [], rfl, OwnL.nil _ _, CsIn.nil _ _ _, fun e h => by simp at h, HNF.o.symm, HSB.o⟩
 simp only [Value.slice.injEq] at hv;obtain ⟨rfl, _, rfl⟩ := hv;have HOR := lh (zi0 g vc w0.heap.size l wr HST.o.own HST.o.ins.ok (by omega));have HG1 := lh hg1;clear hg1 hg2;go_wp2_with fail;refine HOR.o.mono ?_;rintro e w2 ⟨l', rfl, hown, hxs, hsub, hkp⟩;have HO2 := lh (hown.lower HZ.o)
 have HC2 : Hid (CsIn w2 w.heap.size (.slice (some ⟨g, 0, none⟩) l'.length vc) l') := by
  have h1 := (HST.o.ins.sub hsub).kept (hkp.mono fun k _ h => by rw [h]; rfl) (v' := .slice (some ⟨g, 0, none⟩) l'.length vc) (fun k h => .inl h)
  exact fun e he => let ⟨a1, a2, a3, a4⟩ := h1 e he; ⟨a1, a2, a3, fun p hp => ⟨Nat.le_trans HZ.o (a4 p hp).1, (a4 p hp).2⟩⟩
 have HAT : Hid (AtN n t t.length l') := fun e he => HST.o.at' e (hsub e he)
 have HNF : Hid ((l'.map fun e => e.xs) = zab n t) := by
  show _ = _
  rw [hxs, HXS.o]; rfl
 have HBB := lh (HSB.o.trans (hkp.fresh (Nat.le_trans HZ.o HG1.o) HSB.o.size));clear hown hxs hsub hkp;go_wp2;go_ret;exact ⟨_, l', rfl, HO2.o, HC2.o, HAT.o, HNF.o, HBB.o⟩
end Go.Proofs.YtflhbcnhaeijbaaGreatDoor
