/- Part of the proofs that laws of censuslaw24 return true for every input, where the tables that the rows list are laid. Texts: Ee, Ef, R20, Eg. -/
import Derived.Test.YtfmmhjphopikgaaGreatDoorYC30
import Derived.Test.YtfmmhjphopikgaaGreatDoorYC5
import Derived.StillTailTactics
import Derived.Test.YtfmmhjphopikgaaGreatDoorYC1
set_option maxHeartbeats 8000000
set_option maxRecDepth 100000
set_option linter.unusedSimpArgs false
set_option linter.unusedVariables false
namespace Go.Proofs.YtfmmhjphopikgaaGreatDoor
open Go.RowKit Cen
theorem zbd {c : Cl} {k : Nat} (h : k < c.length) : c.getD k 0 ∈ c := by
 rw [List.getD_eq_getElem?_getD, List.getElem?_eq_getElem h]; exact List.getElem_mem h
theorem zhu (a : Option Addr) (cap : Nat) (c : Cl) (b : Option Addr) (cap2 : Nat) (d : Cl) (w : World) (hl : c.length <= 1073741824) (hl2 : d.length <= 1073741824) (hx : IntCells w a c) (hy : IntCells w b d) (hc : ∀ x ∈ c, -128 <= x /\ x <= 128) (hd : ∀ x ∈ d, -128 <= x /\ x <= 128) :
 Calls Tryz.prog 121 #[.slice a c.length cap, .slice b d.length cap2] w fun e w' => e = .returned (.bool (befB c d)) /\ Below w.heap.size w w' := by
 have HX := lh hx;have HY := lh hy;have HC := lh hc;have HD := lh hd;clear hx hy hc hd
 by_cases hne : c.length = d.length
 ·have hni : (c.length : Int) = (d.length : Int) := by omega
  have HL := lh (zsv hne);have HNE := lh hne;go_enter Tryz.func121, Tryz.ntmps121;go_wp2
  go_loopw [5] (fun i wr => ∃ k : Nat, k <= c.length /\ i = .int .i64 k /\ (∀ j, j < k -> c.getD j 0 = d.getD j 0) /\ Below w.heap.size w wr) (fun i _ => c.length - (intOf i).toNat)
  case atStart => exact ⟨0, Nat.zero_le _, rfl, fun j h => absurd h (Nat.not_lt_zero _), Below.refl _ _⟩
  obtain ⟨k, hk, rfl, hno, hb⟩ := hrel;have HN := lh hno;have HB := lh hb;have HX1 := lh (HX.o.keep hb);have HY1 := lh (HY.o.keep hb);clear hno hb
  by_cases hlt : k < c.length
  ·have hlt2 : k < d.length := by omega
   obtain ⟨b1, off1, rfl, hc1⟩ := HX1.o k hlt;obtain ⟨b2, off2, rfl, hc2⟩ := HY1.o k hlt2;have hxb := HC.o _ (zbd hlt);have hyb := HD.o _ (zbd hlt2)
   have HLA : Hid (c.getD k 0 ≠ d.getD k 0 -> befB c d = (decide (labs (c.getD k 0) < labs (d.getD k 0)) || (decide (labs (c.getD k 0) = labs (d.getD k 0)) && decide (c.getD k 0 < 0)))) := fun he => by
    rw [HL.o, zxd HNE.o HN.o hlt he, zs2 hxb hyb he]
   have HEX : Hid (c.getD k 0 = d.getD k 0 -> ∀ j, j < k + 1 -> c.getD j 0 = d.getD j 0) := fun he j hj => by
    by_cases e : j = k
    ·subst e; exact he
    exact HN.o j (by omega)
   have hki : (k : Int) < (c.length : Int) := by omega
   have hki2 : (k : Int) < (d.length : Int) := by omega
   generalize c.getD k 0 = x at *;generalize d.getD k 0 = y at *
   by_cases he : x = y
   ·subst he;have HE := lh (HEX.o rfl);clear HEX HLA;go_wp2_with fail
    go_quiet (fail)
    go_wp2;go_roundw
    case rel => exact ⟨k + 1, by omega, by go_num, HE.o, HB.o.trans (zad _ _)⟩
    case measure => simp [intOf]; omega
   have HR := lh (HLA.o he)
   have hqe : (x == y) = false := by simpa using he
   have HA : Hid (∀ z W, z = x \/ z = y -> Calls Tryz.prog 125 #[.int .i64 z] W fun e w' => e = .returned (.int .i64 (labs z)) /\ W = w') := fun z W h => zn8 z W (by rcases h with rfl | rfl <;> omega) (by rcases h with rfl | rfl <;> omega)
   clear HLA HEX
   rcases Int.lt_trichotomy (labs x) (labs y) with h1 | h1 | h1
   ·have d1 : decide (labs x < labs y) = true := by simpa using h1
    have HRR : Hid (befB c d = true) := by show _ = _; rw [HR.o, d1]; rfl
    clear HR h1;go_wp2_with fail
    go_quiet (fail)
    go_wp2_with fail
    go_quiet (first | exact Calls.quiet_of_same ((HA.o _ _ (by first | exact .inl rfl | exact .inr rfl)).mono fun _ _ hh => ⟨hh.1, hh.2.symm⟩) | exact (HA.o _ _ (by first | exact .inl rfl | exact .inr rfl)).mono fun _ _ hh => ⟨hh.1, _, hh.2.symm⟩)
    go_wp2;go_ret;exact ⟨by rw [HRR.o]; rfl, (HB.o.trans (zad _ _)).trans (zad _ _)⟩
   ·have d1 : decide (labs x < labs y) = false := by simp; omega
    have d2 : (labs x == labs y) = true := by simpa using h1
    have d3 : decide (labs x = labs y) = true := by simpa using h1
    have HRR : Hid (befB c d = decide (x < 0)) := by show _ = _; rw [HR.o, d1, d3]; simp
    clear HR h1
    cases hx0 : decide (x < 0)
    all_goals
     have HX0 := lh hx0
    case false =>
     have hx1 : ¬ x < 0 := by simpa using hx0
     clear hx0;go_wp2_with fail
     go_quiet (fail)
     go_wp2_with fail
     go_quiet (first | exact Calls.quiet_of_same ((HA.o _ _ (by first | exact .inl rfl | exact .inr rfl)).mono fun _ _ hh => ⟨hh.1, hh.2.symm⟩) | exact (HA.o _ _ (by first | exact .inl rfl | exact .inr rfl)).mono fun _ _ hh => ⟨hh.1, _, hh.2.symm⟩)
     go_wp2;go_ret;exact ⟨by rw [HRR.o, HX0.o]; rfl, (HB.o.trans (zad _ _)).trans (zad _ _)⟩
    case true =>
     have hx1 : x < 0 := by simpa using hx0
     clear hx0;go_wp2_with fail
     go_quiet (fail)
     go_wp2_with fail
     go_quiet (first | exact Calls.quiet_of_same ((HA.o _ _ (by first | exact .inl rfl | exact .inr rfl)).mono fun _ _ hh => ⟨hh.1, hh.2.symm⟩) | exact (HA.o _ _ (by first | exact .inl rfl | exact .inr rfl)).mono fun _ _ hh => ⟨hh.1, _, hh.2.symm⟩)
     go_wp2;go_ret;exact ⟨by rw [HRR.o, HX0.o]; rfl, (HB.o.trans (zad _ _)).trans (zad _ _)⟩
   have d1 : decide (labs x < labs y) = false := by simp; omega
   have d2 : (labs x == labs y) = false := by simp; omega
   have d3 : decide (labs x = labs y) = false := by simp; omega
   have HRR : Hid (befB c d = false) := by show _ = _; rw [HR.o, d1, d3]; rfl
   clear HR h1;go_wp2_with fail
   go_quiet (fail)
   go_wp2_with fail
   go_quiet (first | exact Calls.quiet_of_same ((HA.o _ _ (by first | exact .inl rfl | exact .inr rfl)).mono fun _ _ hh => ⟨hh.1, hh.2.symm⟩) | exact (HA.o _ _ (by first | exact .inl rfl | exact .inr rfl)).mono fun _ _ hh => ⟨hh.1, _, hh.2.symm⟩)
   go_wp2;go_ret;exact ⟨by rw [HRR.o]; rfl, (HB.o.trans (zad _ _)).trans (zad _ _)⟩
  have hke : k = c.length := by omega
  subst hke
  have HR : Hid (befB c d = false) := by show _ = _; rw [HL.o, zwe HNE.o HN.o]; rfl
  go_wp2;go_ret;exact ⟨by rw [HR.o]; rfl, HB.o⟩
 have hni : ((c.length : Int) == (d.length : Int)) = false := by simp; omega
 have HL : Hid (befB c d = decide (c.length < d.length)) := by
  show _ = _
  rw [zsu hne, Bool.eq_iff_iff, decide_eq_true_iff, decide_eq_true_iff]; omega
 clear hne;go_enter Tryz.func121, Tryz.ntmps121;go_wp2;go_ret;exact ⟨by rw [HL.o]; rfl, Below.refl _ _⟩
theorem OwnS.fresh {X : Nat -> Prop} {w0 w' : World} {v : Value} {L : List Sl} {a : Option Addr} {xs : Cl} (h : OwnS X w' w0.heap.size v L) (hx : IntIn X w0 a xs) (hb : Below w0.heap.size w0 w') : IntIn (fun k => X k /\ ¬ v.ownBlock = some k) w' a xs :=
 ((hx.mono (Y := fun k => X k /\ k < w0.heap.size) fun k hk hX => ⟨hX, hk⟩).later hb).mono fun k _ hk => ⟨hk.1, fun e => by have := (World.ownsRow.lt h.own k e).1; have := hk.2; omega⟩
def PTR (X : Nat -> Prop) (c : Cl) (l : List Cl) (w wr : World) (o dn i : Value) : Prop :=
 ∃ (k : Nat) (L : List Sl) (oa : Option Addr) (oc : Nat) (bd : Bool), k <= l.length /\ i = .int .i64 (k : Int) /\ dn = .bool bd /\ o = .slice oa L.length oc /\ OwnS X wr w.heap.size (.slice oa L.length oc) L /\
  (l.take k).foldl (zbe c) ([], false) = (L.map (fun e => e.xs), bd) /\ L.length <= k + bd.toNat /\ Below w.heap.size w wr
def zw0 (X : Nat -> Prop) (r : List Cl) (w : World) (e : Ending) (w' : World) : Prop := ∃ a' cap', e = .returned (.slice a' r.length cap') /\ LsIn X w' a' r /\ Below w.heap.size w w'
theorem zfs {α β : Type} (f : β -> α -> β) (z : β) (d : α) {l : List α} {k : Nat} (h : k < l.length) : (l.take (k + 1)).foldl f z = f ((l.take k).foldl f z) (l.getD k d) := by
 rw [List.take_succ_eq_append_getElem h, List.foldl_append]
 simp [List.getD_eq_getElem?_getD, h]
theorem zug (X : Nat -> Prop) (a : Option Addr) (cap : Nat) (l : List Cl) (b : Option Addr) (cap2 : Nat) (c : Cl) (w : World) (hl : l.length <= 1073741822) (hcl : c.length <= 1073741824) (hll : ∀ d ∈ l, d.length <= 1073741824 /\ ∀ x ∈ d, -128 <= x /\ x <= 128) (hc : ∀ x ∈ c, -128 <= x /\ x <= 128)
 (hx : LsIn X w a l) (hy : IntIn X w b c) (hX : ∀ k, w.heap.size <= k -> X k) :
 Calls Tryz.prog 86 #[.slice a l.length cap, .slice b c.length cap2] w (zw0 X (insC c l) w) := by
 have HX := lh hx;have HY := lh hy;have HXX := lh hX;have HC := lh hc;have HLL := lh hll
 have HPE : Hid (∀ s, (l.take l.length).foldl (zbe c) ([], false) = s -> insC c l = zo2 c s) := fun s hs => by
  rw [List.take_length] at hs;rw [<- hs, zr3]; rfl
 clear hx hy hX hc hll;go_enter Tryz.func86, Tryz.ntmps86;go_wp2
 go_loopw [5, 6, 7] (fun o dn i wr => PTR X c l w wr o dn i) (fun _ _ i _ => l.length - (intOf i).toNat)
 case atStart => exact ⟨0, [], none, 0, false, Nat.zero_le _, rfl, rfl, rfl, OwnS.nil _ _ _, rfl, Nat.zero_le _, Below.refl _ _⟩
 obtain ⟨k, L, oa, oc, bd, hk, rfl, rfl, rfl, hO, hs, hlen, hb⟩ := hrel;have HO := lh hO;have HS := lh hs;have HB := lh hb;have HZ : Hid (w.heap.size <= wr.heap.size) := hb.size;have HLE := lh hlen;have HY1 := lh (HO.o.fresh HY.o hb);clear hO hs hlen
 by_cases hlt : k < l.length
 ·obtain ⟨b1, off1, ai, ci, rfl, hc1, hi⟩ := HX.o.get hlt;have hc1' := zaa hb hc1;have HD := lh (HO.o.fresh hi hb)
  have hmem : l.getD k [] ∈ l := by rw [List.getD_eq_getElem?_getD, List.getElem?_eq_getElem hlt]; exact List.getElem_mem hlt
  obtain ⟨hdl, hdb⟩ := HLL.o _ hmem
  have HST : Hid ((l.take (k + 1)).foldl (zbe c) ([], false) = zbe c (L.map (fun e => e.xs), bd) (l.getD k [])) := by show _ = _; rw [zfs _ _ [] hlt, HS.o]
  have hki : (k : Int) < (l.length : Int) := by omega
  generalize l.getD k [] = d at *;have HDL := lh hdl;have HDB := lh hdb
  have HLM : Hid (L.length <= 1073741823) := by have := HLE.o; have := Bool.toNat_le bd; show _ <= _; omega
  have HDI := lh hi;have HLOW := lh (zak hc1);have hc0 := hc1;have HC0 := lh hc0;clear hmem hdl hdb hi hc1 hb hc0
  cases bd with
  | true =>
    have HN : Hid (zbe c (L.map (fun e => e.xs), true) d = (L.map (fun e => e.xs) ++ [d], true)) := rfl;go_wp2_with (at_builtin; go_loud (refine zjf (C := #[.slice ai d.length ci]) zd5 rfl _ _ rfl w.heap.size (.slice oa L.length oc) L ⟨ai, ci, d⟩ rfl HO.o.own rfl rfl rfl (zcp _) (by have := HLM.o; omega) (by decide) HZ.o ?_));intro g5 cap5 w5 ho5 hg5 hgn5;have HO5 := lh (HO.o.push HD.o ho5 hg5 hgn5);have HB5 : Hid (Below w.heap.size w w5) := HB.o.grown hg5 HZ.o (fun q hq => (World.ownsRow.lt HO.o.own q hq).1);clear ho5 hg5 hgn5;go_wp2;go_roundw
    case rel => exact ⟨k + 1, L ++ [⟨ai, ci, d⟩], _, _, true, by omega, by go_num, rfl, by simp, HO5.o, by rw [HST.o, HN.o, List.map_append]; rfl, by have := HLE.o; simp at this ⊢; omega, HB5.o⟩
    case measure => simp [intOf]; omega
  | false =>
    have HC1 := lh (zhu ai ci d b cap2 c wr HDL.o hcl HD.o.1 HY1.o.1 HDB.o HC.o)
    cases h1 : befB d c with
    | true =>
      have HN : Hid (zbe c (L.map (fun e => e.xs), false) d = (L.map (fun e => e.xs) ++ [d], false)) := by show _ = _; unfold zbe; rw [h1]; rfl
      rw [h1] at HC1;clear h1;go_wp2_with fail;refine HC1.o.mono ?_;rintro e w1 ⟨rfl, hb1⟩;have HO1 := lh (HO.o.later hb1);have HD1 := lh (HD.o.later hb1);have HB1 := lh (HB.o.trans (hb1.mono HZ.o));have HZ1 : Hid (w.heap.size <= w1.heap.size) := HB1.o.size;have hc2 := zaa hb1 hc1';clear hb1;go_wp2_with (at_builtin; go_loud (refine zjf (C := #[.slice ai d.length ci]) zd5 rfl _ _ rfl w.heap.size (.slice oa L.length oc) L ⟨ai, ci, d⟩ rfl HO1.o.own rfl rfl rfl (zcp _) (by have := HLM.o; omega) (by decide) HZ1.o ?_));intro g5 cap5 w5 ho5 hg5 hgn5;have HO5 := lh (HO1.o.push HD1.o ho5 hg5 hgn5);have HB5 : Hid (Below w.heap.size w w5) := HB1.o.grown hg5 HZ1.o (fun q hq => (World.ownsRow.lt HO1.o.own q hq).1)
      clear ho5 hg5 hgn5;go_wp2;go_roundw
      case rel => exact ⟨k + 1, L ++ [⟨ai, ci, d⟩], _, _, false, by omega, by go_num, rfl, by simp, HO5.o, by rw [HST.o, HN.o, List.map_append]; rfl, by have := HLE.o; simp at this ⊢; omega, HB5.o⟩
      case measure => simp [intOf]; omega
    | false =>
      rw [h1] at HC1;go_wp2_with fail;refine HC1.o.mono ?_;rintro e w1 ⟨rfl, hb1⟩;have HO1 := lh (HO.o.later hb1);have HD1 := lh (HD.o.later hb1);have HY2 := lh (HY1.o.later hb1);have HB1 := lh (HB.o.trans (hb1.mono HZ.o));have HZ1 : Hid (w.heap.size <= w1.heap.size) := HB1.o.size;have hc2 := zaa hb1 hc1';have HC2 := lh (zhu b cap2 c ai ci d w1 hcl HDL.o HY2.o.1 HD1.o.1 HC.o HDB.o);clear hb1
      cases h2 : befB c d with
      | true =>
        have HN : Hid (zbe c (L.map (fun e => e.xs), false) d = (L.map (fun e => e.xs) ++ [c] ++ [d], true)) := by show _ = _; unfold zbe; rw [h1, h2]; rfl
        rw [h2] at HC2;clear h1 h2;go_wp2_with fail;refine HC2.o.mono ?_;rintro e w2 ⟨rfl, hb2⟩;have HO2 := lh (HO1.o.later hb2);have HD2 := lh (HD1.o.later hb2);have HY3 := lh (HY2.o.later hb2);have HB2 := lh (HB1.o.trans (hb2.mono HZ1.o));have HZ2 : Hid (w.heap.size <= w2.heap.size) := HB2.o.size;have hc3 := zaa hb2 hc2;clear hb2;go_wp2_with (at_builtin; go_loud (refine zjf (C := #[.slice b c.length cap2]) zd5 rfl _ _ rfl w.heap.size (.slice oa L.length oc) L ⟨b, cap2, c⟩ rfl HO2.o.own rfl rfl rfl (zcp _) (by have := HLM.o; omega) (by decide) HZ2.o ?_));intro g5 cap5 w5 ho5 hg5 hgn5;have HO5 := lh (HO2.o.push HY3.o ho5 hg5 hgn5)
        have HB5 : Hid (Below w.heap.size w w5) := HB2.o.grown hg5 HZ2.o (fun q hq => (World.ownsRow.lt HO2.o.own q hq).1);clear ho5 hg5 hgn5;have HZ5 : Hid (w.heap.size <= w5.heap.size) := HB5.o.size;have hc4 : w5.cell? ⟨b1, off1 + k, none⟩ = some (.slice ai d.length ci) := zaa HB5.o HC0.o
        have HOX : Hid (OwnS X w5 w.heap.size (.slice (some ⟨g5, 0, none⟩) (L.length + 1) cap5) (L ++ [⟨b, cap2, c⟩])) := by have := HO5.o; rwa [List.length_append] at this
        have HD5 := lh (HOX.o.fresh HDI.o HB5.o);go_wp2_with (at_builtin; go_loud (refine zjf (C := #[.slice ai d.length ci]) zd5 rfl _ _ rfl w.heap.size (.slice (some ⟨g5, 0, none⟩) (L.length + 1) cap5) (L ++ [⟨b, cap2, c⟩]) ⟨ai, ci, d⟩ rfl HOX.o.own rfl rfl rfl (zcp _) (by have := HLM.o; simp; omega) (by decide) HZ5.o ?_));intro g6 cap6 w6 ho6 hg6 hgn6;have HO6 := lh (HOX.o.push (e := ⟨ai, ci, d⟩) HD5.o (by rw [List.length_append, List.append_assoc]; exact ho6) hg6 hgn6);have HB6 : Hid (Below w.heap.size w w6) := HB5.o.grown hg6 HZ5.o (fun q hq => (World.ownsRow.lt HOX.o.own q hq).1);clear ho6 hg6 hgn6
        go_wp2;go_roundw
        case rel => exact ⟨k + 1, L ++ [⟨b, cap2, c⟩] ++ [⟨ai, ci, d⟩], _, _, true, by omega, by go_num, rfl, by simp, HO6.o, by rw [HST.o, HN.o, List.map_append, List.map_append]; rfl, by have := HLE.o; simp at this ⊢; omega, HB6.o⟩
        case measure => simp [intOf]; omega
      | false =>
        have HN : Hid (zbe c (L.map (fun e => e.xs), false) d = (L.map (fun e => e.xs) ++ [d], true)) := by show _ = _; unfold zbe; rw [h1, h2]; rfl
        rw [h2] at HC2;clear h1 h2;go_wp2_with fail;refine HC2.o.mono ?_;rintro e w2 ⟨rfl, hb2⟩;have HO2 := lh (HO1.o.later hb2);have HD2 := lh (HD1.o.later hb2);have HB2 := lh (HB1.o.trans (hb2.mono HZ1.o));have HZ2 : Hid (w.heap.size <= w2.heap.size) := HB2.o.size;have hc3 := zaa hb2 hc2;clear hb2;go_wp2_with (at_builtin; go_loud (refine zjf (C := #[.slice ai d.length ci]) zd5 rfl _ _ rfl w.heap.size (.slice oa L.length oc) L ⟨ai, ci, d⟩ rfl HO2.o.own rfl rfl rfl (zcp _) (by have := HLM.o; omega) (by decide) HZ2.o ?_));intro g5 cap5 w5 ho5 hg5 hgn5;have HO5 := lh (HO2.o.push HD2.o ho5 hg5 hgn5)
        have HB5 : Hid (Below w.heap.size w w5) := HB2.o.grown hg5 HZ2.o (fun q hq => (World.ownsRow.lt HO2.o.own q hq).1);clear ho5 hg5 hgn5;go_wp2;go_roundw
        case rel => exact ⟨k + 1, L ++ [⟨ai, ci, d⟩], _, _, true, by omega, by go_num, rfl, by simp, HO5.o, by rw [HST.o, HN.o, List.map_append]; rfl, by have := HLE.o; simp at this ⊢; omega, HB5.o⟩
        case measure => simp [intOf]; omega
 have hke : k = l.length := by omega
 subst hke;have HE := lh (HPE.o _ HS.o)
 have HLM : Hid (L.length <= 1073741823) := by have := HLE.o; have := Bool.toNat_le bd; show _ <= _; omega
 cases bd with
 | true =>
   obtain ⟨_, h2⟩ := HO.o.ls HXX.o;have HF : Hid (insC c l = L.map fun e => e.xs) := HE.o;go_wp2;go_ret;exact ⟨oa, oc, by rw [HF.o, List.length_map]; rfl, by rw [HF.o]; exact h2, HB.o⟩
 | false =>
   go_wp2_with (at_builtin; go_loud (refine zjf (C := #[.slice b c.length cap2]) zd5 rfl _ _ rfl w.heap.size (.slice oa L.length oc) L ⟨b, cap2, c⟩ rfl HO.o.own rfl rfl rfl (zcp _) (by have := HLM.o; omega) (by decide) HZ.o ?_));intro g5 cap5 w5 ho5 hg5 hgn5;have HO5 := lh (HO.o.push HY1.o ho5 hg5 hgn5);have HB5 : Hid (Below w.heap.size w w5) := HB.o.grown hg5 HZ.o (fun q hq => (World.ownsRow.lt HO.o.own q hq).1);clear ho5 hg5 hgn5
   have HF : Hid (insC c l = (L ++ [(⟨b, cap2, c⟩ : Sl)]).map fun (e : Sl) => e.xs) := by show _ = _; rw [HE.o, List.map_append]; rfl
   obtain ⟨_, h2⟩ := HO5.o.ls HXX.o;go_wp2;go_ret;exact ⟨some ⟨g5, 0, none⟩, cap5, by rw [HF.o, List.length_map, List.length_append]; rfl, by rw [HF.o]; exact h2, HB5.o⟩
theorem zto {ins : List Int} {b : Int} (h : ∀ j, j < ins.length -> 0 <= ins.getD j 0 /\ ins.getD j 0 < b) : zhb ins b = true := by
 rw [zdo];intro i hi;obtain ⟨j, hj, rfl⟩ := List.getElem_of_mem hi;have := h j hj
 simpa [List.getD_eq_getElem?_getD, hj] using this
theorem zmg {ins : List Int} {b : Int} {j : Nat} (hj : j < ins.length) (h : ins.getD j 0 < 0 \/ b <= ins.getD j 0) : zhb ins b = false := by
 rw [Bool.eq_false_iff]; intro hc;rw [zdo] at hc;have := hc ins[j] (List.getElem_mem hj)
 have e : ins.getD j 0 = ins[j] := by simp [List.getD_eq_getElem?_getD, hj]
 omega
theorem znu (kind lit n before : Int) (a : Option Addr) (cap : Nat) (ins : List Int) (w : World) (hl : ins.length <= 1073741824) (hx : IntCells w a ins) :
 Calls Tryz.prog 37 #[.agg #[.int .i64 kind, .int .i64 lit, .slice a ins.length cap], .int .i64 n, .int .i64 before] w
  fun e w' => e = .returned (.bool (ndOk ⟨kind, lit, ins⟩ n before)) /\ Below w.heap.size w w' := by
 have HB : Hid (Below w.heap.size w (w.alloc (.cells #[.int .i64 kind, .int .i64 lit, .slice a ins.length cap] 48))) := (Below.refl _ _).alloc (Nat.le_refl _) _;have HX := lh (hx.keep HB.o)
 have HE : Hid (((ins.length : Int) == 0) = decide (ins = [])) := by show _ = _; rw [Bool.eq_iff_iff]; simp
 clear hx;go_enter Tryz.func37, Tryz.ntmps37;go_wp2
 go_loop [7] (fun i => ∃ k : Nat, k <= ins.length /\ i = .int .i64 k /\ ∀ j, j < k -> 0 <= ins.getD j 0 /\ ins.getD j 0 < before) (fun i => ins.length - (intOf i).toNat)
 case atStart => exact ⟨0, Nat.zero_le _, rfl, fun j h => absurd h (Nat.not_lt_zero _)⟩
 obtain ⟨k, hk, rfl, hno⟩ := hrel;have HN := lh hno;clear hno
 by_cases hlt : k < ins.length
 ·obtain ⟨b, off, rfl, hc⟩ := HX.o k hlt;generalize hxe : ins.getD k 0 = x at hc;have HXE := lh hxe;clear hxe;have hbz := zak hc
  by_cases c1 : x < 0
  ·have d1 : decide (x < 0) = true := by simpa using c1
   have HR : Hid (ndOk ⟨kind, lit, ins⟩ n before = false) := by show _ = _; unfold ndOk; rw [zmg hlt (.inl (by rw [HXE.o]; exact c1))]; rfl
   clear c1;go_wp2;go_ret;exact ⟨zah HR.o.symm, HB.o⟩
  have d1 : decide (x < 0) = false := by simpa using c1
  by_cases c2 : before <= x
  ·have d2 : decide (before <= x) = true := by simpa using c2
   have HR : Hid (ndOk ⟨kind, lit, ins⟩ n before = false) := by show _ = _; unfold ndOk; rw [zmg hlt (.inr (by rw [HXE.o]; exact c2))]; rfl
   clear c1 c2;go_wp2;go_ret;exact ⟨zah HR.o.symm, HB.o⟩
  have d2 : decide (before <= x) = false := by simpa using c2
  have HC : Hid (0 <= x /\ x < before) := ⟨by omega, by omega⟩
  clear c1 c2;go_wp2;go_round
  case rel => exact ⟨k + 1, by omega, by go_num, fun j hj => by
   by_cases e : j = k
   ·subst e; rw [HXE.o]; exact HC.o
   exact HN.o j (by omega)⟩
  case measure => simp [intOf]; omega
 have : k = ins.length := by omega
 subst this
 have HR : Hid (ndOk ⟨kind, lit, ins⟩ n before = zcr ⟨kind, lit, ins⟩ n) := by show _ = _; unfold ndOk; rw [zto HN.o]; rfl
 by_cases k0 : kind = 0 \/ kind = 1 \/ kind = 3 \/ kind = 4
 ·by_cases l0 : lit = 0
  ·subst l0
   rcases k0 with rfl | rfl | rfl | rfl
   all_goals
    go_wp2;go_ret;exact ⟨zah (by rw [HR.o]; simp [zcr]; try exact HE.o), HB.o⟩
  have hl0 : (lit == 0) = false := by simpa using l0
  have HL0 := lh l0
  rcases k0 with rfl | rfl | rfl | rfl
  all_goals
   clear l0;go_wp2;go_ret;exact ⟨zah (by rw [HR.o]; simp [zcr, HL0.o]), HB.o⟩
 have e0 : (kind == 0) = false := by simp; omega
 have e1 : (kind == 1) = false := by simp; omega
 by_cases k2 : kind = 2
 ·subst k2
  cases hv : zas lit n
  all_goals
   have H3 := lh (fun W => (zlc lit n W).mono (R' := fun E w' => E = .returned (.bool _) /\ W = w') (fun E w' ⟨h1, h2⟩ => ⟨by rw [h1, hv], h2⟩));have HV := lh hv;clear hv k0;go_wp2_with (go_at_call 81; refine (H3.o _).mono ?_; rintro e w' ⟨rfl, rfl⟩);go_ret;exact ⟨zah (by rw [HR.o]; simp [zcr, HV.o]; try exact HE.o), HB.o⟩
 have e2 : (kind == 2) = false := by simpa using k2
 have e3 : (kind == 3) = false := by simp; omega
 have e4 : (kind == 4) = false := by simp; omega
 have HF : Hid (zcr ⟨kind, lit, ins⟩ n = false) := by
  show _ = _; unfold zcr; simp only; rw [if_neg (by omega), if_neg (by omega), if_neg (by omega)]
 clear k0 k2;go_wp2;go_ret;exact ⟨zah (by rw [HR.o, HF.o]), HB.o⟩
theorem zeg (t : Nt) : zdi t = true ↔ (0 <= t.n /\ t.n <= 128 /\ 1 <= t.l.length /\ t.l.length <= 65536) /\ ∀ j, j < t.l.length -> ndOk (t.l.getD j default) t.n j = true := by
 simp only [zdi, zop, Bool.and_eq_true, decide_eq_true_eq];exact ⟨fun h => ⟨by omega, h.2⟩, fun h => ⟨by omega, h.2⟩⟩
theorem zgp (n : Int) (a : Option Addr) (cap : Nat) (l : List Nd) (w : World) (hl : l.length <= 1073741824) (hx : NdCells w a l) :
 Calls Tryz.prog 12 #[.agg #[.int .i64 n, .slice a l.length cap]] w fun e w' => e = .returned (.bool (zdi ⟨n, l⟩)) /\ Below w.heap.size w w' := by
 have HB := lh ((Below.refl w.heap.size w).alloc (Nat.le_refl _) (.cells #[.int .i64 n, .slice a l.length cap] 33));have HBK := lh (Blk.new w #[.int .i64 n, .slice a l.length cap] 33);have HX := lh (hx.keep HB.o);clear hx
 by_cases c1 : n < 0
 ·have HR : Hid (zdi ⟨n, l⟩ = false) := by show _ = _; rw [Bool.eq_false_iff]; intro h; have := zcv h; simp only at this; omega
  have d1 : decide (n < 0) = true := by simpa using c1
  clear c1;go_enter Tryz.func12, Tryz.ntmps12;go_wp2;go_ret;exact ⟨zah HR.o.symm, HB.o⟩
 have d1 : decide (n < 0) = false := by simpa using c1
 by_cases c2 : 128 < n
 ·have HR : Hid (zdi ⟨n, l⟩ = false) := by show _ = _; rw [Bool.eq_false_iff]; intro h; have := zcv h; simp only at this; omega
  have d2 : decide (128 < n) = true := by simpa using c2
  clear c1 c2;go_enter Tryz.func12, Tryz.ntmps12;go_wp2;go_ret;exact ⟨zah HR.o.symm, HB.o⟩
 have d2 : decide (128 < n) = false := by simpa using c2
 by_cases c3 : l.length < 1
 ·have HR : Hid (zdi ⟨n, l⟩ = false) := by show _ = _; rw [Bool.eq_false_iff]; intro h; have := zcv h; simp only at this; omega
  have d3 : decide ((l.length : Int) < 1) = true := by simp; omega
  clear c1 c2 c3;go_enter Tryz.func12, Tryz.ntmps12;go_wp2;go_ret;exact ⟨zah HR.o.symm, HB.o⟩
 have d3 : decide ((l.length : Int) < 1) = false := by simp; omega
 by_cases c4 : 65536 < l.length
 ·have HR : Hid (zdi ⟨n, l⟩ = false) := by show _ = _; rw [Bool.eq_false_iff]; intro h; have := zcv h; simp only at this; omega
  have d4 : decide ((65536 : Int) < (l.length : Int)) = true := by simp; omega
  clear c1 c2 c3 c4;go_enter Tryz.func12, Tryz.ntmps12;go_wp2;go_ret;exact ⟨zah HR.o.symm, HB.o⟩
 have d4 : decide ((65536 : Int) < (l.length : Int)) = false := by simp; omega
 have HH : Hid (0 <= n /\ n <= 128 /\ 1 <= l.length /\ l.length <= 65536) := ⟨by omega, by omega, by omega, by omega⟩
 clear c1 c2 c3 c4;go_enter Tryz.func12, Tryz.ntmps12;go_wp2;clear d1 d2 d3 d4;generalize hW : w.alloc (.cells #[.int .i64 n, .slice a l.length cap] 33) = W at *;have HZ := lh HB.o.size;clear hW
 go_loopw [3] (fun i wr => ∃ k : Nat, k <= l.length /\ i = .int .i64 k /\ (∀ j, j < k -> ndOk (l.getD j default) n j = true) /\ Below W.heap.size W wr) (fun i _ => l.length - (intOf i).toNat)
 case atStart => exact ⟨0, Nat.zero_le _, rfl, fun j h => absurd h (Nat.not_lt_zero _), Below.refl _ _⟩
 obtain ⟨k, hk, rfl, hno, hb⟩ := hrel;have HN := lh hno;have HBR := lh hb;have HBW := lh (HB.o.trans (hb.mono HZ.o));have HKR := lh (HBK.o.later hb);clear hno hb;have k0 : wr.cell? ⟨w.heap.size, 0, none⟩ = some (.int .i64 n) := HKR.o.cell 0;have k1 : wr.cell? ⟨w.heap.size, 1, none⟩ = some (.slice a l.length cap) := HKR.o.cell 1
 by_cases hlt : k < l.length
 ·obtain ⟨b, off, rfl, c0, c1, av, cv, c2, hin, hil⟩ := (HX.o.keep HBR.o) k hlt;have HF := lh (znu (l.getD k default).kind (l.getD k default).lit n k av cv (l.getD k default).ins wr.drew hil hin);have HND : Hid ((⟨(l.getD k default).kind, (l.getD k default).lit, (l.getD k default).ins⟩ : Nd) = l.getD k default) := rfl;generalize hxd : l.getD k default = x at *;have HXD := lh hxd;clear hxd;rw [HND.o] at HF
  have hki : (k : Int) < (l.length : Int) := by omega
  clear hin
  cases hok : ndOk x n k
  all_goals
   rw [hok] at HF;have HOK := lh hok;clear hok
  all_goals
   go_wp2_with fail;refine wp_region_still_tail 8 (by kernel_rfl) (by kernel_rfl) ?_;simp only [List.take_succ_cons, List.take_zero, List.drop_succ_cons, List.drop_zero]
   change wpStill _ _ (World.drew _) _ _ _
   repeat still_step
   refine wpStill_nil ?_;go_wp2_with fail;refine HF.o.mono ?_;rintro e w1 ⟨rfl, hb1⟩;have HB1 : Hid (Below W.heap.size W w1) := HBR.o.trans ((Below.drew (Below.refl _ _)).trans (Below.mono hb1 (by have := HBR.o.size; simpa using this)));clear hb1;go_wp2
  ·have HR : Hid (zdi ⟨n, l⟩ = false) := by
    show _ = _; rw [Bool.eq_false_iff]; intro h
    have := ((zeg _).1 h).2 k hlt;simp only at this;rw [HXD.o, HOK.o] at this; simp at this
   go_ret;exact ⟨zah HR.o.symm, HB.o.trans (HB1.o.mono HZ.o)⟩
  go_roundw
  case rel => exact ⟨k + 1, by omega, by go_num, fun j hj => by
   by_cases e : j = k
   ·subst e; rw [HXD.o]; exact HOK.o
   exact HN.o j (by omega), HB1.o⟩
  case measure => simp [intOf]; omega
 have : k = l.length := by omega
 subst this
 have HR : Hid (zdi ⟨n, l⟩ = true) := by show _ = _; rw [zeg]; exact ⟨HH.o, HN.o⟩
 go_wp2;go_ret;exact ⟨zah HR.o.symm, HBW.o⟩
theorem zjw {n : Nat} (hn : n <= 128) : ∀ {t : List Cl}, zd8 n t = 0 ↔ ∀ c ∈ t, c.length <= 128 /\ ∀ x ∈ c, litN n x
 | [] => by simp [zd8]
 | c :: t => by
   rw [zd8]
   have hall : (c.all fun x => zas x n) = true ↔ ∀ x ∈ c, litN n x := by
    rw [List.all_eq_true];exact ⟨fun h x hx => (zc2 hn).1 (h x hx), fun h x hx => (zc2 hn).2 (h x hx)⟩
   by_cases h1 : 128 < c.length
   ·rw [if_pos h1]
    constructor
    ·intro h; simp at h
    intro h; have := (h c (by simp)).1; omega
   rw [if_neg h1]
   by_cases h2 : (c.all fun x => zas x n) = true
   ·rw [if_pos h2, zjw hn]
    constructor
    ·intro h d hd
     rcases List.mem_cons.1 hd with rfl | hd
     ·exact ⟨by omega, hall.1 h2⟩
     exact h d hd
    intro h d hd; exact h d (List.mem_cons_of_mem _ hd)
   rw [if_neg h2]
   constructor
   ·intro h; simp at h
   intro h; exact absurd (hall.2 (h c (by simp)).2) h2
theorem zbu {n : Nat} (hn : n <= 128) {t : List Cl} : chkT n t = 0 ↔ tOk n t := by
 unfold chkT;rw [if_neg (by omega)]
 by_cases h : 4096 < t.length
 ·rw [if_pos h]
  constructor
  ·intro h; simp at h
  intro ht; have := ht.len; omega
 rw [if_neg h, zjw hn];exact ⟨fun k => ⟨by omega, k⟩, fun k => k.cl⟩
theorem znp (n : Int) (a : Option Addr) (cap : Nat) (t : List Cl) (w : World) (hl : t.length <= 1073741824) (hs : ∀ c ∈ t, c.length <= 1073741824) (hx : LsCells w a t) (hbad : chkT n t ≠ 0) :
 Calls Tryz.prog 41 #[.agg #[.int .i64 n, .slice a t.length cap]] w fun e w' => e = .returned (.tuple #[.agg #[.int .i64 0, .slice none 0 0], .int .i64 (chkT n t)]) /\ Below w.heap.size w w' := by
 obtain ⟨w0, hw0⟩ : ∃ w0, w0 = (w.alloc (.cells #[.int .i64 n, .slice a t.length cap] 24)).alloc (.cells #[.int .i64 0, .slice none 0 0] 24) := ⟨_, rfl⟩
 have hb0 : Below w.heap.size w w0 := by rw [hw0]; exact ((Below.refl _ _).alloc (Nat.le_refl _) _).alloc (by simp) _
 have q1 : Blk w0 (w.heap.size + 1) #[.int .i64 0, .slice none 0 0] 24 := by rw [hw0]; exact Blk.new' _ (by simp) _ _
 have HC := lh (zby n a cap t w0 hl hs (hx.keep hb0));have HB0 := lh hb0;have Q1 := lh q1;clear hx hs hb0 q1
 obtain ⟨c, hc⟩ : ∃ c, c = chkT n t := ⟨_, rfl⟩
 rw [<- hc] at hbad HC ⊢;clear hc;go_enter Tryz.func41, Tryz.ntmps41;go_wp2_with fail;rw [<- hw0];refine HC.o.mono ?_;rintro e w1 ⟨rfl, hb1⟩;have R1 := lh (Q1.o.later hb1);have HB1 := lh (HB0.o.trans (hb1.mono HB0.o.size));have a0 := R1.o.cell 0;have a1 := R1.o.cell 1;have f0 := R1.o.fr 0;have f1 := R1.o.fr 1;have s1 := R1.o.lt;clear hb1 hw0
 have hcb : (c != 0) = true := by simpa using hbad
 go_wp2;exact bodyPost_ret (v := .tuple #[.agg #[.int .i64 0, .slice none 0 0], .int .i64 c]) (by simp [results, Tryz.results41, go_sem, a0, a1, s1]) rfl ⟨rfl, (HB1.o.setCell (Nat.le_succ _) _).setCell (Nat.le_succ _) _⟩
def NMR (n : Nat) (t : List Cl) (a : Option Addr) (cap : Nat) (w : World) (ob : Nat) (wr : World) (i : Value) : Prop :=
 ∃ (k : Nat) (oa : Option Addr) (oc : Nat), k <= t.length /\ i = .int .i64 (k : Int) /\ Below w.heap.size w wr /\ Blk wr w.heap.size #[.int .i64 n, .slice a t.length cap] 24 /\ Blk wr (w.heap.size + 1) #[.int .i64 0, .slice none 0 0] 24 /\
  Blk wr ob #[.int .i64 n, .slice oa (zda n t k).length oc] 24 /\ LsIn (fun k => ob < k) wr oa (zda n t k)
def zu0 (n : Nat) (t : List Cl) (w : World) (e : Ending) (w' : World) : Prop :=
 ∃ a' c', e = .returned (.tuple #[.agg #[.int .i64 n, .slice a' (zab n t).length c'], .int .i64 0]) /\ LsIn (fun k => w.heap.size <= k) w' a' (zab n t) /\ Below w.heap.size w w'
theorem zer (n : Nat) (hn : n <= 128) (a : Option Addr) (cap : Nat) (t : List Cl) (w : World) (ht : tOk n t) (hx : LsCells w a t) :
 Calls Tryz.prog 41 #[.agg #[.int .i64 n, .slice a t.length cap]] w (zu0 n t w) := by
 obtain ⟨w0, hw0⟩ : ∃ w0, w0 = (w.alloc (.cells #[.int .i64 n, .slice a t.length cap] 24)).alloc (.cells #[.int .i64 0, .slice none 0 0] 24) := ⟨_, rfl⟩
 have hb0 : Below w.heap.size w w0 := by rw [hw0]; exact ((Below.refl _ _).alloc (Nat.le_refl _) _).alloc (by simp) _
 have q0 : Blk w0 w.heap.size #[.int .i64 n, .slice a t.length cap] 24 := by rw [hw0]; exact (Blk.new w _ _).alloc _
 have q1 : Blk w0 (w.heap.size + 1) #[.int .i64 0, .slice none 0 0] 24 := by rw [hw0]; exact Blk.new' _ (by simp) _ _
 have hcz := (zbu hn).2 ht;have htl := ht.len;have HC := lh (zby n a cap t w0 (by omega) (fun c hc => by have := (ht.cl c hc).1; omega) (hx.keep hb0));rw [hcz] at HC;have HB0 := lh hb0;have Q0 := lh q0;have Q1 := lh q1;have HX := lh hx;have HT := lh ht;have HN := lh hn;clear hx hb0 q0 q1 hcz ht hn;go_enter Tryz.func41, Tryz.ntmps41;go_wp2_with fail;rw [<- hw0];refine HC.o.mono ?_;rintro e w1 ⟨rfl, hb1⟩;have R0 := lh (Q0.o.later hb1);have R1 := lh (Q1.o.later hb1);have HB1 := lh (HB0.o.trans (hb1.mono HB0.o.size));have c0 := R0.o.cell 0;have c1 := R0.o.cell 1;have s1 : w.heap.size + 1 < w1.heap.size := R1.o.lt
 have s0 : w.heap.size < w1.heap.size := by omega
 clear hb1 hw0
 obtain ⟨ob, hob⟩ : ∃ ob, ob = w1.heap.size := ⟨_, rfl⟩
 have HIN : Hid (NMR n t a cap w w1.heap.size (w1.alloc (.cells #[.int .i64 n, .slice none 0 0] 24)) (.int .i64 0)) :=
  ⟨0, none, 0, Nat.zero_le _, rfl, HB1.o.alloc (Nat.le_of_lt s0) _, R0.o.alloc _, R1.o.alloc _, Blk.new _ _ _, LsIn.nil _ _ _⟩
 rw [<- hob] at HIN;have HOB := lh hob;go_wp2_with fail;rw [<- hob];clear hob
 go_loopw [6] (fun i wr => NMR n t a cap w ob wr i) (fun i _ => t.length - (intOf i).toNat)
 case atStart => exact HIN.o
 obtain ⟨k, oa, oc, hk, rfl, hb, p0, p1, p2, hls⟩ := hrel;have HB := lh hb;have P0 := lh p0;have P1 := lh p1;have P2 := lh p2;have HLS := lh hls;have HXR := lh (HX.o.keep hb);have k0 := p0.cell 0;have k1 := p0.cell 1;have z0 := p0.lt;have z1 := p1.lt;have z2 := p2.lt;have HZ : Hid (w.heap.size <= wr.heap.size) := hb.size
 have HOBW : Hid (w.heap.size + 1 < ob) := by rw [HOB.o]; exact s1
 clear hb hls
 by_cases hlt : k < t.length
 ·obtain ⟨b1, off1, ai, ci, rfl, hc1, hi⟩ := HXR.o k hlt
  have hmem : t.getD k [] ∈ t := by rw [List.getD_eq_getElem?_getD, List.getElem?_eq_getElem hlt]; exact List.getElem_mem hlt
  obtain ⟨hcl, hcr⟩ := HT.o.cl _ hmem;have HKN : Hid (zda n t (k + 1) = if taut (t.getD k []) = true then zda n t k else insC (zaw n (t.getD k [])) (zda n t k)) := rfl
  have hki : (k : Int) < (t.length : Int) := by omega
  have HI := lh hi
  have HKM : Hid (∀ d ∈ zda n t k, d.length <= 1073741824 /\ ∀ x ∈ d, -128 <= x /\ x <= 128) := fun d hd => by
   obtain ⟨c', hc', rfl⟩ := ziw (Nat.le_of_lt hlt) hd;have h1 := zeh c' n;have h2 := HN.o;exact ⟨by omega, fun x hx => by have := (zbi.1 hx).2; omega⟩
  have HKL : Hid ((zda n t k).length <= 4096) := Nat.le_trans (zg1 n t k) (by omega);generalize t.getD k [] = c at *;generalize zda n t k = R at *
  have HSO : Hid (∀ W, Below wr.heap.size wr W -> Calls Tryz.prog 85 #[.slice ai c.length ci, .int .i64 (n : Int)] W fun e w' => ∃ v, e = .returned (.tuple #[v, .bool (taut c)]) /\ OwnInts w' W.heap.size v (zaw n c) /\ Below W.heap.size W w') := fun W hW => by
   have := znw ai ci c n W HN.o (by omega) (HI.o.keep hW)
   rwa [zry hcr] at this
  have HNL := lh (zeh c n)
  have HNB : Hid (∀ x ∈ zaw n c, -128 <= x /\ x <= 128) := fun x hx => by have := (zbi.1 hx).2; have := HN.o; omega
  clear hmem hcl hcr hi;go_wp2_with fail
  go_region_with (go_at_call 85; refine (HSO.o _ (Below.refl _ _).drew).mono ?_; rintro e w2 ⟨v, rfl, hown, hb2⟩)
  all_goals
   have hb2' := zay hb2;obtain ⟨av, cv, rfl, hcells, hav⟩ := hown.cells;have hsz : wr.drew.heap.size = wr.heap.size := rfl
   have HIN2 : Hid (IntIn (fun k => ob < k) w2 av (zaw n c)) := ⟨hcells, fun p hp _ => by have := hav p hp; omega⟩
   have HB2 := lh (HB.o.trans (hb2'.mono HZ.o));have T0 := lh (P0.o.later hb2');have T1 := lh (P1.o.later hb2');have T2 := lh (P2.o.later hb2');have HLS2 := lh (HLS.o.later hb2');have HZ2 : Hid (w.heap.size <= w2.heap.size) := HB2.o.size;have t0 := T2.o.cell 0;have t1 := T2.o.cell 1;clear hown hb2 hb2' hcells hav hsz
   cases htc : taut c with
   | true =>
     have HKE : Hid (zda n t (k + 1) = R) := by show _ = _; rw [HKN.o, htc]; rfl
     clear htc;go_wp2;go_roundw
     case rel => exact ⟨k + 1, oa, oc, by omega, by go_num, HB2.o, T0.o, T1.o, by rw [HKE.o]; exact T2.o, by rw [HKE.o]; exact HLS2.o⟩
     case measure => simp [intOf]; omega
   | false =>
     have HKE : Hid (zda n t (k + 1) = insC (zaw n c) R) := by show _ = _; rw [HKN.o, htc]; rfl
     have HPU := lh (zug (fun k => ob < k) oa oc R av cv (zaw n c) w2 (by have := HKL.o; omega) (by have := HNL.o; have := HN.o; omega) HKM.o HNB.o HLS2.o HIN2.o (fun j hj => by have := T2.o.lt; omega));clear htc;go_wp2_with fail;refine HPU.o.mono ?_;rintro e w3 ⟨a3, c3, rfl, hls3, hb3⟩;have V2 := T2.o.later hb3;have g0 := V2.cell 0;have g1 := V2.cell 1;have h1 := V2.fr 1;have hz3 := V2.lt;have hk3 : Kp (fun y => y = ob) w3 (w3.setCell ⟨ob, 1, none⟩ (.slice a3 (insC (zaw n c) R).length c3)) := Kp.setCell _ _ _ rfl
     have HF : Hid (NMR n t (some ⟨b1, off1, none⟩) cap w ob (w3.setCell ⟨ob, 1, none⟩ (.slice a3 (insC (zaw n c) R).length c3)) (.int .i64 ((k : Int) + 1))) :=
      ⟨k + 1, a3, c3, by omega, by go_num, (HB2.o.trans (hb3.mono HZ2.o)).setCell (by have := HOBW.o; show w.heap.size <= ob; omega) _, (T0.o.later hb3).kept hk3 (by have := HOBW.o; omega), (T1.o.later hb3).kept hk3 (by have := HOBW.o; omega),
        by rw [HKE.o]; exact V2.set 1 _, by rw [HKE.o]; exact hls3.kept hk3 fun k hk => by omega⟩
     clear hls3 hb3 V2 hk3;go_wp2;go_roundw
     case rel => exact HF.o
     case measure => simp [intOf]; omega
 have hke : k = t.length := by omega
 subst hke;have HE := lh (zrr n t);have l0 := p2.cell 0;have l1 := p2.cell 1;have m0 := p1.cell 0;have m1 := p1.cell 1;have fr0 := p1.fr 0;have fr1 := p1.fr 1
 have hbo : w.heap.size + 1 ≠ ob := by have := HOBW.o; omega
 generalize zda n t t.length = R at *
 have HLF : Hid (LsIn (fun k => w.heap.size <= k) ((wr.setCell ⟨w.heap.size + 1, 0, none⟩ (.int .i64 n)).setCell ⟨w.heap.size + 1, 1, none⟩ (.slice oa R.length oc)) oa R) :=
  ((HLS.o.kept (M := fun y => y = w.heap.size + 1) (Kp.trans (M := fun y => y = w.heap.size + 1) (Kp.setCell wr ⟨w.heap.size + 1, 0, none⟩ (.int .i64 n) rfl) (Kp.setCell _ ⟨w.heap.size + 1, 1, none⟩ (.slice oa R.length oc) rfl)) (fun k hk => by have := HOBW.o; omega))).mono fun k _ hk => by have := HOBW.o; omega
 clear p0 p1 p2;go_wp2;exact bodyPost_ret (v := .tuple #[.agg #[.int .i64 n, .slice oa R.length oc], .int .i64 0]) (by simp [results, Tryz.results41, go_sem, z1, m0, m1]) rfl ⟨oa, oc, by rw [<- HE.o], by rw [<- HE.o]; exact HLF.o, (HB.o.setCell (Nat.le_succ _) _).setCell (Nat.le_succ _) _⟩
end Go.Proofs.YtfmmhjphopikgaaGreatDoor
