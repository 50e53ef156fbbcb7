/- Part of the proofs that laws of censuslaw24 return true for every input, where the tables that the rows list are laid. Texts: Fb, R20N, Subs, Fm. -/
import Derived.Test.YtkaojolofaanfaaGreatDoorYA33
import Derived.Test.YtkaojolofaanfaaGreatDoorYA34
import Derived.BigRegion
import Derived.Test.YtkaojolofaanfaaGreatDoorYA6
import Derived.Test.YtkaojolofaanfaaGreatDoorYA2
import Derived.Test.YtkaojolofaanfaaGreatDoorYA44
import Derived.Test.YtkaojolofaanfaaGreatDoorYA1
import Derived.Deep.RegionHeld3
set_option maxHeartbeats 8000000
set_option maxRecDepth 100000
set_option linter.unusedSimpArgs false
set_option linter.unusedVariables false
namespace Go.Proofs.YtkaojolofaanfaaGreatDoor
open Go.RowKit Cen
theorem zpa (s : St) (n : Int) (w : World) (hn0 : 0 <= n) (hn1 : n <= 128) (hs : s.ok) (hsn : ∀ v : Int, n < v -> s.mem v = false) :
 Calls Tryz.prog 82 #[stv s, .int .i64 n] w fun e w' => e = .returned (.bool true) /\ Below w.heap.size w w' := by
 have hb0 : Below w.heap.size w (w.alloc (.cells #[.int .u64 (s.a : Int), .int .u64 (s.b : Int)] 54)) := (Below.refl _ _).alloc (Nat.le_refl _) _;have HB0 := lh hb0;have Q0 := lh (Blk.new w #[.int .u64 (s.a : Int), .int .u64 (s.b : Int)] 54);have HH := lh (fun v V => zk3 s v V hs);have HSN := lh hsn;clear hb0 hsn;go_enter Tryz.func82, Tryz.ntmps82;go_wp2_with fail;generalize w.alloc (.cells #[.int .u64 (s.a : Int), .int .u64 (s.b : Int)] 54) = w0 at *
 go_loopw [5] (fun i wr => ∃ v : Int, n + 1 <= v /\ v <= 129 /\ i = .int .i64 v /\ Below w0.heap.size w0 wr) (fun i _ => 129 - (intOf i).toNat)
 case atStart => exact ⟨n + 1, by omega, by omega, rfl, Below.refl _ _⟩
 case round =>
  obtain ⟨v, hv1, hv2, rfl, hb⟩ := hrel;have HB := lh hb;have HBW := lh (HB0.out.trans (hb.mono HB0.out.size));have q := Q0.out.later hb;have c0 := q.cell 0;have c1 := q.cell 1;have z0 := q.lt;clear hb q
  by_cases hlt : v <= 128
  ·have HV := lh (HH.out v);rw [HSN.out v (by omega)] at HV
   have hv0 : 0 <= v := by omega
   go_wp2_with fail;refine (HV.out _).mono ?_;rintro e w1 ⟨rfl, hb1⟩;have HB1 := lh (HB.out.trans (hb1.mono HB.out.size));clear hb1;go_wp2;go_roundw
   case rel => exact ⟨v + 1, by omega, by omega, rfl, HB1.out⟩
   case measure => simp [intOf]; omega
  ·have hv : v = 129 := by omega
   subst hv;go_wp2;go_ret;exact ⟨rfl, HBW.out⟩
theorem ztc {s : Int -> Bool} {t : List Cl} {k : Nat} (h : k < t.length) : evL s (t.drop k) = (evC s (t.getD k []) && evL s (t.drop (k + 1))) := by
 unfold evL;rw [List.drop_eq_getElem_cons h, List.all_cons]; simp [List.getD_eq_getElem?_getD, h]
theorem ztd (n : Nat) (hn : n <= 128) (a : Option Addr) (cap : Nat) (t : List Cl) (s : St) (w : World) (ht : tOk n t) (hx : LsCells w a t) (hs : s.ok) (hsn : ∀ v : Int, (n : Int) < v -> s.mem v = false) :
 Calls Tryz.prog 32 #[.agg #[.int .i64 n, .slice a t.length cap], stv s] w fun e w' => e = .returned (.bool (evL s.mem t)) /\ Below w.heap.size w w' := by
 obtain ⟨w0, hw0⟩ : ∃ w0, w0 = (w.alloc (.cells #[.int .i64 n, .slice a t.length cap] 39)).alloc (.cells #[.int .u64 (s.a : Int), .int .u64 (s.b : Int)] 54) := ⟨_, rfl⟩
 have hb0 : Below w.heap.size w w0 := by rw [hw0]; exact ((Below.refl _ _).alloc (Nat.le_refl _) _).alloc (by simp) _
 have q0 : Blk w0 w.heap.size #[.int .i64 n, .slice a t.length cap] 39 := by rw [hw0]; exact (Blk.new w _ _).alloc _
 have q1 : Blk w0 (w.heap.size + 1) #[.int .u64 (s.a : Int), .int .u64 (s.b : Int)] 54 := by rw [hw0]; exact Blk.new' _ (by simp) _ _
 have htle := ht.len;have HC := lh (zby n a cap t w0 (by omega) (fun c hc => by have := (ht.cl c hc).1; omega) (hx.keep hb0));rw [(zbu hn).2 ht] at HC;have HAS := lh (fun W => zpa s n W (by omega) (by omega) hs hsn);have HHO := lh (fun l W (hl : zac l ≠ 0) => zpm s l W hs hl);have HB0 := lh hb0;have Q0 := lh q0;have Q1 := lh q1;have HX := lh (hx.keep hb0);have HT := lh ht;have HE0 : Hid (evL s.mem t = evL s.mem (t.drop 0)) := rfl
 have HLV : Hid (∀ y : Int, litN n y -> zac y ≠ 0) := fun y hy => by rw [zal hy.1 (by have := hy.2.1; omega) (by have := hy.2.2; omega)]; have := hy.1; split <;> omega
 clear hx hb0 q0 q1 ht hsn;generalize evL s.mem t = R at *;go_enter Tryz.func32, Tryz.ntmps32;go_wp2_with fail;rw [<- hw0];refine HC.out.mono ?_;rintro e w1 ⟨rfl, hb1⟩;have HB1 := lh hb1;have p0 := Q0.out.later hb1;have p1 := Q1.out.later hb1;have c0 := p0.cell 0;have c1 := p0.cell 1;have d0 := p1.cell 0;have d1 := p1.cell 1;have z0 := p0.lt;have z1 := p1.lt;clear hb1 hw0 p0 p1;go_wp2_with fail;refine (HAS.out _).mono ?_;rintro e w2 ⟨rfl, hb2⟩;have HB2 := lh (HB1.out.trans (hb2.mono HB1.out.size));have HBW2 := lh (HB0.out.trans ((HB1.out.trans (hb2.mono HB1.out.size)).mono HB0.out.size));clear hb2 c0 c1 d0 d1 z0 z1
 go_wp2_with fail
 go_loopw [5] (fun i wr => ∃ k : Nat, k <= t.length /\ i = .int .i64 k /\ Below w0.heap.size w0 wr /\ R = evL s.mem (t.drop k)) (fun i _ => t.length - (intOf i).toNat)
 case atStart => exact ⟨0, Nat.zero_le _, rfl, HB2.out, HE0.out⟩
 case round =>
  obtain ⟨k, hk, rfl, hbr, hch⟩ := hrel;have HCH := lh hch;have HBR := lh hbr;have HBW := lh (HB0.out.trans (hbr.mono HB0.out.size));have HXR := lh (HX.out.keep hbr);have P0 := lh (Q0.out.later hbr);have P1 := lh (Q1.out.later hbr);have k0 := P0.out.cell 0;have k1 := P0.out.cell 1;have y0 := P0.out.lt;clear hch hbr
  by_cases hlt : k < t.length
  ·obtain ⟨b1, off1, ai, ci, rfl, hc1, hi⟩ := HXR.out k hlt
   have hmem : t.getD k [] ∈ t := by rw [List.getD_eq_getElem?_getD, List.getElem?_eq_getElem hlt]; exact List.getElem_mem hlt
   obtain ⟨hcl, hcr⟩ := HT.out.cl _ hmem;have HD := lh (ztc (s := s.mem) hlt);have HI := lh hi;have HCR := lh hcr
   have hki : (k : Int) < (t.length : Int) := by omega
   generalize t.getD k [] = c at *;clear hmem hcr hi;go_wp2_with fail
   go_loopw [6, 7] (fun is i wi => ∃ q : Nat, q <= c.length /\ i = .int .i64 q /\ is = .bool ((c.take q).any (zbw s.mem)) /\ Below wr.heap.size wr wi) (fun _ i _ => c.length - (intOf i).toNat)
   case atStart => exact ⟨0, Nat.zero_le _, rfl, rfl, Below.refl _ _⟩
   case round =>
    obtain ⟨q, hq, rfl, rfl, hbi⟩ := hrel
    rename World => wi
    have HBI := lh hbi;have T0 := lh (P0.out.later hbi);have T1 := lh (P1.out.later hbi);have m1 := T0.out.cell 1;have n0 := T1.out.cell 0;have n1 := T1.out.cell 1;have x0 := T0.out.lt;have x1 := T1.out.lt;have hc2 := zaa hbi hc1;have HI2 := lh (HI.out.keep hbi);clear hbi
    by_cases hqc : q < c.length
    ·obtain ⟨b2, off2, rfl, e0⟩ := HI2.out q hqc
     have hqi : (q : Int) < (c.length : Int) := by omega
     have HAN := lh (zoa (zbw s.mem) 0 hqc);have HLVQ := lh (HLV.out _ (HCR.out _ (zbd hqc)));generalize c.getD q 0 = y at *
     cases hbs : (c.take q).any (zbw s.mem) with
     | true =>
       rw [hbs] at HAN;clear hbs;go_wp2_with fail
       go_quiet (fail)
       go_wp2;go_roundw
       case rel => exact ⟨q + 1, by omega, by go_num, by rw [HAN.out]; rfl, HBI.out.trans (zad _ _)⟩
       case measure => simp [intOf]; omega
     | false =>
       rw [hbs] at HAN;clear hbs;have HHY := lh (fun W => HHO.out y W HLVQ.out);go_wp2_with fail
       go_region_with (go_at_call 83; refine (HHY.out _).mono ?_; rintro e w5 ⟨rfl, hb5⟩; have HB5 : Hid (Below wi.heap.size wi w5) := zay hb5)
       all_goals
        go_wp2;go_roundw
        case rel => exact ⟨q + 1, by omega, by go_num, by rw [HAN.out]; rfl, HBI.out.trans (HB5.out.mono HBI.out.size)⟩
        case measure => simp [intOf]; omega
    ·have hqe : q = c.length := by omega
     subst hqe
     have HFE : Hid (evC s.mem c = (c.take c.length).any (zbw s.mem)) := by show _ = _; rw [List.take_length]; rfl
     cases hbs : (c.take c.length).any (zbw s.mem) with
     | true =>
       rw [hbs] at HFE
       have HN : Hid (R = evL s.mem (t.drop (k + 1))) := by show _ = _; rw [HCH.out, HD.out, HFE.out, Bool.true_and]
       clear hbs;go_wp2;go_roundw
       case rel => exact ⟨k + 1, by omega, by go_num, HBR.out.trans (HBI.out.mono HBR.out.size), HN.out⟩
       case measure => simp [intOf]; omega
     | false =>
       rw [hbs] at HFE
       have HN : Hid (R = false) := by show _ = _; rw [HCH.out, HD.out, HFE.out, Bool.false_and]
       clear hbs;go_wp2;go_ret;exact ⟨by rw [HN.out]; rfl, HBW.out.trans (HBI.out.mono HBW.out.size)⟩
  ·have hke : k = t.length := by omega
   subst hke
   have HN : Hid (R = true) := by show _ = _; rw [HCH.out, List.drop_length]; rfl
   go_wp2;go_ret;exact ⟨by rw [HN.out]; rfl, HBW.out⟩
def nthA (n k : Nat) : Nat -> Nat
 | 0 => 0
 | v + 1 => if k.testBit (n - (v + 1)) then nthA n k v ||| 2 ^ v else nthA n k v
def nthL (n k : Nat) : St := ⟨nthA n k n, 0⟩
theorem zwf (n k : Nat) : ∀ v, v <= 64 -> nthA n k v < U64 := by
 intro v
 induction v with
 | zero => intro _; unfold nthA U64; omega
 | succ v ih =>
   intro hv;rw [nthA]; split
   ·exact zdq (ih (by omega)) (zcc (by omega))
   ·exact ih (by omega)
theorem zoz (n k : Nat) : ∀ v j, (nthA n k v).testBit j = (decide (j < v) && k.testBit (n - (j + 1))) := by
 intro v
 induction v with
 | zero => intro j; simp [nthA]
 | succ v ih =>
   intro j;rw [nthA]
   by_cases e : j = v
   ·subst e
    cases h : k.testBit (n - (j + 1)) with
    | true => rw [if_pos rfl, Nat.testBit_or, Nat.testBit_two_pow]; simp
    | false => rw [if_neg (by simp), ih]; simp [h]
   ·have h1 : decide (j < v + 1) = decide (j < v) := by rw [decide_eq_decide]; omega
    rw [h1]
    split
    ·rw [Nat.testBit_or, ih, Nat.testBit_two_pow]; simp [show ¬ v = j from fun h => e h.symm]
    ·exact ih j
theorem zla {N : Nat} (h : N <= 16) (k : Nat) : (nthL N k).ok := ⟨zwf N k N (by omega), by show 0 < U64; unfold U64; omega⟩
def subU (N : Nat) : Nat -> List St
 | 0 => [St.zero]
 | k + 1 => subU N k ++ (subU N k).map fun s => s.add ((N : Int) - k)
def subL (N : Nat) : List St := (List.range (2 ^ N)).map (nthL N)
theorem zhj (N : Nat) : ∀ k, (subU N k).length = 2 ^ k
 | 0 => rfl
 | k + 1 => by
   show (subU N k ++ (subU N k).map fun s => s.add ((N : Int) - k)).length = _
   rw [List.length_append, List.length_map, zhj N k, Nat.pow_succ]; omega
theorem zlj (N : Nat) : ∀ k, ∀ s ∈ subU N k, s.ok
 | 0, s, h => by
   have : s = St.zero := by simpa [subU] using h
   rw [this]; exact St.zero_ok
 | k + 1, s, h => by
   have h' : s ∈ (subU N k ++ (subU N k).map fun s => s.add ((N : Int) - k)) := h;rw [List.mem_append, List.mem_map] at h'
   rcases h' with h | ⟨t, ht, rfl⟩
   ·exact zlj N k s h
   ·exact St.add_ok (zlj N k t ht) _
theorem zli {N : Nat} (hN : N <= 16) : ∀ (k : Nat), k <= N -> ∀ (j : Nat) (hj : j < (subU N k).length) (v : Int), 1 <= v -> (subU N k)[j].mem v = (decide ((N : Int) - k < v) && (decide (v <= N) && j.testBit (N - v.toNat)))
 | 0, _, j, hj, v, h1 => by
   have h0 : j = 0 := by simp [subU] at hj; omega
   subst h0
   show St.zero.mem v = _
   rw [St.mem_zero]
   by_cases h : v <= N
   ·rw [decide_eq_false (show ¬ (N : Int) - ((0 : Nat) : Int) < v by omega)]; rfl
   ·rw [decide_eq_false h]; simp
 | k + 1, hk, j, hj, v, h1 => by
   have hl := zhj N k;have hj2 : j < (subU N k ++ (subU N k).map fun s => s.add ((N : Int) - k)).length := hj
   show (subU N k ++ (subU N k).map fun s => s.add ((N : Int) - k))[j].mem v = _
   by_cases hlo : j < (subU N k).length
   ·rw [List.getElem_append_left hlo, zli hN k (by omega) j hlo v h1]
    by_cases e : v = (N : Int) - k
    ·subst e;rw [decide_eq_false (show ¬ (N : Int) - k < N - k by omega), show N - ((N : Int) - k).toNat = k by omega, Nat.testBit_lt_two_pow (by omega)]; simp
    ·congr 1
     rw [Bool.eq_iff_iff, decide_eq_true_iff, decide_eq_true_iff]; omega
   ·rw [List.getElem_append_right (by omega), List.getElem_map, St.mem_add, zli hN k (by omega) _ (by rw [List.length_append, List.length_map] at hj2; omega) v h1];rw [List.length_append, List.length_map] at hj2;rw [decide_eq_true (show 1 <= (N : Int) - k by omega), decide_eq_true (show (N : Int) - k <= 128 by omega)]
    have hjl : j - (subU N k).length < 2 ^ k := by omega
    have hje : j = 2 ^ k + (j - (subU N k).length) := by omega
    generalize j - (subU N k).length = i at *;subst hje
    by_cases e : v = (N : Int) - k
    ·subst e;rw [show N - ((N : Int) - k).toNat = k by omega, Nat.testBit_two_pow_add_eq, Nat.testBit_lt_two_pow hjl, decide_eq_true (rfl : (N : Int) - k = (N : Int) - k), decide_eq_true (show (N : Int) - ((k + 1 : Nat) : Int) < N - k by omega), decide_eq_true (show (N : Int) - k <= N by omega)]
     simp
    ·rw [decide_eq_false e];simp only [Bool.false_and, Bool.or_false]
     by_cases hv : v <= N
     ·by_cases h2 : (N : Int) - k < v
      ·rw [decide_eq_true h2, decide_eq_true (show (N : Int) - ((k + 1 : Nat) : Int) < v by omega), Nat.testBit_two_pow_add_gt (by omega)]
      ·rw [decide_eq_false h2, decide_eq_false (show ¬ (N : Int) - ((k + 1 : Nat) : Int) < v by omega)]; rfl
     ·rw [decide_eq_false hv]; simp
theorem zup {N : Nat} (hN : N <= 16) : subU N N = subL N := by
 apply List.ext_getElem
 ·rw [zhj]; simp [subL]
 ·intro j h1 h2
  have e : (subL N)[j] = nthL N j := by simp [subL]
  rw [e]
  apply St.ext (zlj N N _ (List.getElem_mem h1)) (zla hN j)
  intro v hv1 hv2;rw [zli hN N (Nat.le_refl _) j h1 v hv1, decide_eq_true (show (N : Int) - N < v by omega)];unfold St.mem nthL
  by_cases h : v <= 64
  ·rw [if_pos ⟨hv1, h⟩, zoz];simp only [Bool.true_and]
   by_cases hn : v <= N
   ·rw [decide_eq_true hn, decide_eq_true (by omega), show (v - 1).toNat + 1 = v.toNat by omega]
   ·rw [decide_eq_false hn, decide_eq_false (by omega)]; simp
  ·rw [if_neg (fun x => h x.2), if_pos ⟨by omega, hv2⟩, decide_eq_false (show ¬ v <= N by omega)]
   simp
theorem zsb {N : Nat} {v : Int} (h1 : 1 <= v) (h2 : v <= N) : subU N (N - (v - 1).toNat) = subU N (N - v.toNat) ++ (subU N (N - v.toNat)).map fun s => s.add v := by
 have e : N - (v - 1).toNat = (N - v.toNat) + 1 := by omega
 rw [e]
 show subU N (N - v.toNat) ++ (subU N (N - v.toNat)).map (fun s => s.add ((N : Int) - ((N - v.toNat : Nat) : Int))) = _
 rw [show (N : Int) - ((N - v.toNat : Nat) : Int) = v by omega]
theorem zwh (L : List St) : ∀ u ∈ L.flatMap stc, u.oneCell' = true := by
 intro u hu;rw [List.mem_flatMap] at hu;obtain ⟨s, _, hs⟩ := hu;simp only [stc, List.mem_cons, List.not_mem_nil, or_false] at hs
 rcases hs with rfl | rfl <;> rfl
theorem zq1 (L : List St) : (L.flatMap stc).length = L.length * 2 := by
 induction L with
 | nil => rfl
 | cons s L ih => rw [List.flatMap_cons, List.length_append, ih, List.length_cons, zc6]; omega
theorem zxi {w : World} {base g cap n : Nat} {L : List St} (hn : n = L.length) (h : zga w base (.slice (some ⟨g, 0, none⟩) n cap) L) : ∀ j u, (L.flatMap stc)[j]? = some u -> w.cell? ((⟨g, 0, none⟩ : Addr).add j) = some u := by
 subst hn;intro j u hj
 have hlt : j < (L.flatMap stc).length := by
  rcases Nat.lt_or_ge j (L.flatMap stc).length with h' | h'
  ·exact h'
  ·rw [List.getElem?_eq_none h'] at hj; simp at hj
 have e1 : (⟨g, 0, none⟩ : Addr).add j = ⟨g, j, none⟩ := by
  unfold Addr.add; split
  ·rename_i hj0; rw [hj0]
  ·simp
 rw [e1, World.ownsRow.cellAt h j (by rw [<- zq1]; exact hlt), hj]
theorem zn0 (N : Nat) (w : World) (hN : N <= 16) :
 Calls Tryz.prog 30 #[.int .i64 N] w fun e w' => ∃ v, e = .returned v /\ zga w' w.heap.size v (subL N) /\ Below w.heap.size w w' := by
 have HALL := lh (zup hN);have H0 : Hid ((w.alloc (.cells #[.int .u64 0, .int .u64 0] 54)).ownsRow w.heap.size 54 2 (.slice (some ⟨w.heap.size, 0, none⟩) 1 1) 1 [.int .u64 0, .int .u64 0]) := World.ownsRow_lit w #[.int .u64 0, .int .u64 0] 1 (Nat.le_refl _) (by unfold maxLen; omega) rfl;have HB0 : Hid (Below w.heap.size w (w.alloc (.cells #[.int .u64 0, .int .u64 0] 54))) := (Below.refl _ _).alloc (Nat.le_refl _) _;go_enter Tryz.func30, Tryz.ntmps30;go_wp2
 go_loopw [3, 4] (fun l i wr => ∃ v : Int, 0 <= v /\ v <= N /\ i = .int .i64 v /\ zga wr w.heap.size l (subU N (N - v.toNat)) /\ Below w.heap.size w wr) (fun _ i _ => (intOf i).toNat)
 case atStart => exact ⟨N, by omega, by omega, rfl, by rw [show N - (N : Int).toNat = 0 by omega]; exact H0.out, HB0.out⟩
 case round =>
  obtain ⟨v, hv1, hv2, rfl, hown, hb⟩ := hrel;have HO := lh hown;have HB := lh hb;clear hown hb
  by_cases hlt : 1 <= v
  ·have HNX := lh (zsb hlt hv2);have HLN := lh (zhj N (N - v.toNat));have HOK := lh (zlj N (N - v.toNat))
   have HP2 : Hid (2 ^ (N - v.toNat) <= 32768) := by
    show _ <= _
    exact Nat.le_trans (Nat.pow_le_pow_right (n := 2) (by omega) (show N - v.toNat <= 15 by omega)) (by decide)
   generalize subU N (N - v.toNat) = L at *
   have HL1 : Hid (L.length <= 32768) := by show _ <= _; rw [HLN.out]; exact HP2.out
   have HL0 : Hid (1 <= L.length) := by show _ <= _; rw [HLN.out]; exact Nat.pow_pos (by omega)
   rcases HO.out.shape with ⟨_, hz⟩ | ⟨g, capl, rfl, hgb, hgz⟩
   ·rw [hz] at HL0; exact absurd HL0.out (by simp)
   have HG := lh hgb;have HGZ := lh hgz;have HC := lh (zxi rfl HO.out);have HN0 := lh (OwnL.nil (enc := stc) (e := 54) (k := 2) wr wr.heap.size);clear hgb hgz;go_wp2_with (at_builtin; refine app znf rfl _ _ rfl wr.heap.size (.slice none 0 0) 0 [] rfl HN0.out ⟨g, 0, none⟩ L.length capl (L.flatMap stc) rfl (zq1 L) HC.out (zwh L) (by unfold maxLen; have := HL1.out; omega) (by have := HL1.out; omega) (Nat.le_refl _) ?_);intro v' w1 hown1 hgrow1 _;have HO1 : Hid (zga w1 wr.heap.size v' L) := hown1;have HB1 : Hid (Below wr.heap.size wr w1) := (Below.refl _ _).grown hgrow1 (Nat.le_refl _) (by simp [Value.ownBlock])
   clear hown1 hgrow1;go_wp2
   obtain ⟨wo, rfl⟩ : ∃ wo : World, wo = wr := ⟨_, rfl⟩
   go_loopw [5, 6] (fun nx i wi => ∃ m : Nat, m <= L.length /\ i = .int .i64 m /\ zga wi wo.heap.size nx (L ++ (L.take m).map fun s => s.add v) /\ Below wo.heap.size wo wi) (fun _ i _ => L.length - (intOf i).toNat)
   case atStart => exact ⟨0, Nat.zero_le _, rfl, by simpa using HO1.out, HB1.out⟩
   case round =>
    obtain ⟨wi, rfl⟩ : ∃ wi : World, wi = wr := ⟨_, rfl⟩
    obtain ⟨m, hm, rfl, hown, hbi⟩ := hrel;have HOI := lh hown;have HBI := lh hbi;clear hown hbi
    by_cases hlm : m < L.length
    ·have c0' := HO.out.cell rfl zc6 m 0 hlm (by omega);have c1' := HO.out.cell rfl zc6 m 1 hlm (by omega);have hs := HOK.out L[m] (List.getElem_mem hlm)
     have HTK : Hid ((L.take (m + 1)).map (fun s => s.add v) = (L.take m).map (fun s => s.add v) ++ [L[m].add v]) := by
      show _ = _; rw [List.take_succ_eq_append_getElem hlm, List.map_append]; rfl
     have HLM : Hid ((L ++ (L.take m).map fun s => s.add v).length <= 65536) := by show _ <= _; have := HL1.out; simp; omega
     generalize L[m] = s at *
     have c0 : wi.cell? ⟨g, m * 2, none⟩ = some (.int .u64 (s.a : Int)) := by
      rw [HBI.out.cell (by exact HGZ.out)]; rw [Nat.add_zero] at c0'; exact c0'
     have c1 : wi.cell? ⟨g, m * 2 + 1, none⟩ = some (.int .u64 (s.b : Int)) := by
      rw [HBI.out.cell (by exact HGZ.out)]; exact c1'
     have HWI := lh (fun V => zsi s v V hs)
     obtain ⟨d, hd⟩ : ∃ d, d = s.add v := ⟨_, rfl⟩
     rw [<- hd] at HWI HTK
     have hmi : (m : Int) < (L.length : Int) := by omega
     have hm0 : (0 : Int) <= (m : Int) := by omega
     have hmb : (m : Int) <= 65536 := by have := HL1.out; omega
     clear c0' c1' hs hd;go_wp2_with fail;refine (HWI.out _).mono ?_;rintro e w2 ⟨rfl, hb2⟩;have HO2 := lh (HOI.out.later hb2);have HB2 := lh (HBI.out.trans (hb2.mono HBI.out.size));clear hb2
     obtain ⟨M, hM⟩ : ∃ M, M = L ++ (L.take m).map fun s => s.add v := ⟨_, rfl⟩
     rw [<- hM] at HO2 HLM;have HM := lh hM;clear hM;go_wp2_with (at_builtin; refine app1 (C := #[.int .u64 (d.a : Int), .int .u64 (d.b : Int)]) znf rfl _ _ rfl wo.heap.size _ _ _ rfl HO2.out rfl rfl (by simp [Value.oneCell']) (by unfold maxLen; have := HLM.out; omega) (by have := HLM.out; omega) HB2.out.size ?_);intro v3 w3 hown3 hgrow3 _
     have HO3 : Hid (zga w3 wo.heap.size v3 (M ++ [d])) := by
      show OwnL _ _ _ _ _ _ _
      unfold OwnL; rw [List.length_append, List.flatMap_append]; simpa [stc] using hown3
     have HB3 : Hid (Below wo.heap.size wo w3) := HB2.out.grown hgrow3 HB2.out.size (fun q hq => by
      rcases HO2.out.shape with ⟨h, _⟩ | ⟨g', cap'', h, h2, _⟩
      ·rw [h] at hq; simp [Value.ownBlock] at hq
      ·rw [h] at hq; simp [Value.ownBlock] at hq; omega)
     clear hown3 hgrow3;go_wp2;go_roundw
     case rel => exact ⟨m + 1, by omega, by go_num, by rw [HTK.out, <- List.append_assoc, <- HM.out]; exact HO3.out, HB3.out⟩
     case measure => simp [intOf]; omega
    ·have : m = L.length := by omega
     subst this;rw [List.take_length] at HOI;go_wp2;go_roundw
     case rel => exact ⟨v - 1, by omega, by omega, rfl, by rw [HNX.out]; exact HOI.out.lower HB.out.size, HB.out.trans (HBI.out.mono HB.out.size)⟩
     case measure => simp [intOf]; omega
  ·have : v = 0 := by omega
   subst this;rw [show N - (0 : Int).toNat = N by omega, HALL.out] at HO;go_wp2;go_ret;exact ⟨_, rfl, HO.out, HB.out⟩
theorem zpn {p q r s t u v : Prop} (h : p /\ q /\ r /\ s /\ t /\ u /\ v) : v := h.2.2.2.2.2.2
theorem zt1 {N : Nat} (h : N <= 16) (k : Nat) (v : Int) : (nthL N k).mem v = (decide (1 <= v) && (decide (v <= (N : Int)) && k.testBit (N - v.toNat))) := by
 unfold nthL St.mem
 by_cases h1 : 1 <= v /\ v <= 64
 ·rw [if_pos h1, show (v - 1).toNat = v.toNat - 1 by omega];have hb := zoz N k N (v.toNat - 1);simp only;rw [hb, decide_eq_true h1.1, Bool.true_and]
  by_cases h2 : v <= (N : Int)
  ·rw [decide_eq_true h2, decide_eq_true (show v.toNat - 1 < N by omega), show v.toNat - 1 + 1 = v.toNat by omega]
  ·rw [decide_eq_false h2, decide_eq_false (show ¬ v.toNat - 1 < N by omega)]
   simp
 ·rw [if_neg h1]
  split
  ·rw [decide_eq_false (show ¬ v <= (N : Int) by omega)]; simp
  ·by_cases h3 : 1 <= v
   ·rw [decide_eq_false (show ¬ v <= (N : Int) by omega)]; simp
   ·rw [decide_eq_false h3]; simp
theorem zmp (z : Int) (a : Option Addr) (cap : Nat) (t : List Cl) (oa : Option Addr) (oc : Nat) (order : List Int) (o1 o2 : Bool) (w : World) (hx : LsCells w a t) (ho : IntCells w oa order) (htab : Tab w) :
 Calls Tryz.prog 5 #[.agg #[.int .i64 z, .slice a t.length cap], .agg #[.slice oa order.length oc, .bool o1, .bool o2]] w fun e w' => e = .returned (.bool true) /\ Below w.heap.size w w' := by
 obtain ⟨w0, hw0⟩ : ∃ w0, w0 = (w.alloc (.cells #[.int .i64 z, .slice a t.length cap] 39)).alloc (.cells #[.slice oa order.length oc, .bool o1, .bool o2] 42) := ⟨_, rfl⟩
 have hb0 : Below w.heap.size w w0 := by rw [hw0]; exact ((Below.refl _ _).alloc (Nat.le_refl _) _).alloc (by simp) _
 have q0 : Blk w0 w.heap.size #[.int .i64 z, .slice a t.length cap] 39 := by rw [hw0]; exact (Blk.new w _ _).alloc _
 have q1 : Blk w0 (w.heap.size + 1) #[.slice oa order.length oc, .bool o1, .bool o2] 42 := by rw [hw0]; exact Blk.new' _ (by simp) _ _
 have HB0 := lh hb0;have Q0 := lh q0;have Q1 := lh q1;have HX := lh (hx.keep hb0);have HO := lh (ho.keep hb0);have HT := lh (htab.keep hb0);have HL := lh (fun W (hb : Below w0.heap.size w0 W) => zip z a cap t W (HX.out.keep hb));have HWK := lh (fun W (hb : Below w0.heap.size w0 W) => zjc W (HT.out.keep hb));clear hx ho htab hb0 q0 q1
 cases hl : zch z t with
 | false =>
   rw [hl] at HL;clear hl;go_enter Tryz.func5, Tryz.ntmps5;go_wp2_with fail;rw [<- hw0];clear hw0;refine (HL.out _ (Below.refl _ _)).mono ?_;rintro e w1 ⟨rfl, hb1⟩;have HB1 := lh hb1;clear hb1;go_wp2_with fail;refine (HWK.out _ HB1.out).mono ?_;rintro e w2 ⟨rfl, hb2⟩;have HB2 := lh (HB0.out.trans ((HB1.out.trans (hb2.mono HB1.out.size)).mono HB0.out.size));clear hb2;go_wp2;go_ret;exact ⟨rfl, HB2.out⟩
 | true =>
   rw [hl] at HL
   have htl : t.length <= 40 := by
    unfold zch at hl;simp only [Bool.and_eq_true, decide_eq_true_eq] at hl;exact hl.2.1
   have HG := lh (fun W (hb : Below w0.heap.size w0 W) => zoo z a cap t oa oc order o1 o2 W (by omega) (HX.out.keep hb) (HO.out.keep hb))
   cases hc : decide (za0 z t order = 0) with
   | false =>
     rw [hc] at HG;clear hl hc;go_enter Tryz.func5, Tryz.ntmps5;go_wp2_with fail;rw [<- hw0];clear hw0;refine (HL.out _ (Below.refl _ _)).mono ?_;rintro e w1 ⟨rfl, hb1⟩;have HB1 := lh hb1;have p0 := Q0.out.later hb1;have p1 := Q1.out.later hb1;have c0 := p0.cell 0;have c1 := p0.cell 1;have d0 := p1.cell 0;have d1 := p1.cell 1;have d2 := p1.cell 2;have z0 := p0.lt;have z1 := p1.lt;clear hb1 p0 p1;go_wp2_with fail;refine (HG.out _ HB1.out).mono ?_;rintro e w2 ⟨rfl, hb2⟩;have HB2 := lh (HB1.out.trans (hb2.mono HB1.out.size));clear hb2 c0 c1 d0 d1 d2 z0 z1;go_wp2_with fail;refine (HWK.out _ HB2.out).mono ?_
     rintro e w3 ⟨rfl, hb3⟩;have HB3 := lh (HB0.out.trans ((HB2.out.trans (hb3.mono HB2.out.size)).mono HB0.out.size));clear hb3;go_wp2;go_ret;exact ⟨rfl, HB3.out⟩
   | true =>
     rw [hc] at HG;obtain ⟨n, rfl, hg⟩ := Gdt.of hl (of_decide_eq_true hc);have HGD := lh hg;have HCP := lh (fun W (hb : Below w0.heap.size w0 W) => zhd n a cap t oa oc order o1 o2 W hg (HX.out.keep hb) (HO.out.keep hb) (HT.out.keep hb));clear hl hc htl hg;go_enter Tryz.func5, Tryz.ntmps5;go_wp2_with fail;rw [<- hw0];clear hw0;refine (HL.out _ (Below.refl _ _)).mono ?_;rintro e w1 ⟨rfl, hb1⟩;have HB1 := lh hb1;have p0 := Q0.out.later hb1;have p1 := Q1.out.later hb1;have c0 := p0.cell 0;have c1 := p0.cell 1;have d0 := p1.cell 0;have d1 := p1.cell 1;have d2 := p1.cell 2;have z0 := p0.lt;have z1 := p1.lt
     clear hb1 p0 p1;go_wp2_with fail;refine (HG.out _ HB1.out).mono ?_;rintro e w2 ⟨rfl, hb2⟩;have HB2 := lh (HB1.out.trans (hb2.mono HB1.out.size));have p0 := Q0.out.later HB2.out;have p1 := Q1.out.later HB2.out;have c0 := p0.cell 0;have c1 := p0.cell 1;have d0 := p1.cell 0;have d1 := p1.cell 1;have d2 := p1.cell 2;have z0 := p0.lt;have z1 := p1.lt;clear hb2 p0 p1;go_wp2_with fail;refine (HCP.out _ HB2.out).mono ?_;rintro e w3 ⟨na, nc, ca, cc, N, C, rfl, hr, hb3⟩;have hbw3 := HB2.out.trans (hb3.mono HB2.out.size)
     obtain ⟨nb, hnb⟩ : ∃ nb, nb = w3.heap.size := ⟨_, rfl⟩
     obtain ⟨w4, hw4⟩ : ∃ w4, w4 = w3.alloc (.cells #[.int .i64 (n : Int), .slice na N.length nc] 24) := ⟨_, rfl⟩
     have hb4 : Below w3.heap.size w3 w4 := by rw [hw4]; exact (Below.refl _ _).alloc (Nat.le_refl _) _
     have q4 : Blk w4 nb #[.int .i64 (n : Int), .slice na N.length nc] 24 := by rw [hw4, hnb]; exact Blk.new _ _ _
     have HR := lh (hr.keep hb4);have HB4 := lh (hbw3.trans (hb4.mono hbw3.size));have Q4 := lh q4;have p0 := Q0.out.later hbw3;clear c0 c1 d0 d1 d2 z0 z1;have c0 := p0.cell 0;have c1 := p0.cell 1;have z0 := p0.lt;clear hr hb3 hbw3 hb4 q4 p0;go_wp2_with fail;rw [<- hnb, <- hw4];clear hw4 hnb c0 c1 z0;refine (HR.out.valid HGD.out).mono ?_;rintro e w5 ⟨rfl, hb5⟩;have HB5 := lh (HB4.out.trans (hb5.mono HB4.out.size));have HR5 := lh (HR.out.keep hb5);have Q5 := lh (Q4.out.later hb5);have p0 := Q0.out.later HB5.out;have c0 := p0.cell 0;have c1 := p0.cell 1;have z0 := p0.lt;have h9 := HGD.out.n9;clear hb5 p0
     go_wp2_with fail;refine (zn0 n _ (by omega)).mono ?_;rintro e w6 ⟨v, rfl, hown, hb6⟩
     have hsl : (subL n).length = 2 ^ n := by unfold subL; rw [List.length_map, List.length_range]
     have h2n : 1 <= 2 ^ n /\ 2 ^ n <= 512 := by
      have h1 := Nat.pow_le_pow_right (show 0 < 2 by omega) h9;have h2 := Nat.pow_le_pow_right (show 0 < 2 by omega) (Nat.zero_le n);omega
     obtain ⟨g, gc, rfl⟩ : ∃ g gc, v = .slice (some ⟨g, 0, none⟩) (2 ^ n) gc := by
      rcases hown.shape with ⟨h1, h2⟩ | ⟨g, gc, h1, _⟩
      ·rw [h2] at hsl; simp at hsl; omega
      ·exact ⟨g, gc, by rw [h1, hsl]⟩
     have HB6 := lh (HB5.out.trans (hb6.mono HB5.out.size));have HR6 := lh (HR5.out.keep hb6);have Q6 := lh (Q5.out.later hb6)
     have hgk : ∀ k (h : k < (subL n).length), (subL n)[k] = nthL n k := fun k h => by simp [subL]
     have HC0 : Hid (∀ W, Below w6.heap.size w6 W -> ∀ k, k < 2 ^ n -> W.cell? ⟨g, k * 2, none⟩ = some (.int .u64 ((nthL n k).a : Int))) := fun W hW k hk => by
      have h := (hown.later hW).cell hsl.symm zc6 k 0 (by omega) (by omega);rw [hgk] at h;exact h
     have HC1 : Hid (∀ W, Below w6.heap.size w6 W -> ∀ k, k < 2 ^ n -> W.cell? ⟨g, k * 2 + 1, none⟩ = some (.int .u64 ((nthL n k).b : Int))) := fun W hW k hk => by
      have h := (hown.later hW).cell hsl.symm zc6 k 1 (by omega) (by omega);rw [hgk] at h;exact h
     have HEA : Hid (∀ W, Below w6.heap.size w6 W -> ∀ k, Calls Tryz.prog 31 #[.agg #[.int .i64 (n : Int), .slice na N.length nc], .agg #[.int .u64 ((nthL n k).a : Int), .int .u64 ((nthL n k).b : Int)]] W fun e w' => e = .returned (.bool (evL (nthL n k).mem t)) /\ Below W.heap.size W w') := fun W hW k => (HR6.out.keep hW).eval HGD.out (nthL n k) (zla (by omega) k)
     have HEB : Hid (∀ W, Below w6.heap.size w6 W -> ∀ k, Calls Tryz.prog 32 #[.agg #[.int .i64 (n : Int), .slice a t.length cap], .agg #[.int .u64 ((nthL n k).a : Int), .int .u64 ((nthL n k).b : Int)]] W fun e w' => e = .returned (.bool (evL (nthL n k).mem t)) /\ Below W.heap.size W w') := fun W hW k =>
      ztd n (by omega) a cap t (nthL n k) W HGD.out.tok (HX.out.keep (HB6.out.trans (hW.mono HB6.out.size))) (zla (by omega) k) (fun v hv => by
       rw [zt1 (by omega)];rw [decide_eq_false (show ¬ v <= (n : Int) by omega)]
       simp)
     generalize hpw : 2 ^ n = pw at *;have hpl : pw <= 512 := h2n.2;clear hb6 hown c0 c1 z0 hsl h2n hgk hpw;go_wp2_with fail
     go_loopw [9] (fun i wr => ∃ k : Nat, k <= pw /\ i = .int .i64 k /\ Below w6.heap.size w6 wr) (fun i _ => pw - (intOf i).toNat)
     case atStart => exact ⟨0, Nat.zero_le _, rfl, Below.refl _ _⟩
     case round =>
      obtain ⟨k, hk, rfl, hbr⟩ := hrel;have HBR := lh hbr;have HB7 := lh (HB6.out.trans (hbr.mono HB6.out.size));clear hbr
      by_cases hlt : k < pw
      ·have hki : (k : Int) < (pw : Int) := by omega
       have k0 := (Q6.out.later HBR.out).cell 0;have k1 := (Q6.out.later HBR.out).cell 1;have k2 := (Q0.out.later HB7.out).cell 0;have k3 := (Q0.out.later HB7.out).cell 1;have k4 := HC0.out _ HBR.out k hlt;have k5 := HC1.out _ HBR.out k hlt;have ky := (Q6.out.later HBR.out).lt;have kz := (Q0.out.later HB7.out).lt;have HEA2 := lh (fun W hW => HEA.out W hW k);have HEB2 := lh (fun W hW => HEB.out W hW k);generalize nthL n k = s at *
       have HKS : Hid (∀ w' : World, Below wr.heap.size wr w' -> w'.cell? ⟨nb, 0, none⟩ = some (.int .i64 (n : Int)) /\ w'.cell? ⟨nb, 1, none⟩ = some (.slice na N.length nc) /\ w'.cell? ⟨w.heap.size, 0, none⟩ = some (.int .i64 (n : Int)) /\ w'.cell? ⟨w.heap.size, 1, none⟩ = some (.slice a t.length cap) /\ w'.cell? ⟨g, k * 2, none⟩ = some (.int .u64 (s.a : Int)) /\ w'.cell? ⟨g, k * 2 + 1, none⟩ = some (.int .u64 (s.b : Int)) /\ Below wr.heap.size wr w') := lh fun w' hb => ⟨zaa hb k0, zaa hb k1, zaa hb k2, zaa hb k3, zaa hb k4, zaa hb k5, hb⟩
       generalize evL s.mem t = r at *;go_wp2_with fail;refine wp_region_held_drew (S := (fun w' => w'.cell? ⟨nb, 0, none⟩ = some (.int .i64 (n : Int)) /\ w'.cell? ⟨nb, 1, none⟩ = some (.slice na N.length nc) /\ w'.cell? ⟨w.heap.size, 0, none⟩ = some (.int .i64 (n : Int)) /\ w'.cell? ⟨w.heap.size, 1, none⟩ = some (.slice a t.length cap) /\ w'.cell? ⟨g, k * 2, none⟩ = some (.int .u64 (s.a : Int)) /\ w'.cell? ⟨g, k * 2 + 1, none⟩ = some (.int .u64 (s.b : Int)) /\ Below wr.heap.size wr w')) (by kernel_rfl) ?_ (fun hHeld => ?_)
       ·try dsimp only
        exact HKS.out _ (Below.refl _ _).drew
       refine tkV 0 50 rfl rfl ?_; try simp only [tkS]
       refine tkV 1 51 rfl rfl ?_; try simp only [tkS]
       refine tkV 2 52 rfl rfl ?_; try simp only [tkS]
       refine tkV 3 53 rfl rfl ?_; try simp only [tkS]
       refine tkV 4 54 rfl rfl ?_; try simp only [tkS]
       refine tkV 6 56 rfl rfl ?_; try simp only [tkS]
       refine tkV 7 57 rfl rfl ?_; try simp only [tkS]
       refine tkV 8 58 rfl rfl ?_; try simp only [tkS]
       refine tkV 9 59 rfl rfl ?_; try simp only [tkS]
       refine tkV 10 60 rfl rfl ?_; try simp only [tkS]
       refine tkR 5 (.cons rfl (fun K hK => ?_) .nil);go_simp;go_at_call 31;refine (HEA2.out _ (HBR.out.trans (Below.mono (B := wr.heap.size) (zpn (by assumption)) HBR.out.size))).mono ?_;rintro e w8 ⟨rfl, hb8⟩;have hw8 : Below wr.heap.size wr w8 := Below.trans (zpn (by assumption)) (hb8.mono (Below.size (B := wr.heap.size) (w := wr) (zpn (by assumption))));go_wp2_with fail;refine hK.out _ _ ?_ (fun hHeld => ?_)
       ·try dsimp only
        exact HKS.out _ hw8
       clear hK K
       try simp only [tkS]
       refine tkR 11 (.cons rfl (fun K hK => ?_) .nil);go_simp;go_at_call 32;refine (HEB2.out _ (HBR.out.trans (Below.mono (B := wr.heap.size) (zpn (by assumption)) HBR.out.size))).mono ?_;rintro e w9 ⟨rfl, hb9⟩;have hw9 : Below wr.heap.size wr w9 := Below.trans (zpn (by assumption)) (hb9.mono (Below.size (B := wr.heap.size) (w := wr) (zpn (by assumption))));go_wp2_with fail;refine hK.out _ _ ?_ (fun hHeld => ?_)
       ·try dsimp only
        exact HKS.out _ hw9
       clear hK K
       try simp only [tkS]
       refine tkV 12 62 rfl rfl ?_; try simp only [tkS]
       refine wpAnyH_done (by kernel_rfl) ?_ _;have HBQ : Hid (Below wr.heap.size wr w9) := hw9;go_wp2;go_roundw
       case rel => exact ⟨k + 1, by omega, by go_num, HBR.out.trans (HBQ.out.mono HBR.out.size)⟩
       case measure => simp [intOf]; omega
      ·have hke : k = pw := by omega
       subst hke;go_wp2_with fail;refine (HWK.out _ HB7.out).mono ?_;rintro e wz ⟨rfl, hbz⟩;have HBZ := lh (HB0.out.trans (((HB7.out).trans (hbz.mono (HB7.out).size)).mono HB0.out.size));clear hbz;go_wp2;go_ret;exact ⟨rfl, HBZ.out⟩
end Go.Proofs.YtkaojolofaanfaaGreatDoor
