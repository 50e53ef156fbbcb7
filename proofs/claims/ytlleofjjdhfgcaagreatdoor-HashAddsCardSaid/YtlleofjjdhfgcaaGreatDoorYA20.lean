/- Parts of the proofs of laws. Texts: CqJ, CpD, CpG, CpK. -/
import Derived.Test.YtlleofjjdhfgcaaGreatDoorYA19
import Derived.Test.YtlleofjjdhfgcaaGreatDoorYA17
set_option maxHeartbeats 8000000
set_option maxRecDepth 100000
set_option linter.all false
namespace Go.Proofs.YtlleofjjdhfgcaaGreatDoor
open Go.RowKit Cen
theorem zta (x n : Int) (b : Nat) (w : World) (h : w.cell? ⟨b, 0, none⟩ = some (.int .i64 n)) :
 Calls Tryz.prog 208 #[.int .i64 x, .pointer (some ⟨b, 0, none⟩)] w fun e w' => e = .returned (.bool (!zbn x n)) /\ w = w' := by
 go_enter Tryz.func208, Tryz.ntmps208;go_wp2_with (go_at_call 64; refine (zcs _ _ _).mono ?_; rintro e w' ⟨rfl, rfl⟩);go_ret;exact ⟨rfl, rfl⟩
theorem zio : za8 208 := fun _ _ => by kernel_rfl
theorem zt2 {n : Nat} (hn : n <= 128) {t : List Cl} (ht : t.length <= 4096) (hc : ∀ c ∈ t, c.length <= 128 /\ ∀ x ∈ c, litN n x) : chkT n t = 0 := by
 unfold chkT;rw [if_neg (by omega), if_neg (by omega)];clear ht
 induction t with
 | nil => rfl
 | cons c t ih =>
   have h := hc c (by simp);rw [zg0, if_neg (by omega), if_pos, ih fun d hd => hc d (by simp [hd])];rw [List.all_eq_true];intro x hx;have := h.2 x hx;unfold zbn;have h0 := this.1;have h2 := this.2;rw [zam h0 (by omega) (by omega)];simp only [Bool.and_eq_true, decide_eq_true_eq]
   split <;> omega
theorem z268 : Tryz.zeroCells266.toList = [.int .i64 0, .slice none 0 0, .slice none 0 0] ++ List.replicate 258 (.bool false) := by kernel_rfl
theorem zr4 (j : Nat) : Tryz.zeroCells266[j]? = ([.int .i64 0, .slice none 0 0, .slice none 0 0] ++ List.replicate 258 (.bool false))[j]? := by
 rw [<- z268, Array.getElem?_toList]
theorem newS (W : World) (n : Int) (a : Option Addr) (tl cap base : Nat) :
 TS (W.alloc (.cells ((Tryz.zeroCells266.setIfInBounds 0 (.int .i64 n)).setIfInBounds 1 (.slice a tl cap)) 266)) W.heap.size n a tl cap base (.slice none 0 0) [] := by
 have hsz : Tryz.zeroCells266.size = 261 := by
  have := congrArg List.length z268;rw [Array.length_toList] at this;rw [this]; simp
 refine ⟨⟨_, Blk.new W _ _, by simp [hsz], ?_, ?_, ?_, fun x hx h1 h2 => ?_⟩, OwnL.nil _ _, fun h => by simp [Value.ownBlock] at h⟩
 ·rw [Array.getElem?_setIfInBounds_ne (by omega), Array.getElem?_setIfInBounds_self_of_lt (by omega)]
 ·rw [Array.getElem?_setIfInBounds_self_of_lt (by simp [hsz])]
 ·rw [Array.getElem?_setIfInBounds_ne (by omega), Array.getElem?_setIfInBounds_ne (by omega), zr4]; rfl
 have hi := zfi h1 h2;rw [Array.getElem?_setIfInBounds_ne (by omega), Array.getElem?_setIfInBounds_ne (by omega), zr4, List.getElem?_append_right (by simp), List.getElem?_replicate, if_pos (by simp; omega)]
 simp
theorem zel {B : Nat} {w w' : World} (h : Below B w w') (n : Nat) : Below B w (w'.drewN n) := ⟨h.os, h.tape, h.output, h.size, h.block⟩
def zza (n : Nat) (t : List Cl) (d : Int) (w : World) (e : Ending) (w' : World) : Prop :=
 ∃ v i er, e = .returned (.tuple #[v, .int .i64 i, .int .i64 er]) /\ Below w.heap.size w w' /\
  ((er = 0 /\ 0 <= i /\ zb2 n t d = true) \/ (er = 8 /\ zb2 n t d = true) \/ (er = 0 /\ i < 0 /\ zb2 n t d = false /\ ∃ S, OwnL stp 254 3 w' w.heap.size v S /\ gT n (S.map fun e => e.l)))
theorem zwd (n : Nat) (hn : n <= 128) (a : Option Addr) (cap : Nat) (t : List Cl) (ad : Option Addr) (cd : Nat) (d : Int) (w : World) (hx : LsCells w a t) (ht : t.length <= 4096) (hc : ∀ c ∈ t, c.length <= 128 /\ ∀ x ∈ c, litN n x) (hd : litN n d) (hi : IntCells w ad [d]) :
 Calls Tryz.prog 197 #[.agg #[.int .i64 n, .slice a t.length cap], .slice ad 1 cd] w (zza n t d w) := by
 obtain ⟨w0, hw0⟩ := nm (w.alloc (.cells #[.int .i64 n, .slice a t.length cap] 24))
 have hb0 : Below w.heap.size w w0 := by rw [hw0]; exact ba _ _
 have q0 : Blk w0 w.heap.size #[.int .i64 n, .slice a t.length cap] 24 := by rw [hw0]; exact Blk.new w _ _
 have HCK := lh (zbj n a cap t w0 (by omega) (fun c h => by have := (hc c h).1; omega) (hx.keep hb0));rw [zt2 hn ht hc] at HCK;have Q0 := lh q0;have HX := lh hx;have HI := lh hi;clear hx hi q0;go_enter Tryz.func197, Tryz.ntmps197;go_wp2_with fail;rw [<- hw0];clear hw0;refine HCK.o.mono ?_;rintro e w1 ⟨rfl, hb1⟩;have hb2 : Below w.heap.size w w1 := hb0.trans (hb1.mono hb0.size);have q1 := Q0.o.later hb1;have hcf := zcz ad cd [d] 208 #[.pointer (some ⟨w.heap.size, 0, none⟩)] (fun x => !zbn x n) w1 (by simp) (HI.o.keep hb2) (fun x _ => zta x n w.heap.size w1 (q1.cell 0)) zio
 have hv : ([d].any fun x => !zbn x n) = false := by
  have h0 := hd.1;have h1 := hd.2;simp only [List.any_cons, List.any_nil, Bool.or_false, Bool.not_eq_false'];unfold zbn;rw [zam h0 (by omega) (by omega)];simp only [Bool.and_eq_true, decide_eq_true_eq]
  split <;> omega
 rw [hv] at hcf;have HCF := lh hcf;clear hcf hv hb1;have k0 := q1.cell 0;have k1 := q1.cell 1;go_wp2_with fail;refine HCF.o.mono ?_;rintro e w2 ⟨rfl, rfl⟩
 have hcc : ∀ c ∈ t, c.length <= 1073741824 /\ ∀ x ∈ c, litN n x := fun c h => ⟨by have := (hc c h).1; omega, (hc c h).2⟩
 have hts := newS w1 n a t.length cap (w1.heap.size + 1);have hbA : Below w1.heap.size w1 (w1.alloc (.cells ((Tryz.zeroCells266.setIfInBounds 0 (.int .i64 (n : Int))).setIfInBounds 1 (.slice a t.length cap)) 266)) := ba _ _;have HPR := lh (zgj w1 n hn w1.heap.size a t cap (w1.heap.size + 1) (.slice none 0 0) [] 0 (by omega) _ hbA (HX.o.keep hb2) (by omega) hcc hts (Nat.le_refl _) (Nat.le_succ _) (by simp) (gT.nil n));have HIC1 := lh (HI.o.keep hb2);have HXK := lh (HX.o.keep hb2);have HCC := lh hcc;have HB2 := lh hb2
 have hd1 : -128 <= d := by have := hd.2.1; omega
 have hd2 : d <= 128 := by have := hd.2.2; omega
 have HD := lh hd;have hd0 : d ≠ 0 := hd.1;have HA := lh (zhj d hd1 hd2);have HNA := lh (zhj (-d) (by omega) (by omega));clear hcc hts hbA hb2 q1 hb0 hc hd;go_wp2_with fail;clear k0 k1;refine HPR.o.mono ?_;rintro e w3 ⟨i0, lv0, S0, rfl, hi1, hi2, hts0, hpf0, hb3⟩;simp only [List.map_nil] at hpf0;obtain ⟨T0, hT0⟩ := nm (S0.map fun e => e.l);rw [<- hT0] at hpf0
 have hgT0 : gT n T0 := by
  have := zhb hn (fun c hc x hx => (HCC.o c hc).2 x hx) (n + 1) [] (gT.nil n);rw [hpf0] at this; exact this
 have hF : zb2 n t d = (if decide (0 <= i0) then true else if T0.contains (-d) then true else (zdj t (n + 1) (if T0.contains d then T0 else T0 ++ [d])).2) := by
  unfold zb2; rw [hpf0]
 obtain ⟨b, off, rfl, cd0⟩ := (HIC1.o.keep hb3) 0 (by simp);simp only [List.getD_cons_zero, Nat.add_zero] at cd0;have HTS0 := lh hts0;have HT0 := lh hT0;have HGT := lh hgT0;have HF := lh hF;have HB3 := lh hb3;have HBW := bt HB2 hb3;obtain ⟨cs0, hat0⟩ := hts0.at'
 have ks : w3.cell? ⟨w1.heap.size, 2, none⟩ = some lv0 := by rw [hat0.blk.cell]; exact hat0.c2
 rw [<- hT0] at hat0;have HAT0 := lh hat0;clear hts0 hT0 hgT0 hF hb3 hpf0 hat0
 by_cases hi0 : 0 <= i0
 ·have HFT : Hid (zb2 n t d = true) := by show _ = _; rw [HF.o]; simp [hi0]
  go_wp2_with fail;refine wp_loop_rounds 2 ?_;rw [rounds_succ];go_wp2;exact bodyPost_ret (v := .tuple #[lv0, .int .i64 i0, .int .i64 0]) (by simp [results, Tryz.results197, Tryz.func197, go_sem]) rfl ⟨_, _, _, rfl, HBW.o, .inl ⟨rfl, hi0, HFT.o⟩⟩
 have hdi : decide (0 <= i0) = false := by simp [hi0]
 have hFN : zb2 n t d = (if T0.contains (-d) then true else (zdj t (n + 1) (if T0.contains d then T0 else T0 ++ [d])).2) := by rw [HF.o, hdi]; rfl
 have hneg : IntKind.i64.wrap (-d) = -d := IntWalk.i64_in _ (by omega);have kd := HAT0.o.cell (x := d) hd0 hd1 hd2;have kn := HAT0.o.cell (x := -d) (by omega) (by omega) (by omega);have hix := zfi hd1 hd2
 have hixi : (ixL d : Int) < 258 := by omega
 have hjx := zfi (x := -d) (by omega) (by omega)
 have hjxi : (ixL (-d) : Int) < 258 := by omega
 have HNG := lh hneg;have HFN := lh hFN;clear hneg hFN
 cases hcn : T0.contains (-d) with
 | true =>
   have HFT : Hid (zb2 n t d = true) := by show _ = _; rw [HFN.o, hcn]; rfl
   rw [hcn] at kn;clear hcn kd hix hixi;have hneg := HNG.o;generalize ixL (-d) = j at *;go_wp2_with fail;refine wp_loop_rounds 2 ?_;rw [rounds_succ];go_wp2_with fail
   go_quiet (exact Calls.quiet_of_same ((HNA.o _).mono fun _ _ hh => ⟨hh.1, hh.2.symm⟩))
   go_wp2;exact bodyPost_ret (v := .tuple #[.slice none 0 0, .int .i64 0, .int .i64 8]) (by simp [results, Tryz.results197, Tryz.func197, go_sem]) rfl ⟨_, _, _, rfl, zel HBW.o _, .inr (.inl ⟨rfl, HFT.o⟩)⟩
 | false =>
   rw [hcn] at kn;have HCN := lh hcn
   have hfit : ∀ (S1 : List Stp) (lv1 : Value) (V : World), Below w1.heap.size w1 V -> TS V w1.heap.size n a t.length cap (w1.heap.size + 1) lv1 S1 -> w1.heap.size + 1 <= V.heap.size -> (S1.map fun e => e.l) = (if T0.contains d then T0 else T0 ++ [d]) ->
    Calls Tryz.prog 209 #[.pointer (some ⟨w1.heap.size, 0, none⟩), .int .i64 1] V fun e w' => ∃ i lv' S', e = .returned (.int .i64 i) /\ TS w' w1.heap.size n a t.length cap (w1.heap.size + 1) lv' S' /\ gT n (S'.map fun e => e.l) /\ zb2 n t d = decide (0 <= i) /\ Below w.heap.size w w' := fun S1 lv1 V hV hts hsz hm => by
    have hg1 : gT n (S1.map fun e => e.l) := by
     rw [hm]
     by_cases hcd : T0.contains d = true
     ·rw [if_pos hcd]; exact HGT.o
     rw [if_neg hcd];exact HGT.o.snoc HD.o hn (fun h => hcd (by simpa using h)) (fun h => by have := HCN.o; simp at this; exact this h)
    refine (zgj w1 n hn w1.heap.size a t cap (w1.heap.size + 1) lv1 S1 1 (by omega) V hV HXK.o (by omega) HCC.o hts (Nat.le_refl _) (Nat.le_succ _) hsz hg1).mono ?_;rintro e w' ⟨i, lv', S', rfl, _, _, hts', hpf, hb'⟩;have hg2 := zhb hn (fun c hc x hx => (HCC.o c hc).2 x hx) (n + 1) (S1.map fun e => e.l) hg1;rw [hpf] at hg2;refine ⟨i, lv', S', rfl, hts', hg2, ?_, HB2.o.trans (hb'.mono HB2.o.size)⟩;rw [HFN.o, HCN.o, <- hm, hpf]; rfl
   have HFIT := lh hfit
   have hs3 : w1.heap.size + 1 <= w3.heap.size := by
    have := HAT0.o.blk.lt; omega
   clear hfit hcn
   have hend : ∀ {V : World} {i : Int} {lv' : Value} {S' : List Stp}, TS V w1.heap.size n a t.length cap (w1.heap.size + 1) lv' S' -> gT n (S'.map fun e => e.l) -> zb2 n t d = decide (0 <= i) -> Below w.heap.size w V -> zza n t d w (.returned (.tuple #[lv', .int .i64 i, .int .i64 0])) V := fun {V i lv' S'} h1 h2 h3 h4 => by
    refine ⟨_, i, 0, rfl, h4, ?_⟩
    by_cases h : 0 <= i
    ·exact .inl ⟨rfl, h, by rw [h3]; simp [h]⟩
    exact .inr (.inr ⟨rfl, by omega, by rw [h3]; simp [h], S', h1.own.lower (Nat.le_trans HB2.o.size (Nat.le_succ _)), h2⟩)
   cases hcd : T0.contains d with
   | true =>
     have hms : (S0.map fun e => e.l) = (if T0.contains d then T0 else T0 ++ [d]) := by rw [hcd, <- HT0.o]; rfl
     have HMS := lh hms;rw [hcd] at kd;have hneg := HNG.o;have hlen1 : ([d].length : Int) = 1 := rfl;clear hcd hms;generalize ixL (-d) = j at *;generalize ixL d = jj at *;go_wp2_with fail;refine wp_loop_rounds 2 ?_;rw [rounds_succ];go_wp2_with fail
     go_quiet (exact Calls.quiet_of_same ((HNA.o _).mono fun _ _ hh => ⟨hh.1, hh.2.symm⟩))
     go_wp2_with fail
     go_quiet (exact (HA.o _).mono fun _ _ hh => ⟨hh.1, _, hh.2.symm⟩)
     go_wp2_with fail;refine (HFIT.o S0 lv0 _ (zel HB3.o _) (HTS0.o.later (zal _ _)) hs3 HMS.o).mono ?_;rintro e w5 ⟨i5, lv5, S5, rfl, hts5, hg5, hf5, hb5⟩;obtain ⟨cs5, hat5⟩ := hts5.at'
     have k5 : w5.cell? ⟨w1.heap.size, 2, none⟩ = some lv5 := by rw [hat5.blk.cell]; exact hat5.c2
     have HEND := lh (hend hts5 hg5 hf5 hb5);clear hts5 hg5 hf5 hb5 hat5 hend;go_wp2_with fail;rw [rounds_succ];go_wp2;exact bodyPost_ret (v := .tuple #[lv5, .int .i64 i5, .int .i64 0]) (by simp [results, Tryz.results197, Tryz.func197, go_sem]) rfl HEND.o
   | false =>
     have hms : ((S0 ++ [(⟨d, -1, 1⟩ : Stp)]).map fun e => e.l) = (if T0.contains d then T0 else T0 ++ [d]) := by rw [hcd, List.map_append, <- HT0.o]; rfl
     have HMS := lh hms;rw [hcd] at kd;have hneg := HNG.o;have hlen1 : ([d].length : Int) = 1 := rfl
     have hl0 : S0.length <= 1073741824 := by
      have := HGT.o.len hn;rw [HT0.o, List.length_map] at this; omega
     have HAD := lh (fun (V : World) (hV : Below w3.heap.size w3 V) => zqo V w1.heap.size n a t.length cap (w1.heap.size + 1) lv0 S0 ⟨d, -1, 1⟩ (HTS0.o.later hV) hd0 hd1 hd2 hl0 (Nat.le_trans hs3 hV.size));clear hcd hms;generalize ixL (-d) = j at *;generalize ixL d = jj at *;go_wp2_with fail;refine wp_loop_rounds 2 ?_;rw [rounds_succ];go_wp2_with fail
     go_quiet (exact Calls.quiet_of_same ((HNA.o _).mono fun _ _ hh => ⟨hh.1, hh.2.symm⟩))
     go_wp2_with fail
     go_quiet (exact (HA.o _).mono fun _ _ hh => ⟨hh.1, _, hh.2.symm⟩)
     go_wp2_with fail;refine (HAD.o _ (zal _ _)).mono ?_;rintro e w4 ⟨rfl, lv4, hts4, hk4, hlv4⟩
     have hb4 : Below w1.heap.size w1 w4 := (zel HB3.o _).trans (Kp.toBelow hk4 (by have := HB3.o.size; simpa using this) fun k hk e => by
      rcases e with e | e
      ·omega
      have := (World.ownsRow.lt HTS0.o.own k e).1; omega)
     have hs4 : w1.heap.size + 1 <= w4.heap.size := Nat.le_trans hs3 hk4.size;have HF4 := lh (HFIT.o _ lv4 w4 hb4 hts4 hs4 HMS.o);clear hts4 hk4 hlv4 hb4 hs4;go_wp2_with fail;refine HF4.o.mono ?_;rintro e w5 ⟨i5, lv5, S5, rfl, hts5, hg5, hf5, hb5⟩;obtain ⟨cs5, hat5⟩ := hts5.at'
     have k5 : w5.cell? ⟨w1.heap.size, 2, none⟩ = some lv5 := by rw [hat5.blk.cell]; exact hat5.c2
     have HEND := lh (hend hts5 hg5 hf5 hb5);clear hts5 hg5 hf5 hb5 hat5 hend;go_wp2_with fail;rw [rounds_succ];go_wp2;exact bodyPost_ret (v := .tuple #[lv5, .int .i64 i5, .int .i64 0]) (by simp [results, Tryz.results197, Tryz.func197, go_sem]) rfl HEND.o
theorem zuz (p : Int -> Bool) (xs : List Int) : (idx p xs = -1 /\ ∀ x ∈ xs, p x = false) \/ ∃ k, k < xs.length /\ idx p xs = (k : Int) /\ p (gd xs k) = true /\ ∀ j, j < k -> p (gd xs j) = false := by
 unfold idx
 cases h : xs.findIdx? p with
 | none => exact .inl ⟨rfl, fun x hx => by have := List.findIdx?_eq_none_iff.1 h x hx; simpa using this⟩
 | some k =>
   obtain ⟨h1, h2, h3⟩ := List.findIdx?_eq_some_iff_getElem.1 h;refine .inr ⟨k, h1, rfl, by rw [zar h1]; exact h2, fun j hj => ?_⟩;rw [zar (by omega)];have := h3 j hj
   simpa using this
theorem OwnI.cutTo {w : World} {base g cap n i : Nat} {M : List Int} (h : OwnI w base (.slice (some ⟨g, 0, none⟩) n cap) M) (hn : n = M.length) (hi : i <= n) (vs : List Value) : OwnI (w.setCells g i vs) base (.slice (some ⟨g, 0, none⟩) i cap) (M.take i) := by
 subst hn;obtain ⟨ys, h1, h2⟩ := zc1 vs i w _ (zao.2 h)
 have hl : (M.take i).length = i := by rw [List.length_take]; omega
 refine zao.1 ?_
 show World.ownsRow _ _ _ _ _ _ _
 rw [hl];refine ⟨by simp; omega, ?_⟩
 rcases h1.2 with ⟨h3, _⟩ | ⟨g', cap', cur, hv, hb, hg, hnc, hcm, hcs, ht⟩
 ·simp at h3
 simp only [Value.slice.injEq, Option.some.injEq, Addr.mk.injEq, and_true, true_and] at hv;obtain ⟨rfl, rfl⟩ := hv;refine .inr ⟨_, _, cur, rfl, hb, hg, by omega, hcm, hcs, ?_⟩;have h3 := congrArg (List.take i) ht;rw [List.take_take, h2, Nat.mul_one, show min i M.length = i by omega] at h3;rw [Nat.mul_one, h3, List.map_take]
theorem zsa {w : World} {base g cap n i : Nat} {M : List Int} (h : OwnI w base (.slice (some ⟨g, 0, none⟩) n cap) M) (hn : n = M.length) (hi : i < n) (ty : TypeId) (c : Nat) :
 ∃ vs, (Builtin.clear_ #[67] ty #[.slice (some ⟨g, i, none⟩) (n - i) c]).run Tryz.prog w = .ok (.tuple #[]) (w.setCells g i vs) := by
 refine ⟨(Builtin.zeroCells #[.int .i64 0] (n - i)).toList, ?_⟩
 have hlen : (Builtin.zeroCells #[.int .i64 0] (n - i)).toList.length = n - i := by simp [Builtin.zeroCells]
 have hone : ∀ v ∈ (Builtin.zeroCells #[.int .i64 0] (n - i)).toList, v.oneCell' = true := by
  intro v hv;simp only [Builtin.zeroCells, Array.toList_map, List.mem_map] at hv;obtain ⟨k, _, rfl⟩ := hv
  simp [Nat.mod_one, Value.oneCell']
 have hst := run_storeCells_cells (P := Tryz.prog) g i _ 0 w (fun j hj => by
  rw [hlen] at hj;have := OwnI.c0 h hn (show i + 0 + j < M.length by omega)
  rw [this]; rfl) (fun j _ => h.fr hn _) hone
 simp only [Nat.add_zero] at hst
 obtain ⟨m, hm⟩ : ∃ m, n - i = m + 1 := ⟨n - i - 1, by omega⟩
 rw [hm] at hst ⊢
 simp [Builtin.clear_, run_underlying Tryz.underlying67, zgt, hst, Value.cells]
theorem OwnI.room {w : World} {base g cap n : Nat} {l : List Int} (h : OwnI w base (.slice (some ⟨g, 0, none⟩) n cap) l) (hn : n = l.length) : n <= cap := by
 subst hn
 rcases h.2 with ⟨h1, _⟩ | ⟨g', cap', cur, hv, _, _, hnc, _⟩
 ·simp at h1
 simp only [Value.slice.injEq] at hv; omega
def zbz (p : Int -> Bool) (l : List Int) (j : Nat) : List Int := (l.take j).filter fun x => !p x
theorem zk6 {p : Int -> Bool} {l : List Int} {j : Nat} (hj : j < l.length) : zbz p l (j + 1) = if p (gd l j) then zbz p l j else zbz p l j ++ [gd l j] := by
 unfold zbz;rw [List.take_succ_eq_append_getElem hj, List.filter_append, zar hj]
 cases h : p l[j] <;> simp [h]
theorem zu7 {p : Int -> Bool} {l : List Int} : zbz p l l.length = l.filter fun x => !p x := by unfold zbz; rw [List.take_length]
theorem zpw {p : Int -> Bool} {l : List Int} {k : Nat} (hk : k < l.length) (h1 : p (gd l k) = true) (h2 : ∀ j, j < k -> p (gd l j) = false) : zbz p l (k + 1) = l.take k := by
 rw [zk6 hk, if_pos h1];unfold zbz;rw [List.filter_eq_self];intro x hx;obtain ⟨j, hj, rfl⟩ := List.getElem_of_mem hx;rw [List.length_take] at hj;have := h2 j (by omega);rw [zar (by omega)] at this
 simp [this]
def zzw (g cap base : Nat) (l : List Int) (p : Int -> Bool) (w : World) (e : Ending) (w' : World) : Prop :=
 e = .returned (.slice (some ⟨g, 0, none⟩) (l.filter fun x => !p x).length cap) /\ OwnI w' base (.slice (some ⟨g, 0, none⟩) (l.filter fun x => !p x).length cap) (l.filter fun x => !p x) /\ Kp (fun y => y = g) w w'
theorem OwnI.intCells {w : World} {base g cap n : Nat} {l : List Int} (h : OwnI w base (.slice (some ⟨g, 0, none⟩) n cap) l) (hn : n = l.length) : IntCells w (some ⟨g, 0, none⟩) l := fun i hi => by
 refine ⟨g, 0, rfl, ?_⟩;rw [Nat.zero_add, OwnI.c0 h hn hi]; rfl
theorem zkd (g cap base : Nat) (l : List Int) (p : Int -> Bool) (f : FuncId) (cs : Array Value) (w : World) (ho : OwnI w base (.slice (some ⟨g, 0, none⟩) l.length cap) l) (hm : l.length <= 1073741824)
 (hp : ∀ V, Kp (fun y => y = g) w V -> ∀ x, x ∈ l -> Calls Tryz.prog f (#[.int .i64 x] ++ cs) V fun e w' => e = .returned (.bool (p x)) /\ V = w') (hcf : za8 f) :
 Calls Tryz.prog 144 #[.slice (some ⟨g, 0, none⟩) l.length cap, .func (.func f) #[] cs] w (zzw g cap base l p w) := by
 have HO := lh ho;have HP := lh hp;have HI := lh (zd7 (some ⟨g, 0, none⟩) cap l f cs p w hm (OwnI.intCells ho rfl) (fun x hx => hp w (Kp.refl _ _) x hx) hcf);have hcl := OwnI.room ho rfl;have hcf' : ∀ (args : Array Value) (w : World), (callFunc f args).run Tryz.prog w = .ok (.enter f args) w := hcf;clear ho hp hcf
 rcases zuz p l with ⟨hi, hno⟩ | ⟨k, hk, hi, hp1, hp2⟩
 ·have HF : Hid ((l.filter fun x => !p x) = l) := List.filter_eq_self.2 fun x hx => by rw [hno x hx]; rfl
  rw [hi] at HI;clear hno hi;go_enter Tryz.func144, Tryz.ntmps144;go_wp2_with fail;refine HI.o.mono ?_;rintro e w1 ⟨rfl, rfl⟩;go_wp2;go_ret;exact ⟨by rw [HF.o]; rfl, by rw [HF.o]; exact HO.o, Kp.refl _ _⟩
 have HST := lh (zpw hk hp1 hp2)
 have HSL : Hid ((zbz p l (k + 1)).length = k) := by show _ = _; rw [HST.o, List.length_take]; omega
 rw [hi] at HI;clear hp1 hp2 hi
 have hkn : ((k : Int) == -1) = false := by simp
 have hkn2 : decide ((k : Int) = -1) = false := by simp
 go_enter Tryz.func144, Tryz.ntmps144;go_wp2_with fail;refine HI.o.mono ?_;rintro e w1 ⟨rfl, rfl⟩;go_wp2_with fail
 go_loopw [5, 6] (fun i jj wr => ∃ j : Nat, 1 <= j /\ j <= l.length /\ (zbz p l j).length < j /\ i = .int .i64 ((zbz p l j).length : Nat) /\ jj = .int .i64 j /\ ∃ M, OwnI wr base (.slice (some ⟨g, 0, none⟩) l.length cap) M /\ l.length = M.length /\ M.take (zbz p l j).length = zbz p l j /\ (∀ t, j <= t -> gd M t = gd l t) /\ Kp (fun y => y = g) w wr) (fun _ jj _ => l.length - (intOf jj).toNat)
 case atStart => exact ⟨k + 1, by omega, by omega, by rw [HSL.o]; omega, by rw [HSL.o], by go_num, l, HO.o, rfl, by rw [HSL.o, HST.o], fun _ _ => rfl, Kp.refl _ _⟩
 obtain ⟨j, hj1, hj2, hcl2, rfl, rfl, M, hom, hml, htk, hsa, hkp⟩ := hrel;have HCL := lh hcl2;have HOM := lh hom;have HML := lh hml;have HTK := lh htk;have HSA := lh hsa;have HKP := lh hkp;clear hcl2 hom hml htk hsa hkp
 by_cases hlj : j < l.length
 ·have q1 : gd M j = gd l j := HSA.o _ (Nat.le_refl _)
  have hjM : j < M.length := by rw [<- HML.o]; exact hlj
  have a0 := OwnI.c0 HOM.o HML.o hjM;rw [q1] at a0
  have hmem : gd l j ∈ l := by rw [zar hlj]; exact List.getElem_mem hlj
  have HPC := lh (HP.o wr HKP.o _ hmem)
  have hji : (j : Int) < (l.length : Int) := by omega
  have HSU := lh (zk6 (p := p) hlj);have gl := HOM.o.lt.1;have HXL : Hid (gd M j = gd l j) := q1;have hcl2 := HCL.o
  have hci : (((zbz p l j).length : Nat) : Int) < (l.length : Int) := by omega
  have hcn2 : (zbz p l j).length < l.length := by omega
  have f1 := HOM.o.fr HML.o (zbz p l j).length;have HPUT : Hid (OwnI (wr.setCell ⟨g, (zbz p l j).length, none⟩ (.int .i64 (gd l j))) base (.slice (some ⟨g, 0, none⟩) l.length cap) (M.set (zbz p l j).length (gd l j))) := HOM.o.put1 HML.o ztk _ (by rw [<- HML.o]; exact hcn2) (gd l j) _ rfl
  have HTK2 : Hid ((M.set (zbz p l j).length (gd l j)).take ((zbz p l j).length + 1) = zbz p l j ++ [gd l j]) := by
   show _ = _
   rw [List.take_succ_eq_append_getElem (by rw [List.length_set, <- HML.o]; exact hcn2), List.take_set_of_le (Nat.le_refl _), HTK.o]
   simp
  have HSA2 : Hid (∀ t, j + 1 <= t -> gd (M.set (zbz p l j).length (gd l j)) t = gd l t) := fun t ht => by
   have hc := HCL.o;rw [<- HSA.o t (by omega)]
   show (M.set _ _).getD t default = M.getD t default
   simp [List.getD_eq_getElem?_getD, List.getElem?_set_ne (show (zbz p l j).length ≠ t by omega)]
  have HKK : Hid (∀ c, Kp (fun y => y = g) w (wr.setCell ⟨g, (zbz p l j).length, none⟩ c)) := fun c => Kp.trans (M := fun y => y = g) HKP.o (Kp.setCell (M := fun y => y = g) _ _ _ rfl)
  have b0 := OwnI.c0 HOM.o HML.o (show (zbz p l j).length < M.length by rw [<- HML.o]; exact hcn2);clear q1 hmem
  cases hpx : p (gd l j) with
  | true =>
    have HKB : Hid (zbz p l (j + 1) = zbz p l j) := by show _ = _; rw [HSU.o, if_pos hpx]
    rw [hpx] at HPC;clear hpx;go_wp2_with fail;refine HPC.o.mono ?_;rintro e w2 ⟨rfl, rfl⟩;go_wp2;go_roundw
    case rel => exact ⟨j + 1, by omega, by omega, by rw [HKB.o]; omega, by rw [HKB.o], by go_num, M, HOM.o, HML.o, by rw [HKB.o]; exact HTK.o, fun t ht => HSA.o t (by omega), HKP.o⟩
    case measure => simp [intOf]; omega
  | false =>
    have HKB : Hid (zbz p l (j + 1) = zbz p l j ++ [gd l j]) := by show _ = _; rw [HSU.o, if_neg (by rw [hpx]; simp)]
    rw [hpx] at HPC;clear hpx;generalize hcn : (zbz p l j).length = cn at *;have HCN := lh hcn;clear hcn;go_wp2_with fail;refine HPC.o.mono ?_;rintro e w2 ⟨rfl, rfl⟩;go_wp2;go_roundw
    case rel => exact ⟨j + 1, by omega, by omega, by rw [HKB.o, List.length_append, HCN.o]; simp; omega, by rw [HKB.o, List.length_append, HCN.o]; go_num, by go_num, _, HPUT.o, by rw [List.length_set]; exact HML.o, by rw [HKB.o, List.length_append, HCN.o]; exact HTK2.o, HSA2.o, HKK.o _⟩
    case measure => simp [intOf]; omega
 have hje : j = l.length := by omega
 subst hje;have hcl2 := HCL.o;obtain ⟨vs, hvs⟩ := zsa HOM.o HML.o hcl2 0 (cap - (zbz p l l.length).length);have HCT := lh (OwnI.cutTo HOM.o HML.o (Nat.le_of_lt hcl2) vs);have HKV := lh (Kp.trans (M := fun y => y = g) HKP.o (zfr g vs ((zbz p l l.length).length) wr));rw [HTK.o] at HCT;have HFA := lh (zu7 (p := p) (l := l));generalize hcn : (zbz p l l.length).length = cn at *;have HCN := lh hcn;clear hcn
 have hcn2 : (cn : Int) < (l.length : Int) := by omega
 go_wp2_with fail;go_ret;exact ⟨by rw [<- HFA.o, HCN.o]; rfl, by rw [<- HFA.o, HCN.o]; exact HCT.o, HKV.o⟩
theorem zsl (y x : Int) (hx1 : -128 <= x) (hx2 : x <= 128) (a : Addr) (w : World) (h : w.cell? a = some (.int .i64 x)) :
 Calls Tryz.prog 145 #[.int .i64 y, .pointer (some a)] w fun e w' => e = .returned (.bool (decide (y = -x))) /\ w = w' := by
 have HY : Hid (IntKind.i64.wrap (-x) = -x) := IntWalk.i64_in _ (by omega)
 by_cases hd : y = -x
 ·have HD : Hid (decide (y = -x) = true) := by show _ = _; simp [hd]
  have h1 : (y == -x) = true := by simp [hd]
  have hy := HY.o;subst hd;clear HY;go_enter Tryz.func145, Tryz.ntmps145;go_wp2;go_ret;exact ⟨zbg HD.o.symm, rfl⟩
 have HD : Hid (decide (y = -x) = false) := by show _ = _; simp [hd]
 have h1 : (y == -x) = false := by simp [hd]
 have h2 : decide (y = -x) = false := by simp [hd]
 have hy := HY.o;clear HY hd;go_enter Tryz.func145, Tryz.ntmps145;go_wp2;go_ret;exact ⟨zbg HD.o.symm, rfl⟩
theorem zin : za8 145 := fun _ _ => by kernel_rfl
theorem zke (p : Int -> Bool) (f : FuncId) (cs : Array Value) (w : World) (hcf : za8 f) :
 Calls Tryz.prog 144 #[.slice none 0 0, .func (.func f) #[] cs] w fun e w' => e = .returned (.slice none 0 0) /\ w = w' := by
 have HI := lh (zd7 none 0 [] f cs p w (by decide) (IntCells.nil _ _) (fun x h => by simp at h) hcf);clear hcf;go_enter Tryz.func144, Tryz.ntmps144;go_wp2_with fail;refine HI.o.mono ?_;rintro e w1 ⟨rfl, rfl⟩;go_wp2;go_ret;exact ⟨rfl, rfl⟩
def zwk (base : Nat) (v : Value) (l : List Int) (p : Int -> Bool) (w : World) (e : Ending) (w' : World) : Prop :=
 ∃ v', e = .returned v' /\ OwnI w' base v' (l.filter fun x => !p x) /\ Kp (fun y => v.ownBlock = some y) w w' /\ ∀ k, v'.ownBlock = some k -> v.ownBlock = some k
theorem yap (base : Nat) (v : Value) (l : List Int) (p : Int -> Bool) (f : FuncId) (cs : Array Value) (w : World) (ho : OwnI w base v l) (hm : l.length <= 1073741824)
 (hp : ∀ V, Kp (fun y => v.ownBlock = some y) w V -> ∀ x, x ∈ l -> Calls Tryz.prog f (#[.int .i64 x] ++ cs) V fun e w' => e = .returned (.bool (p x)) /\ V = w') (hcf : za8 f) :
 Calls Tryz.prog 144 #[v, .func (.func f) #[] cs] w (zwk base v l p w) := by
 rcases ho.shape with ⟨rfl, rfl⟩ | ⟨g, cap, rfl, hg1, hg2⟩
 ·refine (zke p f cs w hcf).mono ?_;rintro e w' ⟨rfl, rfl⟩;exact ⟨_, rfl, OwnL.nil _ _, Kp.refl _ _, fun k h => h⟩
 refine (zkd g cap base l p f cs w ho hm (fun V hV => hp V (hV.mono fun k _ h => by rw [h]; rfl)) hcf).mono ?_;rintro e w' ⟨rfl, h1, h2⟩;exact ⟨_, rfl, h1, h2.mono fun k _ h => by rw [h]; rfl, fun k h => h⟩
def CcCells (w : World) (a : Option Addr) (l : List Ce) : Prop := ∀ i, i < l.length -> ∃ b off, a = some ⟨b, off, none⟩ /\ w.cell? ⟨b, off + i * 2, none⟩ = some (.slice (gd l i).a (gd l i).xs.length (gd l i).c) /\ w.cell? ⟨b, off + i * 2 + 1, none⟩ = some (.int .i64 (gd l i).i) /\ IntCells w (gd l i).a (gd l i).xs
theorem CcCells.keep {w w' : World} {a : Option Addr} {l : List Ce} (h : CcCells w a l) (hb : Below w.heap.size w w') : CcCells w' a l := fun i hi => by
 obtain ⟨b, off, e, h1, h2, h3⟩ := h i hi;exact ⟨b, off, e, zab hb h1, zab hb h2, h3.keep hb⟩
def GvAt (x : Int) (l m : List Ce) : Prop := ∀ e ∈ m, ∃ f ∈ l, e.i = f.i /\ x ∉ f.xs /\ e.xs = f.xs.filter fun y => decide (y ≠ -x)
structure GvSt (x : Int) (l : List Ce) (B k : Nat) (w : World) (v : Value) (m : List Ce) : Prop where
 own : OwnC w B v m
 ins : CsIn w B v m
 at' : GvAt x l m
 len : m.length <= k
 xs : (m.map fun e => e.xs) = (((l.map fun e => e.xs).take k).filter fun c => !c.contains x).map fun c => c.filter fun y => decide (y ≠ -x)
def zz0 (x : Int) (l : List Ce) (w : World) (e : Ending) (w' : World) : Prop :=
 ∃ v m, e = .returned v /\ OwnC w' w.heap.size v m /\ CsIn w' w.heap.size v m /\ GvAt x l m /\ (m.map fun e => e.xs) = zah (l.map fun e => e.xs) x /\ Below w.heap.size w w'
theorem GvSt.later {x : Int} {l : List Ce} {B k : Nat} {w w' : World} {v : Value} {m : List Ce} (h : GvSt x l B k w v m) (hb : Below w.heap.size w w') : GvSt x l B k w' v m :=
 ⟨h.own.later hb, h.ins.kept (Kp.below hb) fun _ h => .inl h, h.at', h.len, h.xs⟩
theorem GvSt.skip {x : Int} {l : List Ce} {B k : Nat} {w : World} {v : Value} {m : List Ce} (h : GvSt x l B k w v m) (hk : k < l.length) (ht : (gd l k).xs.contains x = true) : GvSt x l B (k + 1) w v m :=
 ⟨h.own, h.ins, h.at', Nat.le_succ_of_le h.len, by
   rw [zar hk] at ht;rw [h.xs, List.take_succ_eq_append_getElem (by rw [List.length_map]; exact hk), List.filter_append, List.map_append, List.getElem_map]
   have hx : x ∈ l[k].xs := by simpa using ht
   simp [hx]⟩
theorem zny (a : Option Addr) (cap : Nat) (l : List Ce) (x : Int) (hx1 : -128 <= x) (hx2 : x <= 128) (w : World) (hl : l.length <= 1073741823) (hc : CcCells w a l) (hs : ∀ e ∈ l, e.xs.length <= 1073741824 /\ litB e.xs) :
 Calls Tryz.prog 107 #[.slice a l.length cap, .int .i64 x] w (zz0 x l w) := by
 have hb0 : Below w.heap.size w (w.alloc (.cells #[.int .i64 x] 3)) := ba _ _;obtain ⟨w0, hw0⟩ := nm (w.alloc (.cells #[.int .i64 x] 3))
 have b0 : w0.cell? ⟨w.heap.size, 0, none⟩ = some (.int .i64 x) := by rw [hw0, World.cell?_alloc_at _ _ _ _ rfl]; rfl
 have hs0 : w0.heap.size = w.heap.size + 1 := by rw [hw0]; simp
 rw [<- hw0] at hb0;have HX := lh (hc.keep hb0);have HB0 := lh hb0;have HT := lh hs;have HS0 := lh hs0
 have HIN : Hid (GvSt x l w0.heap.size 0 w0 (.slice none 0 0) []) := ⟨OwnL.nil _ _, CsIn.nil _ _ _, fun e h => by simp at h, Nat.le_refl _, rfl⟩
 clear hc hs hb0 hs0;go_enter Tryz.func107, Tryz.ntmps107;go_wp2_with fail;rw [<- hw0];clear hw0;go_wp2_with fail
 go_loopw [5, 11] (fun v i wr => ∃ k : Nat, k <= l.length /\ i = .int .i64 k /\ Below w0.heap.size w0 wr /\ ∃ m va vc, v = .slice va m.length vc /\ GvSt x l w0.heap.size k wr (.slice va m.length vc) m) (fun _ i _ => l.length - (intOf i).toNat)
 case atStart => exact ⟨0, Nat.zero_le _, rfl, Below.refl _ _, [], none, 0, rfl, HIN.o⟩
 obtain ⟨k, hk, rfl, hb, m, va, vc, rfl, hst⟩ := hrel;have HB := lh hb;have HST := lh hst;clear hb hst
 by_cases hlt : k < l.length
 ·obtain ⟨b, off, rfl, hc0, hc1, hi⟩ := HX.o.keep HB.o k hlt;have b2 := zab HB.o b0;obtain ⟨hlen, hval⟩ := HT.o (gd l k) (by rw [zar hlt]; exact List.getElem_mem hlt)
  have hki : (k : Int) < (l.length : Int) := by omega
  have HI := lh hi;have HVL := lh hval;have HLN := lh hlen;have HCN := lh (fun V (hV : Below wr.heap.size wr V) => znq (gd l k).a (gd l k).c (gd l k).xs x V hlen (hi.keep hV))
  have hbl : w.heap.size < wr.heap.size := by have h1 := HB.o.size; have h2 := HS0.o; omega
  have hb1 : Below wr.heap.size wr (wr.alloc (.cells #[.slice (gd l k).a (gd l k).xs.length (gd l k).c, .int .i64 (gd l k).i] 178)) := ba _ _;have HB1 := lh hb1;clear hi hval hlen hb1;have HCN1 := lh (HCN.o _ HB1.o)
  cases hcx : has (gd l k).xs x with
  | true =>
    rw [hcx] at HCN1;have HSK := lh ((HST.o.skip hlt (by rw [<- hcx]; unfold has; rw [List.contains_eq_any_beq])).later HB1.o);clear hcx;go_wp2_with fail;refine HCN1.o.mono ?_;rintro e w2 ⟨rfl, rfl⟩;go_wp2;go_roundw
    case rel => exact ⟨k + 1, by omega, by go_num, HB.o.trans (HB1.o.mono HB.o.size), m, va, vc, rfl, HSK.o⟩
    case measure => simp [intOf]; omega
  | false =>
    rw [hcx] at HCN1;have HCL := lh (zaz (gd l k).a (gd l k).c (gd l k).xs _ HLN.o (HI.o.keep HB1.o));go_wp2_with fail;refine HCN1.o.mono ?_;rintro e w2 ⟨rfl, rfl⟩;go_wp2_with fail;refine HCL.o.mono ?_;rintro e w3 ⟨v3, rfl, hown3, hb3⟩
    have hs1 : (wr.alloc (.cells #[.slice (gd l k).a (gd l k).xs.length (gd l k).c, .int .i64 (gd l k).i] 178)).heap.size = wr.heap.size + 1 := by simp
    have hb3' : Below wr.heap.size wr w3 := HB1.o.trans (hb3.mono (by rw [hs1]; omega));have c3 := zab hb3' b2;have hown3 := zao.1 hown3;rw [hs1] at hown3
    have hob3 : ∀ g, v3.ownBlock = some g -> wr.heap.size < g := fun g hg => (World.ownsRow.lt hown3 g hg).1
    have HDE := lh (yap (wr.heap.size + 1) v3 (gd l k).xs (fun y => decide (y = -x)) 145 #[.pointer (some ⟨w.heap.size, 0, none⟩)] w3 hown3 HLN.o
     (fun V hV y _ => zsl y x hx1 hx2 ⟨w.heap.size, 0, none⟩ V (hV.cell c3 (fun h => by have := hob3 _ h; simp only at this; omega))) zin)
    have HB3 := lh hb3';have d0 : w3.cell? ⟨wr.heap.size, 1, none⟩ = some (.int .i64 (gd l k).i) := zab hb3 (by rw [World.cell?_alloc_at _ _ _ _ rfl]; rfl);have HD0 := lh d0;have HOB := lh hob3;clear hown3 hb3 hb3' c3 hob3 d0 hs1;go_wp2_with fail;refine HDE.o.mono ?_;rintro e w4 ⟨v4, rfl, hown4, hk4, ho4⟩;have d4 : w4.cell? ⟨wr.heap.size, 1, none⟩ = some (.int .i64 (gd l k).i) := hk4.cell HD0.o (fun h => by have := HOB.o _ h; simp only at this; omega);have hb4 : Below wr.heap.size wr w4 := HB3.o.trans (hk4.toBelow HB3.o.size fun k hk h => by have := HOB.o _ h; omega)
    have hdn : ((gd l k).xs.filter fun y => !decide (y = -x)) = (gd l k).xs.filter fun y => decide (y ≠ -x) := by
     congr 1; funext y; by_cases c : y = -x <;> simp [c]
    rw [hdn] at hown4;obtain ⟨av, cv, rfl, hcells, hav⟩ := (zao.2 hown4).cells;have hlt2 := (zao.2 hown4).lt;have HCE2 := lh hcells;have HAV := lh hav;have HL2 := lh hlt2;have HST2 := lh (HST.o.later hb4);have HB4 := lh hb4;have HLT := lh (show ∀ g, (Value.slice va m.length vc).ownBlock = some g -> g < wr.heap.size from fun g hg => (World.ownsRow.lt HST.o.own g hg).2);have HSZ2 : Hid (w0.heap.size <= w4.heap.size) := Nat.le_trans HB.o.size hb4.size;have hml := HST.o.len;have HLL := lh (show m.length <= 1073741824 by omega)
    have HNI : Hid (x ∉ (gd l k).xs) := fun h => by have := ya8.2 h; rw [hcx] at this; simp at this
    have hdb : litB ((gd l k).xs.filter fun y => decide (y ≠ -x)) := fun y hy => HVL.o y (List.mem_filter.1 hy).1
    have hdl : ((gd l k).xs.filter fun y => decide (y ≠ -x)).length <= 1073741824 := Nat.le_trans (List.length_filter_le _ _) HLN.o;have HDB := lh hdb;have HDL := lh hdl;obtain ⟨d, hd⟩ := nm ((gd l k).xs.filter fun y => decide (y ≠ -x));rw [<- hd] at HCE2 HL2 HDB HDL ⊢;have HD := lh hd;clear hcells hav hlt2 hown4 hk4 ho4 hb4 hml hdb hdl hd hdn;go_wp2_with (at_builtin; go_loud (refine zlx (C := #[.slice av d.length cv, .int .i64 (gd l k).i]) zma rfl _ _ rfl w0.heap.size (.slice va m.length vc) m ⟨av, cv, d, (gd l k).i⟩ rfl HST2.o.own rfl rfl rfl (by intro u hu; simp [ce] at hu; rcases hu with rfl | rfl <;> rfl) HLL.o (by decide) HSZ2.o ?_))
    intro g cap5 w5 ho5 hg5 hgn
    have HN : Hid (GvSt x l w0.heap.size (k + 1) w5 (.slice (some ⟨g, 0, none⟩) (m.length + 1) cap5) (m ++ [⟨av, cv, d, (gd l k).i⟩])) := by
     have hob : ∀ g0, (Value.slice va m.length vc).ownBlock = some g0 -> g0 < wr.heap.size := HLT.o
     have hkp : Kp (fun y => (Value.slice va m.length vc).ownBlock = some y) w4 w5 := Kp.grown hg5 fun k h => h
     have hgn' : ∀ k, (Value.slice (some ⟨g, 0, none⟩) (m.length + 1) cap5).ownBlock = some k -> (Value.slice va m.length vc).ownBlock = some k \/ w4.heap.size <= k := fun k h => by
      cases h; exact hgn
     refine ⟨ho5, fun e he => ?_, fun e he => ?_, by rw [List.length_append]; have := HST.o.len; simp; omega, ?_⟩
     ·rcases List.mem_append.1 he with he | he
      ·exact (HST2.o.ins.kept hkp hgn') e he
      simp only [List.mem_singleton] at he;subst he;refine ⟨HDL.o, HDB.o, HCE2.o.kept hkp fun p hp e' => ?_, fun p hp => ?_⟩
      ·have h1 := hob _ e'; have h2 := (HAV.o p hp).1; omega
      subst hp;have h1 := (HAV.o p rfl).1;have h2 := (HL2.o p.block rfl).2;have h3 := HB.o.size;refine ⟨by omega, Nat.lt_of_lt_of_le h2 hkp.size, fun e' => ?_⟩
      rcases hgn' _ e' with h4 | h4
      ·have := hob _ h4; omega
      omega
     ·rcases List.mem_append.1 he with he | he
      ·exact HST2.o.at' e he
      simp only [List.mem_singleton] at he;subst he;exact ⟨gd l k, by rw [zar hlt]; exact List.getElem_mem hlt, rfl, HNI.o, HD.o⟩
     have hx : x ∉ l[k].xs := by rw [<- zar hlt]; exact HNI.o
     rw [List.map_append, HST2.o.xs, List.take_succ_eq_append_getElem (by rw [List.length_map]; exact hlt), List.filter_append, List.map_append, List.getElem_map];rw [show [l[k].xs].filter (fun c => !c.contains x) = [l[k].xs] by simp [hx], show List.map (fun c : Cl => c.filter fun y => decide (y ≠ -x)) [l[k].xs] = [l[k].xs.filter fun y => decide (y ≠ -x)] from rfl, <- zar hlt, <- HD.o]
     rfl
    have HB5 : Hid (Below w0.heap.size w0 w5) := (HB.o.trans (HB4.o.mono HB.o.size)).trans (Kp.toBelow (Kp.grown (M := fun y => (Value.slice va m.length vc).ownBlock = some y) hg5 fun k h => h) HSZ2.o fun k hk h => by
     have := (World.ownsRow.lt HST.o.own k h).1; omega)
    clear ho5 hg5 hgn;go_wp2;go_roundw
    case rel => exact ⟨k + 1, by omega, by go_num, HB5.o, m ++ [⟨av, cv, d, (gd l k).i⟩], some ⟨g, 0, none⟩, cap5, by rw [List.length_append]; rfl, by rw [List.length_append]; exact HN.o⟩
    case measure => simp [intOf]; omega
 have hke : k = l.length := by omega
 subst hke
 have HXS : Hid (ordC (m.map fun e => e.xs) = zah (l.map fun e => e.xs) x) := by
  show _ = _
  rw [HST.o.xs, show (l.map fun e => e.xs).take l.length = l.map fun e => e.xs by rw [List.take_of_length_le (by simp)]]
  rfl
 have HSB := lh (HB0.o.trans (HB.o.mono HB0.o.size));have HZ : Hid (w.heap.size <= w0.heap.size) := HB0.o.size;have hml := HST.o.len
 rcases HST.o.own.shape with ⟨hv, h0⟩ | ⟨g, cp, hv, hg1, hg2⟩
 ·simp only [Value.slice.injEq] at hv;obtain ⟨rfl, _, rfl⟩ := hv;subst h0;go_wp2_with fail;refine (zog _).mono ?_;rintro e w2 ⟨rfl, rfl⟩;go_wp2;go_ret;exact ⟨_, [], rfl, OwnL.nil _ _, CsIn.nil _ _ _, fun e h => by simp at h, HXS.o, HSB.o⟩
 simp only [Value.slice.injEq] at hv;obtain ⟨rfl, _, rfl⟩ := hv;have HOR := lh (zjr g vc w0.heap.size m wr HST.o.own HST.o.ins.ok (by omega));have HG1 := lh hg1;clear hg1 hg2;go_wp2_with fail;refine HOR.o.mono ?_;rintro e w2 ⟨l', rfl, hown, hxs, hsub, hkp⟩;have HO2 := lh (hown.lower HZ.o)
 have HC2 : Hid (CsIn w2 w.heap.size (.slice (some ⟨g, 0, none⟩) l'.length vc) l') := by
  have h1 := (HST.o.ins.sub hsub).kept (hkp.mono fun k _ h => by rw [h]; rfl) (v' := .slice (some ⟨g, 0, none⟩) l'.length vc) (fun k h => .inl h)
  exact fun e he => let ⟨a1, a2, a3, a4⟩ := h1 e he; ⟨a1, a2, a3, fun p hp => ⟨Nat.le_trans HZ.o (a4 p hp).1, (a4 p hp).2⟩⟩
 have HAT : Hid (GvAt x l l') := fun e he => HST.o.at' e (hsub e he)
 have HNF : Hid ((l'.map fun e => e.xs) = zah (l.map fun e => e.xs) x) := by
  show _ = _
  rw [hxs, HXS.o]
 have HBB := lh (HSB.o.trans (hkp.fresh (Nat.le_trans HZ.o HG1.o) HSB.o.size));clear hown hxs hsub hkp;go_wp2;go_ret;exact ⟨_, l', rfl, HO2.o, HC2.o, HAT.o, HNF.o, HBB.o⟩
end Go.Proofs.YtlleofjjdhfgcaaGreatDoor
namespace Cen
def zcc (c : Cl) : List UInt8 := c.flatMap zdl ++ [48]
def keyC (l : List Cl) : List UInt8 := l.flatMap zcc
theorem zkc (u : Nat) : u ≠ 0 -> (Go.Lib.decDigits u).head? ≠ some 48 := by
 induction u using Nat.strongRecOn with
 | _ u ih =>
   intro hu;rw [Go.Lib.decDigits]
   split
   ·rename_i h
    intro e;simp only [List.head?_cons, Option.some.injEq] at e;have := congrArg UInt8.toNat e;rw [zdf h] at this;have h48 : (48 : UInt8).toNat = 48 := rfl;omega
   rename_i h
   have h2 := ih (u / 10) (by omega) (by omega);have h3 := zhm (u / 10)
   cases hd : Go.Lib.decDigits (u / 10) with
   | nil => exact absurd hd h3
   | cons y t => rw [hd] at h2; simpa using h2
theorem zn0 {x : Int} (h : x ≠ 0) (r : List UInt8) : (zdl x ++ r).head? ≠ some 48 := by
 unfold zdl Go.Lib.itoa
 split
 ·simp
 have h2 := zkc x.toNat (by omega);have h3 := zhm x.toNat
 cases hd : Go.Lib.decDigits x.toNat with
 | nil => exact absurd hd h3
 | cons y t => rw [hd] at h2; simpa using h2
theorem zn2 : ∀ {c d : Cl} {r s : List UInt8}, (0 ∉ c) -> (0 ∉ d) -> zcc c ++ r = zcc d ++ s -> c = d /\ r = s
 | [], [], r, s, _, _, h => by simpa [zcc] using h
 | [], y :: d, r, s, _, hd, h => by
   have h1 := congrArg List.head? h;simp only [zcc, List.flatMap_nil, List.nil_append, List.flatMap_cons, List.append_assoc, List.singleton_append, List.head?_cons] at h1;exact absurd h1.symm (zn0 (fun e => hd (by simp [e])) _)
 | x :: c, [], r, s, hc, _, h => by
   have h1 := congrArg List.head? h;simp only [zcc, List.flatMap_nil, List.nil_append, List.flatMap_cons, List.append_assoc, List.singleton_append, List.head?_cons] at h1;exact absurd h1 (zn0 (fun e => hc (by simp [e])) _)
 | x :: c, y :: d, r, s, hc, hd, h => by
   have h' : zdl x ++ (zcc c ++ r) = zdl y ++ (zcc d ++ s) := by simpa [zcc] using h
   obtain ⟨h1, h2⟩ := zu4 h';simp only [List.mem_cons, not_or] at hc hd;obtain ⟨h3, h4⟩ := zn2 hc.2 hd.2 h2;exact ⟨by rw [h1, h3], h4⟩
theorem zrd (c : Cl) : zcc c ≠ [] := by simp [zcc]
theorem zrc : ∀ {l m : List Cl}, (∀ c ∈ l, 0 ∉ c) -> (∀ c ∈ m, 0 ∉ c) -> keyC l = keyC m -> l = m
 | [], [], _, _, _ => rfl
 | [], d :: m, _, _, h => by
   simp only [keyC, List.flatMap_nil, List.flatMap_cons] at h;exact absurd (List.append_eq_nil_iff.1 h.symm).1 (zrd d)
 | c :: l, [], _, _, h => by
   simp only [keyC, List.flatMap_nil, List.flatMap_cons] at h;exact absurd (List.append_eq_nil_iff.1 h).1 (zrd c)
 | c :: l, d :: m, hl, hm, h => by
   simp only [keyC, List.flatMap_cons] at h;obtain ⟨h1, h2⟩ := zn2 (hl c (by simp)) (hm d (by simp)) h;rw [h1, zrc (fun x hx => hl x (by simp [hx])) (fun x hx => hm x (by simp [hx])) h2]
theorem zu8 {c : Cl} (h : ∀ x ∈ c, -65536 <= x /\ x <= 65536) : (zcc c).length <= 21 * c.length + 1 := by
 have := zxh c h;unfold zcc; simp only [List.length_append, List.length_singleton]; omega
end Cen
