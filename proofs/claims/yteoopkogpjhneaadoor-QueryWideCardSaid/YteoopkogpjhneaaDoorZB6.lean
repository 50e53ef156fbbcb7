/- Part of the proofs that laws of censuslaw38 return true for every input, where the tables that the rows list are laid. Texts: Wide. -/
import Derived.Test.YteoopkogpjhneaaDoorZA19
import Derived.Test.YteoopkogpjhneaaDoorZB5
import Derived.Test.YteoopkogpjhneaaDoorZA20
import Derived.Deep.DeepCutAuto
import Derived.Deep.CutRange

/- The walk of QueryWide. -/
namespace Go.Proofs.YteoopkogpjhneaaDoor
open Go.RowKit Cen
set_option maxHeartbeats 4000000
set_option maxRecDepth 100000
theorem wup0 {W0 W w' : World} (h : Below W0.heap.size W0 W) (hb : Below W.heap.size W w') : Below W0.heap.size W0 w' := h.trans (hb.mono h.size)
theorem wup1 {W0 W w' : World} {o : Obj} (h : Below W0.heap.size W0 W) (hb : Below (W.alloc o).heap.size (W.alloc o) w') : Below W0.heap.size W0 w' := (h.alloc h.size o).trans (hb.mono (h.alloc h.size o).size)
theorem wlast3 {p q r : Prop} (h : p ∧ q ∧ r) : r := h.2.2
theorem eq_setsW (a b : Int) (w : World) : (Op.equalIn 10000 36 (.agg #[.int .u64 a, .int .u64 b]) (.agg #[.int .u64 a, .int .u64 b])).run Tryd.prog w = .ok true w := by
  rw [run_equalIn_set 9998]; simp
def WCut (A B : Int) (wp : World) (sx sy : Value) (wx : World) : Prop := sy = .bool true ∧ Below wp.heap.size wp wx ∧ ∃ b, sx = .pointer (some ⟨b, 0, none⟩) ∧ Blk wx b #[.int .u64 A, .int .u64 B] 36
theorem wide_zero (n0 v0 : Int) (low : Bool) (w : World) (h0 : 0 ≤ n0) (h1 : n0 ≤ 255) (hm : n0 % 129 = 0) (ht : Tab w) :
    Calls Tryd.prog 3 #[.int .u8 n0, .bool low, .int .u8 v0] w fun e w' => e = .returned (.bool true) ∧ Below w.heap.size w w' := by
  have HW := Lib.hid (works_any w ht)
  clear ht
  go_enter Tryd.func3, Tryd.ntmps3
  go_wp2_with fail
  refine HW.out.mono ?_
  rintro e w1 ⟨rfl, hb1⟩
  go_wp2
  go_ret
  exact ⟨rfl, hb1⟩
theorem wide_pos (n0 v0 : Int) (M : Nat) (w : World) (h0 : 0 ≤ n0) (h1 : n0 ≤ 255) (hv0 : 0 ≤ v0) (hv1 : v0 ≤ 255) (hm : n0 % 129 = (M : Int)) (hM1 : 1 ≤ M) (hM2 : M ≤ 128) (ht : Tab w) :
    Calls Tryd.prog 3 #[.int .u8 n0, .bool false, .int .u8 v0] w fun e w' => e = .returned (.bool true) ∧ Below w.heap.size w w' := by
  have HT := Lib.hid ht
  have HW := Lib.hid (fun V (hb : Below w.heap.size w V) => works_any V (ht.keep hb))
  have hM0 : ((M : Int) == 0) = false := by simp; omega
  have hMn : (M : Int) ≠ 0 := by omega
  clear ht
  go_enter Tryd.func3, Tryd.ntmps3
  go_wp2
  generalize hg : n0 % 129 = mm
  obtain rfl : mm = (M : Int) := hg.symm.trans hm
  clear hm h0 h1 hg
  go_loopw [10, 11, 12] (fun iv ll kv wr => ∃ (k : Nat) (v : Int) (lv : Value), kv = .int .i64 v ∧ (k : Int) + 1 ≤ v ∧ v ≤ (k : Int) + 1 ∧ k ≤ M ∧ W1 wr w.heap.size M lv iv ll (leafs (wAllP 1 k)) (wIn k) (wLits 1 k) ∧ Below w.heap.size w wr) (fun _ _ kv _ => ((M : Int) + 1 - intOf kv).toNat)
  case atStart => exact ⟨0, 1, _, rfl, by omega, by omega, by omega, W1.start w M, (Below.refl _ _).alloc (Nat.le_refl _) _⟩
  case round =>
    obtain ⟨k, v, lv, rfl, hv1, hv2, hkM, hI, hB⟩ := hrel
    have HI := Lib.hid hI
    have HB := Lib.hid hB
    clear hI hB
    by_cases hlt : v ≤ (M : Int)
    · have c1 : wr.cell? ⟨w.heap.size, 1, none⟩ = some lv := HI.out.box.cell 1
      have hkl : k < M := by omega
      have HL1 : Hid ((leafs (wAllP 1 k)).length + 1 ≤ 1073741824) := by show _ ≤ _; simp [leafs, wAllP]; omega
      have HL2 : Hid ((wIn k).length + 1 ≤ 1073741824) := by show _ ≤ _; simp [wIn]; omega
      have HL3 : Hid ((wLits 1 k).length + 1 ≤ 1073741824) := by show _ ≤ _; simp [wLits]; omega
      have HZ : Hid (w.heap.size + 1 ≤ wr.heap.size) := by show _ ≤ _; have := HI.out.box.lt; omega
      go_wp2_with (at_builtin; refine appNL elemNd rfl _ _ rfl (w.heap.size + 1) lv _ [(⟨2, v, []⟩, .slice none 0 0)] rfl (OwnL.alloc HI.out.nds _) wr.heap.size 1 rfl rfl (by omega) ndc_len (fun j u hj => by rw [(Blk.new wr _ _).cell j, ← Array.getElem?_toList]; exact hj) (by simp [ndc, Value.oneCell']) HL1.out (by decide) (by simp only [World.size_alloc]; have := HZ.out; omega) ?_)
      intro g1 cap1 w1 ho1 hg1 hf1
      have HA1 := Lib.hid ((Below.refl wr.heap.size wr).alloc (Nat.le_refl _) (.cells #[.int .i64 2, .int .i64 v, .slice none 0 0] 28))
      have HI1 := Lib.hid (HI.out.app_nd HA1.out hg1 (hf1.imp id (fun e => by omega)) ho1)
      have b1 := HI.out.box_nd HA1.out hg1
      have hz1 : w.heap.size < w1.heap.size := b1.lt
      have fr1 := b1.fr 1
      have d1 : w1.cell? ⟨w.heap.size, 1, none⟩ = some lv := b1.cell 1
      have HB1 := Lib.hid (below_nd (HB.out.alloc (by have := HZ.out; omega) (.cells #[.int .i64 2, .int .i64 v, .slice none 0 0] 28)) (by simp only [World.size_alloc]; have := HZ.out; omega) hg1 (fun g hg => by have := (HI.out.nds.ownlt hg).1; omega) (.slice (some ⟨g1, 0, none⟩) ((leafs (wAllP 1 k)).length + 1) cap1))
      have HZ1 : Hid (w.heap.size + 1 ≤ w1.heap.size) := hz1
      clear ho1 hg1 hf1 b1 HA1
      have HE1 : Hid (leafs (wAllP 1 (k + 1)) = leafs (wAllP 1 k) ++ [(⟨2, v, []⟩, .slice none 0 0)]) := by
        show _ = _; rw [wAllP_succ, leafs_snoc, show 1 * ((k : Int) + 1) = v by omega]
      have HE2 : Hid (wIn (k + 1) = wIn k ++ [v - 1]) := by show _ = _; rw [wIn_succ, show (k : Int) = v - 1 by omega]
      have HE3 : Hid (wLits 1 (k + 1) = wLits 1 k ++ [v]) := by show _ = _; rw [wLits_succ, show 1 * ((k : Int) + 1) = v by omega]
      go_wp2_with (at_builtin; refine appNL elemI1 rfl _ _ rfl (w.heap.size + 1) u10 _ [v - 1] rfl (OwnL.alloc HI1.out.ins _) _ 1 rfl rfl (by omega) I1_len (fun j u hj => ?_) (by simp [I1, Value.oneCell']) HL2.out (by decide) ?_ ?_)
      · rw [(Blk.new' (w1.setCell _ _) (World.size_setCell' _ _ _) _ _).cell j, ← Array.getElem?_toList]; exact hj
      · simp only [World.size_alloc, World.size_setCell']; have := HZ1.out; omega
      intro g2 cap2 w2 ho2 hg2 hf2
      have HA2 := Lib.hid ((Below.refl _ (w1.setCell ⟨w.heap.size, 1, none⟩ (.slice (some ⟨g1, 0, none⟩) ((leafs (wAllP 1 k)).length + 1) cap1))).alloc (Nat.le_refl _) (.cells #[.int .i64 (v - 1)] 3))
      have HI2 := Lib.hid (HI1.out.app_in HA2.out hg2 (hf2.imp id (fun e => by rw [World.size_setCell']; omega)) ho2)
      have HB2 : Hid (Below w.heap.size w w2) := (HB1.out.alloc (by rw [World.size_setCell']; have := HZ1.out; omega) _).grown hg2 (by simp only [World.size_alloc, World.size_setCell']; have := HZ1.out; omega) (fun g hg => by have := (HI1.out.ins.ownlt hg).1; omega)
      have HZ2 : Hid (w.heap.size + 1 ≤ w2.heap.size) := by show _ ≤ _; have := HI2.out.box.lt; omega
      clear ho2 hg2 hf2 HA2
      go_wp2_with (at_builtin; refine appNL elemI1 rfl _ _ rfl (w.heap.size + 1) u11 _ [v] rfl (OwnL.alloc HI2.out.lit _) w2.heap.size 1 rfl rfl (by omega) I1_len (fun j u hj => ?_) (by simp [I1, Value.oneCell']) HL3.out (by decide) ?_ ?_)
      · rw [(Blk.new w2 _ _).cell j, ← Array.getElem?_toList]; exact hj
      · simp only [World.size_alloc]; have := HZ2.out; omega
      intro g3 cap3 w3 ho3 hg3 hf3
      have HA3 := Lib.hid ((Below.refl _ w2).alloc (Nat.le_refl _) (.cells #[.int .i64 v] 3))
      have HI3 := Lib.hid (HI2.out.app_lit HA3.out hg3 (hf3.imp id (fun e => by omega)) ho3)
      have HB3 : Hid (Below w.heap.size w w3) := (HB2.out.alloc (by have := HZ2.out; omega) _).grown hg3 (by simp only [World.size_alloc]; have := HZ2.out; omega) (fun g hg => by have := (HI2.out.lit.ownlt hg).1; omega)
      clear ho3 hg3 hf3 HA3
      go_wp2
      go_roundw
      case rel => exact ⟨k + 1, v + 1, _, rfl, by omega, by omega, by omega, by rw [HE1.out, HE2.out, HE3.out]; exact HI3.out, HB3.out⟩
      case measure => simp [intOf]; omega
    · have HCN : Hid (k = M) := by show _ = _; omega
      obtain rfl : M = k := HCN.out.symm
      obtain ⟨wo, rfl⟩ : ∃ wo : World, wo = wr := ⟨_, rfl⟩
      have HZ : Hid (w.heap.size + 1 ≤ wo.heap.size) := by show _ ≤ _; have := HI.out.box.lt; omega
      clear HCN
      go_wp2
      go_loopw [14] (fun kv wq => ∃ (j : Nat) (x : Int) (bv : Value) (LL : List (Nd × Value)), kv = .int .i64 x ∧ (M : Int) - 1 - j ≤ x ∧ x ≤ (M : Int) - 1 - j ∧ j < M ∧ W2 wq wo.heap.size M bv LL ∧ LL.map Prod.fst = wAny 1 M j ∧ Below wo.heap.size wo wq) (fun kv _ => (intOf kv).toNat)
      case atStart => exact ⟨0, (M : Int) - 1, _, _, rfl, by omega, by omega, by omega, W2.start wo M M, by simp [wAny], ((Below.refl _ _).alloc (Nat.le_refl _) _).alloc (by simp) _⟩
      case round =>
        obtain ⟨j, x, bv, LL, rfl, hx1, hx2, hjM, hJ, hLL, hC⟩ := hrel
        have hlen : LL.length = 4 * j + 1 := by rw [← wAny_length 1 M j, ← hLL, List.length_map]
        have hrow := hJ.nds
        rcases hrow.shape with ⟨_, he⟩ | ⟨g, cap, rfl, hg0, hg1⟩
        · rw [he] at hlen; simp at hlen
        have HJ := Lib.hid hJ
        have HC := Lib.hid hC
        have HLL := Lib.hid hLL
        generalize hn : LL.length = n at *
        have hn1 : 4 * j + 1 ≤ n := by omega
        have hn2 : n ≤ 4 * j + 1 := by omega
        have HN := Lib.hid hn
        have HZJ : Hid (wo.heap.size + 1 < wr.heap.size) := HJ.out.box.lt
        clear hJ hC hLL hrow hlen hn
        by_cases hlt2 : 1 ≤ x
        · have hxw : Hid (1 * ((M : Int) - 1 - j) = x) := by show _ = _; omega
          have c1 : wr.cell? ⟨wo.heap.size + 1, 1, none⟩ = some (.slice (some ⟨g, 0, none⟩) n cap) := HJ.out.box.cell 1
          have z1 : wo.heap.size + 1 < wr.heap.size := HZJ.out
          have z0 : wo.heap.size < wr.heap.size := by omega
          go_wp2_with (at_builtin; refine appNL elemNd rfl _ _ rfl wo.heap.size (.slice (some ⟨g, 0, none⟩) n cap) LL (ys4 x j wr.heap.size) rfl (OwnL.alloc (OwnL.alloc (OwnL.alloc HJ.out.nds _) _) _) _ 4 rfl rfl (by omega) ndc_len (fun i u hj => ?_) ?_ ?_ (by decide) ?_ ?_)
          · rw [(Blk.new' ((wr.alloc _).alloc _) (by simp only [World.size_alloc]) _ _).cell i, ← Array.getElem?_toList]
            simpa [ys4, ndc] using hj
          · simp [ys4, ndc, Value.oneCell']
          · have := HN.out; omega
          · simp only [World.size_alloc]; omega
          intro g2 cap2 w2 ho2 hg2 hf2
          have HA := Lib.hid ((((Below.refl wr.heap.size wr).alloc (Nat.le_refl _) (.cells #[.int .i64 ((n : Int) - 1), .int .i64 ((n : Int) - 1 + 2)] 3)).alloc (by simp only [World.size_alloc]; omega) (.cells #[.int .i64 (n : Int), .int .i64 ((n : Int) - 1 + 3)] 3)).alloc (by simp only [World.size_alloc]; omega) (.cells #[.int .i64 2, .int .i64 x, .slice none 0 0, .int .i64 2, .int .i64 (-x), .slice none 0 0, .int .i64 3, .int .i64 0, .slice (some ⟨wr.heap.size, 0, none⟩) 2 2, .int .i64 4, .int .i64 0, .slice (some ⟨wr.heap.size + 1, 0, none⟩) 2 2] 28))
          have HJ2 := Lib.hid (HJ.out.app HA.out hg2 (by simpa [Value.ownBlock] using hf2) ho2 (ys4_ins (by omega) (by omega) (by omega) (by omega)))
          have b2 := HJ.out.box_nd HA.out hg2
          have HC2 : Hid (Below wo.heap.size wo w2) := (HC.out.trans (HA.out.mono (by omega))).grown hg2 (by simp only [World.size_alloc]; omega) (fun q hq => by have := (HJ.out.nds.ownlt hq).1; omega)
          have hz2 : wo.heap.size + 1 < w2.heap.size := b2.lt
          have fr2 := b2.fr 1
          have d2 : w2.cell? ⟨wo.heap.size + 1, 1, none⟩ = some (.slice (some ⟨g, 0, none⟩) n cap) := b2.cell 1
          clear ho2 hg2 hf2 HA b2
          go_wp2
          go_roundw
          case rel => exact ⟨j + 1, x - 1, _, _, rfl, by omega, by omega, by omega, HJ2.out, wAny_step HLL.out hxw.out, HC2.out.setCell (show wo.heap.size ≤ wo.heap.size + 1 by omega) _⟩
          case measure => simp [intOf]; omega
        · have HJM : Hid (j + 1 = M) := by show _ = _; omega
          have HLB : Hid (LL.map Prod.fst = wAny 1 M (M - 1)) := by show _ = _; rw [show M - 1 = j by have := HJM.out; omega]; exact HLL.out
          have HI2 := Lib.hid (HI.out.later HC.out)
          have HB2 : Hid (Below w.heap.size w wr) := HB.out.trans (HC.out.mono (by have := HZ.out; omega))
          obtain ⟨ai, ci, hai, _⟩ := (ownInts_I1.2 HI.out.ins).cells
          obtain ⟨al, cl, hal, _⟩ := (ownInts_I1.2 HI.out.lit).cells
          subst hai
          subst hal
          have c1 : wr.cell? ⟨w.heap.size, 1, none⟩ = some lv := HI2.out.box.cell 1
          have HZ2 : Hid (w.heap.size + 1 ≤ wr.heap.size ∧ wo.heap.size ≤ wr.heap.size) := ⟨by have := HI2.out.box.lt; omega, HC.out.size⟩
          go_wp2_with (at_builtin; refine appNL elemNd rfl _ _ rfl (w.heap.size + 1) lv _ [(⟨3, 0, wIn M⟩, .slice ai (wIn M).length ci)] rfl (OwnL.alloc HI2.out.nds _) wr.heap.size 1 rfl rfl (by omega) ndc_len (fun i u hj => by rw [(Blk.new wr _ _).cell i, ← Array.getElem?_toList]; exact hj) (by simp [ndc, Value.oneCell']) (by simp [leafs, wAllP]; omega) (by decide) (by simp only [World.size_alloc]; have := HZ2.out; omega) ?_)
          intro g4 cap4 w4 ho4 hg4 hf4
          have HNL : Hid ((wAll 1 M).length = (leafs (wAllP 1 M)).length + 1) := by show _ = _; simp [leafs, wAll, wAllP]
          generalize (leafs (wAllP 1 M)).length + 1 = NA at *
          have HA4 := Lib.hid ((Below.refl wr.heap.size wr).alloc (Nat.le_refl _) (.cells #[.int .i64 3, .int .i64 0, .slice ai (wIn M).length ci] 28))
          have HI4 := Lib.hid (HI2.out.app_nd HA4.out hg4 (hf4.imp id (fun e => by omega)) ho4)
          have b4 := HI2.out.box_nd HA4.out hg4
          have z4 : w.heap.size < w4.heap.size := b4.lt
          have fr4 := b4.fr 1
          have d4 : w4.cell? ⟨w.heap.size, 1, none⟩ = some lv := b4.cell 1
          have d40 : w4.cell? ⟨w.heap.size, 0, none⟩ = some (.int .i64 (M : Int)) := b4.cell 0
          have hu0 : 0 ≤ v0 % (M : Int) := Int.emod_nonneg _ hMn
          have hu1 : v0 % (M : Int) < (M : Int) := Int.emod_lt_of_pos _ (by omega)
          have HK4 : Hid (Kp (fun y => lv.ownBlock = some y ∨ y = w.heap.size) wr (w4.setCell ⟨w.heap.size, 1, none⟩ (.slice (some ⟨g4, 0, none⟩) NA cap4))) :=
            ((Kp.below HA4.out).trans (Kp.grown hg4 fun y hy => .inl hy.symm.symm)).trans (Kp.setCell _ _ _ (.inr rfl))
          have HJ4 := Lib.hid (HJ.out.kept HK4.out (fun k e => by have := HZ.out; rcases e with e | e; exact (HI.out.nds.ownlt e).2; omega))
          have HB0 : Hid (Below w.heap.size w (w4.setCell ⟨w.heap.size, 1, none⟩ (.slice (some ⟨g4, 0, none⟩) NA cap4))) :=
            ((HB2.out.trans (HA4.out.mono HB2.out.size)).grown hg4 (by simp only [World.size_alloc]; have := HZ2.out; omega) (fun q hq => by have := (HI2.out.nds.ownlt hq).1; omega)).setCell (Nat.le_refl _) _
          have XA := Lib.hid (HI4.out.read hM2 HNL.out)
          have XB := Lib.hid (HJ4.out.read (.inl rfl) hM2 hM1 HLB.out HN.out)
          have XL := Lib.hid (own_ints HI4.out.lit)
          have QA := Lib.hid HI4.out.box
          have QB := Lib.hid HJ4.out.box
          have HNB : Hid ((wAny 1 M (M - 1)).length = n) := by show _ = _; rw [← HLB.out, List.length_map]; exact HN.out
          clear ho4 hg4 hf4 HA4 b4 c1
          go_wp2_with fail
          generalize hue : 1 + v0 % (M : Int) = u at *
          have HU1 : Hid (1 ≤ u) := by show _ ≤ _; omega
          have HU2 : Hid (u ≤ (M : Int)) := by show _ ≤ _; omega
          have HS : 1 = (1 : Int) ∨ 1 = (-1 : Int) := (.inl rfl)
          have HK : Hid (1 * u = u) := by show _ = _; omega
          have HNK : Hid (-(1 * u) = (-u)) := by show _ = _; omega
          have hlA : (wAll 1 M).length ≤ 1073741824 := by rw [wAll_length]; omega
          have hlB : (wAny 1 M (M - 1)).length ≤ 1073741824 := by rw [wAny_length]; omega
          have hlL : (wLits 1 M).length ≤ 1073741824 := by simp [wLits]; omega
          have sA := wAll_small HS hM2
          have sB := wAny_small HS hM2 hM1
          have e9 : cntR ⟨M, (wAll 1 M)⟩ ⟨M, (wAny 1 M (M - 1))⟩ = none := by have := wide_no HS hM2 hM1; simpa using this
          obtain ⟨lw, ey1, ey2⟩ := wide_yes HS hM2 hM1
          have HTV : Hid (∀ V, Below (w4.setCell ⟨w.heap.size, 1, none⟩ (.slice (some ⟨g4, 0, none⟩) NA cap4)).heap.size (w4.setCell ⟨w.heap.size, 1, none⟩ (.slice (some ⟨g4, 0, none⟩) NA cap4)) V → Tab V) := fun V hV => HT.out.keep (wup0 HB0.out hV)
          rw [show wWant 1 M = St.zero from if_pos rfl] at ey2
          have H1 : Hid (∀ V, Below (w4.setCell ⟨w.heap.size, 1, none⟩ (.slice (some ⟨g4, 0, none⟩) NA cap4)).heap.size (w4.setCell ⟨w.heap.size, 1, none⟩ (.slice (some ⟨g4, 0, none⟩) NA cap4)) V → Calls Tryd.prog 6 #[.agg #[.int .i64 (M : Int), .slice (some ⟨g4, 0, none⟩) NA cap4]] V fun e w' => e = .returned (.tuple #[.bool true, .int .i64 0]) ∧ Below V.heap.size V w') := Lib.hid fun V hV => by
            have h := consistent_any (M : Int) (some ⟨g4, 0, none⟩) cap4 (wAll 1 M) V (XA.out.keep hV) hlA (fun _ => sA) (HTV.out V hV)
            rw [wide_a HS hM2, wChkA HS hM2 (by simp), HNL.out] at h; exact h
          have H2 : Hid (∀ V, Below (w4.setCell ⟨w.heap.size, 1, none⟩ (.slice (some ⟨g4, 0, none⟩) NA cap4)).heap.size (w4.setCell ⟨w.heap.size, 1, none⟩ (.slice (some ⟨g4, 0, none⟩) NA cap4)) V → ∀ c, IntCells V (some ⟨c, 0, none⟩) [u] → Calls Tryd.prog 7 #[.agg #[.int .i64 (M : Int), .slice (some ⟨g4, 0, none⟩) NA cap4], .slice (some ⟨c, 0, none⟩) 1 1] V fun e w' => e = .returned (.tuple #[.bool true, .int .i64 0]) ∧ Below V.heap.size V w') := Lib.hid fun V hV c hc => by
            have h := entails_any (M : Int) (some ⟨g4, 0, none⟩) cap4 (wAll 1 M) (some ⟨c, 0, none⟩) 1 [u] V (XA.out.keep hV) hlA hc (by simp) (fun _ => sA) (HTV.out V hV)
            have e1 := wide_b HS hM2 HU1.out HU2.out
            have e2 := wChkA HS hM2 (one_ok' HS hM2 HU1.out HU2.out)
            rw [HK.out] at e1 e2
            rw [e1, e2, HNL.out] at h; exact h
          have H3 : Hid (∀ V, Below (w4.setCell ⟨w.heap.size, 1, none⟩ (.slice (some ⟨g4, 0, none⟩) NA cap4)).heap.size (w4.setCell ⟨w.heap.size, 1, none⟩ (.slice (some ⟨g4, 0, none⟩) NA cap4)) V → Calls Tryd.prog 8 #[.agg #[.int .i64 (M : Int), .slice (some ⟨g4, 0, none⟩) NA cap4], .slice al (wLits 1 M).length cl] V fun e w' => e = .returned (.tuple #[.bool true, .int .i64 0]) ∧ Below V.heap.size V w') := Lib.hid fun V hV => by
            have h := implies_any (M : Int) (some ⟨g4, 0, none⟩) cap4 (wAll 1 M) al cl (wLits 1 M) V (XA.out.keep hV) hlA (XL.out.keep hV) hlL (fun _ => sA) (cost_c HS hM2) (HTV.out V hV)
            rw [wide_c HS hM2, wChkA HS hM2 (wLits_ok HS hM2), HNL.out] at h; exact h
          have H4 : Hid (∀ V, Below (w4.setCell ⟨w.heap.size, 1, none⟩ (.slice (some ⟨g4, 0, none⟩) NA cap4)).heap.size (w4.setCell ⟨w.heap.size, 1, none⟩ (.slice (some ⟨g4, 0, none⟩) NA cap4)) V → ∀ c, IntCells V (some ⟨c, 0, none⟩) [u] → Calls Tryd.prog 8 #[.agg #[.int .i64 (M : Int), .slice (some ⟨g, 0, none⟩) n cap], .slice (some ⟨c, 0, none⟩) 1 1] V fun e w' => e = .returned (.tuple #[.bool true, .int .i64 0]) ∧ Below V.heap.size V w') := Lib.hid fun V hV c hc => by
            have e0 := cost_d HS hM2 hM1 HU1.out HU2.out
            have e1 := wide_d HS hM2 hM1 HU1.out HU2.out
            have e2 := wChkB HS hM2 hM1 (one_ok' HS hM2 HU1.out HU2.out)
            rw [HK.out] at e0 e1 e2
            have h := implies_any (M : Int) (some ⟨g, 0, none⟩) cap (wAny 1 M (M - 1)) (some ⟨c, 0, none⟩) 1 [u] V (XB.out.keep hV) hlB hc (by simp) (fun _ => sB) e0 (HTV.out V hV)
            rw [e1, e2, HNB.out] at h; exact h
          have H5 : Hid (∀ V, Below (w4.setCell ⟨w.heap.size, 1, none⟩ (.slice (some ⟨g4, 0, none⟩) NA cap4)).heap.size (w4.setCell ⟨w.heap.size, 1, none⟩ (.slice (some ⟨g4, 0, none⟩) NA cap4)) V → ∀ c, IntCells V (some ⟨c, 0, none⟩) [(-u)] → Calls Tryd.prog 8 #[.agg #[.int .i64 (M : Int), .slice (some ⟨g, 0, none⟩) n cap], .slice (some ⟨c, 0, none⟩) 1 1] V fun e w' => e = .returned (.tuple #[.bool false, .int .i64 0]) ∧ Below V.heap.size V w') := Lib.hid fun V hV c hc => by
            have e0 := cost_e HS hM2 hM1 HU1.out HU2.out
            have e1 := wide_e HS hM2 hM1 HU1.out HU2.out
            have e2 := wChkB HS hM2 hM1 (one_ng' HS hM2 HU1.out HU2.out)
            rw [HNK.out] at e0 e1 e2
            have h := implies_any (M : Int) (some ⟨g, 0, none⟩) cap (wAny 1 M (M - 1)) (some ⟨c, 0, none⟩) 1 [(-u)] V (XB.out.keep hV) hlB hc (by simp) (fun _ => sB) e0 (HTV.out V hV)
            rw [e1, e2, HNB.out] at h; exact h
          have H6 : Hid (∀ V, Below (w4.setCell ⟨w.heap.size, 1, none⟩ (.slice (some ⟨g4, 0, none⟩) NA cap4)).heap.size (w4.setCell ⟨w.heap.size, 1, none⟩ (.slice (some ⟨g4, 0, none⟩) NA cap4)) V → Calls Tryd.prog 7 #[.agg #[.int .i64 (M : Int), .slice (some ⟨g, 0, none⟩) n cap], .slice al (wLits 1 M).length cl] V fun e w' => e = .returned (.tuple #[.bool true, .int .i64 0]) ∧ Below V.heap.size V w') := Lib.hid fun V hV => by
            have h := entails_any (M : Int) (some ⟨g, 0, none⟩) cap (wAny 1 M (M - 1)) al cl (wLits 1 M) V (XB.out.keep hV) hlB (XL.out.keep hV) hlL (fun _ => sB) (HTV.out V hV)
            rw [wide_f HS hM2 hM1, wChkB HS hM2 hM1 (wLits_ok HS hM2), HNB.out] at h; exact h
          have H7 : Hid (∀ V, Below (w4.setCell ⟨w.heap.size, 1, none⟩ (.slice (some ⟨g4, 0, none⟩) NA cap4)).heap.size (w4.setCell ⟨w.heap.size, 1, none⟩ (.slice (some ⟨g4, 0, none⟩) NA cap4)) V → Calls Tryd.prog 9 #[.agg #[.int .i64 (M : Int), .slice (some ⟨g4, 0, none⟩) NA cap4]] V fun e w' => e = .returned (.tuple #[.bool false, .int .i64 0]) ∧ Below V.heap.size V w') := Lib.hid fun V hV => by
            have h := valid_any (M : Int) (some ⟨g4, 0, none⟩) cap4 (wAll 1 M) V (XA.out.keep hV) hlA (fun _ => sA) (cost_g HS hM2 hM1) (HTV.out V hV)
            rw [wide_g HS hM2 hM1, wChkA HS hM2 (by simp), HNL.out] at h; exact h
          have H8 : Hid (∀ V, Below (w4.setCell ⟨w.heap.size, 1, none⟩ (.slice (some ⟨g4, 0, none⟩) NA cap4)).heap.size (w4.setCell ⟨w.heap.size, 1, none⟩ (.slice (some ⟨g4, 0, none⟩) NA cap4)) V → Calls Tryd.prog 10 #[.agg #[.int .i64 (M : Int), .slice (some ⟨g4, 0, none⟩) NA cap4], .agg #[.int .i64 (M : Int), .slice (some ⟨g, 0, none⟩) n cap]] V fun e w' => e = .returned (.tuple #[.bool (decide (M = 1)), .int .i64 0]) ∧ Below V.heap.size V w') := Lib.hid fun V hV => by
            have h := same2_any (M : Int) (M : Int) (some ⟨g4, 0, none⟩) (some ⟨g, 0, none⟩) cap4 cap (wAll 1 M) (wAny 1 M (M - 1)) V (XA.out.keep hV) (XB.out.keep hV) hlA hlB (fun _ => sA) (fun _ => sB) ⟨cost_AB HS hM2 hM1, fun hc2 => cost_BA HS hM2 hM1 (chk2_symm hc2)⟩ (HTV.out V hV)
            rw [wide_same HS hM2 hM1, wChk2 HS hM2 hM1, HNL.out, HNB.out] at h; exact h
          have H9 : Hid (∀ V, Below (w4.setCell ⟨w.heap.size, 1, none⟩ (.slice (some ⟨g4, 0, none⟩) NA cap4)).heap.size (w4.setCell ⟨w.heap.size, 1, none⟩ (.slice (some ⟨g4, 0, none⟩) NA cap4)) V → Calls Tryd.prog 11 #[.agg #[.int .i64 (M : Int), .slice (some ⟨g4, 0, none⟩) NA cap4], .agg #[.int .i64 (M : Int), .slice (some ⟨g, 0, none⟩) n cap]] V fun e w' => e = .returned (.tuple #[.agg #[.int .u64 0, .int .u64 0], .bool false, .int .i64 0]) ∧ Below V.heap.size V w') := Lib.hid fun V hV => by
            have h := counter2_any (M : Int) (M : Int) (some ⟨g4, 0, none⟩) (some ⟨g, 0, none⟩) cap4 cap (wAll 1 M) (wAny 1 M (M - 1)) V (XA.out.keep hV) (XB.out.keep hV) hlA hlB (fun _ => sA) (fun _ => sB) (cost_AB HS hM2 hM1) (HTV.out V hV)
            rw [e9, wChk2 HS hM2 hM1, HNL.out, HNB.out] at h; exact h
          have H11 : Hid (∀ V, Below (w4.setCell ⟨w.heap.size, 1, none⟩ (.slice (some ⟨g4, 0, none⟩) NA cap4)).heap.size (w4.setCell ⟨w.heap.size, 1, none⟩ (.slice (some ⟨g4, 0, none⟩) NA cap4)) V → ∀ c, NdCells V (some ⟨c, 0, none⟩) [⟨1, 0, []⟩] → Calls Tryd.prog 11 #[.agg #[.int .i64 (M : Int), .slice (some ⟨c, 0, none⟩) 1 1], .agg #[.int .i64 (M : Int), .slice (some ⟨g4, 0, none⟩) NA cap4]] V fun e w' => e = .returned (.tuple #[.agg #[.int .u64 0, .int .u64 0], .bool true, .int .i64 0]) ∧ Below V.heap.size V w') := Lib.hid fun V hV c hc => by
            have h := counter2_any (M : Int) (M : Int) (some ⟨c, 0, none⟩) (some ⟨g4, 0, none⟩) 1 cap4 [⟨1, 0, []⟩] (wAll 1 M) V hc (XA.out.keep hV) (by simp) hlA (fun _ => true_small 1) (fun _ => sA) (cost_yes HS hM2 hM1) (HTV.out V hV)
            rw [ey1, ey2, wChkT HS hM2 hM1, HNL.out] at h; exact h
          have HWW : Hid (∀ V, Below (w4.setCell ⟨w.heap.size, 1, none⟩ (.slice (some ⟨g4, 0, none⟩) NA cap4)).heap.size (w4.setCell ⟨w.heap.size, 1, none⟩ (.slice (some ⟨g4, 0, none⟩) NA cap4)) V → Calls Tryd.prog 5 #[] V fun e w' => e = .returned (.bool true) ∧ Below V.heap.size V w') := Lib.hid fun V hV => HW.out V (wup0 HB0.out hV)
          have hdm : (decide (M = 1) == decide ((M : Int) = 1)) = true := by simp; omega
          have hdm2 : (decide (M = 1) == ((M : Int) == 1)) = true := hdm
          clear hlA hlB hlL sA sB e9 ey1 ey2 HS
          generalize decide (M = 1) = dm at *
          refine (H1.out _ (Below.refl (w4.setCell ⟨w.heap.size, 1, none⟩ (.slice (some ⟨g4, 0, none⟩) NA cap4)).heap.size (w4.setCell ⟨w.heap.size, 1, none⟩ (.slice (some ⟨g4, 0, none⟩) NA cap4)))).mono ?_
          rintro e y1 ⟨rfl, hb1⟩
          have L1 := Lib.hid (wup0 (Below.refl (w4.setCell ⟨w.heap.size, 1, none⟩ (.slice (some ⟨g4, 0, none⟩) NA cap4)).heap.size (w4.setCell ⟨w.heap.size, 1, none⟩ (.slice (some ⟨g4, 0, none⟩) NA cap4))) hb1)
          have QA1 := Lib.hid (QA.out.later L1.out)
          have QB1 := Lib.hid (QB.out.later L1.out)
          clear hb1
          have za : w.heap.size < y1.heap.size := QA1.out.lt
          have zb : wo.heap.size + 1 < y1.heap.size := QB1.out.lt
          have p0 : y1.cell? ⟨w.heap.size, 0, none⟩ = some (.int .i64 (M : Int)) := QA1.out.cell 0
          have p1 : y1.cell? ⟨w.heap.size, 1, none⟩ = some (.slice (some ⟨g4, 0, none⟩) NA cap4) := QA1.out.cell 1
          have I1 : Hid (IntCells (y1.alloc (.cells #[.int .i64 u] 3)) (some ⟨y1.heap.size, 0, none⟩) [u]) := IntCells.one (Blk.new _ _ _)
          have LA1 : Hid (Below (w4.setCell ⟨w.heap.size, 1, none⟩ (.slice (some ⟨g4, 0, none⟩) NA cap4)).heap.size (w4.setCell ⟨w.heap.size, 1, none⟩ (.slice (some ⟨g4, 0, none⟩) NA cap4)) (y1.alloc (.cells #[.int .i64 u] 3))) := L1.out.alloc L1.out.size _
          go_wp2_with fail
          refine (H2.out _ LA1.out _ I1.out).mono ?_
          rintro e y2 ⟨rfl, hb2⟩
          have L2 := Lib.hid (wup1 L1.out hb2)
          clear za zb p0 p1
          have QA2 := Lib.hid (QA.out.later L2.out)
          have QB2 := Lib.hid (QB.out.later L2.out)
          clear hb2
          have za : w.heap.size < y2.heap.size := QA2.out.lt
          have zb : wo.heap.size + 1 < y2.heap.size := QB2.out.lt
          have p0 : y2.cell? ⟨w.heap.size, 0, none⟩ = some (.int .i64 (M : Int)) := QA2.out.cell 0
          have p1 : y2.cell? ⟨w.heap.size, 1, none⟩ = some (.slice (some ⟨g4, 0, none⟩) NA cap4) := QA2.out.cell 1
          go_wp2_with fail
          refine (H3.out _ L2.out).mono ?_
          rintro e y3 ⟨rfl, hb3⟩
          have L3 := Lib.hid (wup0 L2.out hb3)
          clear za zb p0 p1
          have QA3 := Lib.hid (QA.out.later L3.out)
          have QB3 := Lib.hid (QB.out.later L3.out)
          clear hb3
          have za : w.heap.size < y3.heap.size := QA3.out.lt
          have zb : wo.heap.size + 1 < y3.heap.size := QB3.out.lt
          have q0 : y3.cell? ⟨wo.heap.size + 1, 0, none⟩ = some (.int .i64 (M : Int)) := QB3.out.cell 0
          have q1 : y3.cell? ⟨wo.heap.size + 1, 1, none⟩ = some (.slice (some ⟨g, 0, none⟩) n cap) := QB3.out.cell 1
          have I3 : Hid (IntCells (y3.alloc (.cells #[.int .i64 u] 3)) (some ⟨y3.heap.size, 0, none⟩) [u]) := IntCells.one (Blk.new _ _ _)
          have LA3 : Hid (Below (w4.setCell ⟨w.heap.size, 1, none⟩ (.slice (some ⟨g4, 0, none⟩) NA cap4)).heap.size (w4.setCell ⟨w.heap.size, 1, none⟩ (.slice (some ⟨g4, 0, none⟩) NA cap4)) (y3.alloc (.cells #[.int .i64 u] 3))) := L3.out.alloc L3.out.size _
          go_wp2_with fail
          refine (H4.out _ LA3.out _ I3.out).mono ?_
          rintro e y4 ⟨rfl, hb4⟩
          have L4 := Lib.hid (wup1 L3.out hb4)
          clear za zb q0 q1
          have QA4 := Lib.hid (QA.out.later L4.out)
          have QB4 := Lib.hid (QB.out.later L4.out)
          clear hb4
          have za : w.heap.size < y4.heap.size := QA4.out.lt
          have zb : wo.heap.size + 1 < y4.heap.size := QB4.out.lt
          have q0 : y4.cell? ⟨wo.heap.size + 1, 0, none⟩ = some (.int .i64 (M : Int)) := QB4.out.cell 0
          have q1 : y4.cell? ⟨wo.heap.size + 1, 1, none⟩ = some (.slice (some ⟨g, 0, none⟩) n cap) := QB4.out.cell 1
          have I4 : Hid (IntCells (y4.alloc (.cells #[.int .i64 (-u)] 3)) (some ⟨y4.heap.size, 0, none⟩) [(-u)]) := IntCells.one (Blk.new _ _ _)
          have LA4 : Hid (Below (w4.setCell ⟨w.heap.size, 1, none⟩ (.slice (some ⟨g4, 0, none⟩) NA cap4)).heap.size (w4.setCell ⟨w.heap.size, 1, none⟩ (.slice (some ⟨g4, 0, none⟩) NA cap4)) (y4.alloc (.cells #[.int .i64 (-u)] 3))) := L4.out.alloc L4.out.size _
          go_wp2_with fail
          refine (H5.out _ LA4.out _ I4.out).mono ?_
          rintro e y5 ⟨rfl, hb5⟩
          have L5 := Lib.hid (wup1 L4.out hb5)
          clear za zb q0 q1
          have QA5 := Lib.hid (QA.out.later L5.out)
          have QB5 := Lib.hid (QB.out.later L5.out)
          clear hb5
          have za : w.heap.size < y5.heap.size := QA5.out.lt
          have zb : wo.heap.size + 1 < y5.heap.size := QB5.out.lt
          have q0 : y5.cell? ⟨wo.heap.size + 1, 0, none⟩ = some (.int .i64 (M : Int)) := QB5.out.cell 0
          have q1 : y5.cell? ⟨wo.heap.size + 1, 1, none⟩ = some (.slice (some ⟨g, 0, none⟩) n cap) := QB5.out.cell 1
          go_wp2_with fail
          refine (H6.out _ L5.out).mono ?_
          rintro e y6 ⟨rfl, hb6⟩
          have L6 := Lib.hid (wup0 L5.out hb6)
          clear za zb q0 q1
          have QA6 := Lib.hid (QA.out.later L6.out)
          have QB6 := Lib.hid (QB.out.later L6.out)
          clear hb6
          have za : w.heap.size < y6.heap.size := QA6.out.lt
          have zb : wo.heap.size + 1 < y6.heap.size := QB6.out.lt
          have p0 : y6.cell? ⟨w.heap.size, 0, none⟩ = some (.int .i64 (M : Int)) := QA6.out.cell 0
          have p1 : y6.cell? ⟨w.heap.size, 1, none⟩ = some (.slice (some ⟨g4, 0, none⟩) NA cap4) := QA6.out.cell 1
          go_wp2_with fail
          refine (H7.out _ L6.out).mono ?_
          rintro e y7 ⟨rfl, hb7⟩
          have L7 := Lib.hid (wup0 L6.out hb7)
          clear za zb p0 p1
          have QA7 := Lib.hid (QA.out.later L7.out)
          have QB7 := Lib.hid (QB.out.later L7.out)
          clear hb7
          have za : w.heap.size < y7.heap.size := QA7.out.lt
          have zb : wo.heap.size + 1 < y7.heap.size := QB7.out.lt
          have p0 : y7.cell? ⟨w.heap.size, 0, none⟩ = some (.int .i64 (M : Int)) := QA7.out.cell 0
          have p1 : y7.cell? ⟨w.heap.size, 1, none⟩ = some (.slice (some ⟨g4, 0, none⟩) NA cap4) := QA7.out.cell 1
          have q0 : y7.cell? ⟨wo.heap.size + 1, 0, none⟩ = some (.int .i64 (M : Int)) := QB7.out.cell 0
          have q1 : y7.cell? ⟨wo.heap.size + 1, 1, none⟩ = some (.slice (some ⟨g, 0, none⟩) n cap) := QB7.out.cell 1
          go_wp2_with fail
          refine (H8.out _ L7.out).mono ?_
          rintro e y8 ⟨rfl, hb8⟩
          have L8 := Lib.hid (wup0 L7.out hb8)
          clear za zb p0 p1 q0 q1
          have QA8 := Lib.hid (QA.out.later L8.out)
          have QB8 := Lib.hid (QB.out.later L8.out)
          clear hb8
          have za : w.heap.size < y8.heap.size := QA8.out.lt
          have zb : wo.heap.size + 1 < y8.heap.size := QB8.out.lt
          have p0 : y8.cell? ⟨w.heap.size, 0, none⟩ = some (.int .i64 (M : Int)) := QA8.out.cell 0
          have p1 : y8.cell? ⟨w.heap.size, 1, none⟩ = some (.slice (some ⟨g4, 0, none⟩) NA cap4) := QA8.out.cell 1
          have q0 : y8.cell? ⟨wo.heap.size + 1, 0, none⟩ = some (.int .i64 (M : Int)) := QB8.out.cell 0
          have q1 : y8.cell? ⟨wo.heap.size + 1, 1, none⟩ = some (.slice (some ⟨g, 0, none⟩) n cap) := QB8.out.cell 1
          go_wp2_with fail
          refine (H9.out _ L8.out).mono ?_
          rintro e y9 ⟨rfl, hb9⟩
          have L9 := Lib.hid (wup0 L8.out hb9)
          clear za zb p0 p1 q0 q1
          have QA9 := Lib.hid (QA.out.later L9.out)
          have QB9 := Lib.hid (QB.out.later L9.out)
          clear hb9
          have za : w.heap.size < y9.heap.size := QA9.out.lt
          have zb : wo.heap.size + 1 < y9.heap.size := QB9.out.lt
          have p0 : y9.cell? ⟨w.heap.size, 0, none⟩ = some (.int .i64 (M : Int)) := QA9.out.cell 0
          have p1 : y9.cell? ⟨w.heap.size, 1, none⟩ = some (.slice (some ⟨g4, 0, none⟩) NA cap4) := QA9.out.cell 1
          go_upto_region 32 with fail
          have Lp := Lib.hid (L9.out.alloc L9.out.size (.cells #[.int .u64 0, .int .u64 0] 36))
          have QAp := Lib.hid (QA9.out.alloc (.cells #[.int .u64 0, .int .u64 0] 36))
          have QBp := Lib.hid (QB9.out.alloc (.cells #[.int .u64 0, .int .u64 0] 36))
          clear za zb p0 p1
          generalize y9.alloc (.cells #[.int .u64 0, .int .u64 0] 36) = wp at *
          have za : w.heap.size < wp.heap.size := QAp.out.lt
          have p0 : wp.cell? ⟨w.heap.size, 0, none⟩ = some (.int .i64 (M : Int)) := QAp.out.cell 0
          have p1 : wp.cell? ⟨w.heap.size, 1, none⟩ = some (.slice (some ⟨g4, 0, none⟩) NA cap4) := QAp.out.cell 1
          have HKS : Hid (∀ w' : World, Below wp.heap.size wp w' → w'.cell? ⟨w.heap.size, 0, none⟩ = some (.int .i64 (M : Int)) ∧ w'.cell? ⟨w.heap.size, 1, none⟩ = some (.slice (some ⟨g4, 0, none⟩) NA cap4) ∧ Below wp.heap.size wp w') := Lib.hid fun w' hb => ⟨cell_keep hb p0, cell_keep hb p1, hb⟩
          go_cut [36, 37] (fun sx sy wx => WCut 0 0 wp sx sy wx)
          case first =>
            go_region_held3 (fun w' => w'.cell? ⟨w.heap.size, 0, none⟩ = some (.int .i64 (M : Int)) ∧ w'.cell? ⟨w.heap.size, 1, none⟩ = some (.slice (some ⟨g4, 0, none⟩) NA cap4) ∧ Below wp.heap.size wp w')
              (first
                | exact HKS.out _ (by first | (with_reducible exact (Below.refl _ _).drew) | (with_reducible exact (wlast3 (by assumption))))
                | exact HKS.out _ (Below.alloc (wlast3 (by assumption)) (Below.size (wlast3 (by assumption))) _)
                | exact HKS.out _ (Below.drew (Below.alloc (Below.refl _ _) (Nat.le_refl _) _))
                | exact HKS.out _ hv7
                | exact HKS.out _ (Below.alloc hv7 hv7.size _)
                | exact HKS.out _ hv5
                | exact HKS.out _ (Below.setCell (Below.setCell (wlast3 (by assumption)) (by first | exact Nat.le_refl _ | exact hv5.size | exact hv7.size) _) (by first | exact Nat.le_refl _ | exact hv5.size | exact hv7.size) _))
              (first
                | (go_at_call 12
                   refine (lflat_any (M : Int) 1 _).mono ?_
                   rintro e v5 ⟨b5, rfl, hf5, hb5⟩
                   have hv5 : Below wp.heap.size wp v5 := Below.trans (by first | (with_reducible exact (Below.refl _ _).drew) | (with_reducible exact (wlast3 (by assumption)))) (hb5.mono (Below.size (B := wp.heap.size) (w := wp) (by first | (with_reducible exact (Below.refl _ _).drew) | (with_reducible exact (wlast3 (by assumption))))))
                   try (have z5 : Blk v5 wp.heap.size #[.int .u64 0, .int .u64 0] 36 := (Blk.drew (Blk.new _ _ _)).later hb5)
                   try (have z5a := z5.cell 0; have z5b := z5.cell 1; have z5c := z5.fr 0; have z5d := z5.fr 1))
                | (go_at_call 11
                   refine (H11.out _ (Lp.out.trans (Below.mono (by first | (with_reducible exact (Below.refl _ _).drew) | (with_reducible exact (wlast3 (by assumption)))) Lp.out.size)) b5 ?_).mono ?_
                   · first | exact hf5 | exact hf5.keep ((Below.refl _ _).alloc (Nat.le_refl _) _)
                   rintro e v7 ⟨rfl, hb7⟩
                   have hv7 : Below wp.heap.size wp v7 := Below.trans (by first | (with_reducible exact (Below.refl _ _).drew) | (with_reducible exact (wlast3 (by assumption)))) (hb7.mono (Below.size (B := wp.heap.size) (w := wp) (by first | (with_reducible exact (Below.refl _ _).drew) | (with_reducible exact (wlast3 (by assumption))))))
                   try (have z7 : Blk v7 wp.heap.size #[.int .u64 0, .int .u64 0] 36 := z5.later hb7)
                   try (have z7 : Blk v7 v5.heap.size #[.int .u64 0, .int .u64 0] 36 := (Blk.new _ _ _).later hb7)
                   try (have z7a := z7.cell 0; have z7b := z7.cell 1; have z7c := z7.fr 0; have z7d := z7.fr 1)))
            all_goals (go_wp2_with fail; go_meet; refine ⟨rfl, wlast3 (by assumption), _, rfl, ?_⟩; first | exact Blk.new _ _ _ | exact (z7.set 0 _).set 1 _)
          case rest =>
            clear za p0 p1 HKS
            obtain ⟨rfl, hbx, bx, rfl, hx⟩ := hcut
            obtain ⟨y11, rfl⟩ : ∃ y11 : World, y11 = wc := ⟨_, rfl⟩
            have L11 := Lib.hid (Lp.out.trans (hbx.mono Lp.out.size))
            have HX := Lib.hid hx
            have LA := Lib.hid (L11.out.alloc L11.out.size (.cells #[.int .u64 0, .int .u64 0] 36))
            have zx : bx < y11.heap.size := hx.lt
            have r0 : y11.cell? ⟨bx, 0, none⟩ = some (.int .u64 0) := hx.cell 0
            have r1 : y11.cell? ⟨bx, 1, none⟩ = some (.int .u64 0) := hx.cell 1
            have heq := eq_setsW 0 0
            clear hbx hx
            go_wp2_with fail
            refine (HWW.out _ LA.out).mono ?_
            rintro e y12 ⟨rfl, hb12⟩
            have HE := Lib.hid (HB0.out.trans ((LA.out.trans (hb12.mono LA.out.size)).mono HB0.out.size))
            clear hb12 zx r0 r1
            go_wp2
            go_ret
            exact ⟨rfl, HE.out⟩
theorem wide_neg (n0 v0 : Int) (M : Nat) (w : World) (h0 : 0 ≤ n0) (h1 : n0 ≤ 255) (hv0 : 0 ≤ v0) (hv1 : v0 ≤ 255) (hm : n0 % 129 = (M : Int)) (hM1 : 1 ≤ M) (hM2 : M ≤ 128) (ht : Tab w) :
    Calls Tryd.prog 3 #[.int .u8 n0, .bool true, .int .u8 v0] w fun e w' => e = .returned (.bool true) ∧ Below w.heap.size w w' := by
  have HT := Lib.hid ht
  have HW := Lib.hid (fun V (hb : Below w.heap.size w V) => works_any V (ht.keep hb))
  have hM0 : ((M : Int) == 0) = false := by simp; omega
  have hMn : (M : Int) ≠ 0 := by omega
  clear ht
  go_enter Tryd.func3, Tryd.ntmps3
  go_wp2
  generalize hg : n0 % 129 = mm
  obtain rfl : mm = (M : Int) := hg.symm.trans hm
  clear hm h0 h1 hg
  go_loopw [10, 11, 12] (fun iv ll kv wr => ∃ (k : Nat) (v : Int) (lv : Value), kv = .int .i64 v ∧ (k : Int) + 1 ≤ v ∧ v ≤ (k : Int) + 1 ∧ k ≤ M ∧ W1 wr w.heap.size M lv iv ll (leafs (wAllP (-1) k)) (wIn k) (wLits (-1) k) ∧ Below w.heap.size w wr) (fun _ _ kv _ => ((M : Int) + 1 - intOf kv).toNat)
  case atStart => exact ⟨0, 1, _, rfl, by omega, by omega, by omega, W1.start w M, (Below.refl _ _).alloc (Nat.le_refl _) _⟩
  case round =>
    obtain ⟨k, v, lv, rfl, hv1, hv2, hkM, hI, hB⟩ := hrel
    have HI := Lib.hid hI
    have HB := Lib.hid hB
    clear hI hB
    by_cases hlt : v ≤ (M : Int)
    · have c1 : wr.cell? ⟨w.heap.size, 1, none⟩ = some lv := HI.out.box.cell 1
      have hkl : k < M := by omega
      have HL1 : Hid ((leafs (wAllP (-1) k)).length + 1 ≤ 1073741824) := by show _ ≤ _; simp [leafs, wAllP]; omega
      have HL2 : Hid ((wIn k).length + 1 ≤ 1073741824) := by show _ ≤ _; simp [wIn]; omega
      have HL3 : Hid ((wLits (-1) k).length + 1 ≤ 1073741824) := by show _ ≤ _; simp [wLits]; omega
      have HZ : Hid (w.heap.size + 1 ≤ wr.heap.size) := by show _ ≤ _; have := HI.out.box.lt; omega
      go_wp2_with (at_builtin; refine appNL elemNd rfl _ _ rfl (w.heap.size + 1) lv _ [(⟨2, -v, []⟩, .slice none 0 0)] rfl (OwnL.alloc HI.out.nds _) wr.heap.size 1 rfl rfl (by omega) ndc_len (fun j u hj => by rw [(Blk.new wr _ _).cell j, ← Array.getElem?_toList]; exact hj) (by simp [ndc, Value.oneCell']) HL1.out (by decide) (by simp only [World.size_alloc]; have := HZ.out; omega) ?_)
      intro g1 cap1 w1 ho1 hg1 hf1
      have HA1 := Lib.hid ((Below.refl wr.heap.size wr).alloc (Nat.le_refl _) (.cells #[.int .i64 2, .int .i64 (-v), .slice none 0 0] 28))
      have HI1 := Lib.hid (HI.out.app_nd HA1.out hg1 (hf1.imp id (fun e => by omega)) ho1)
      have b1 := HI.out.box_nd HA1.out hg1
      have hz1 : w.heap.size < w1.heap.size := b1.lt
      have fr1 := b1.fr 1
      have d1 : w1.cell? ⟨w.heap.size, 1, none⟩ = some lv := b1.cell 1
      have HB1 := Lib.hid (below_nd (HB.out.alloc (by have := HZ.out; omega) (.cells #[.int .i64 2, .int .i64 (-v), .slice none 0 0] 28)) (by simp only [World.size_alloc]; have := HZ.out; omega) hg1 (fun g hg => by have := (HI.out.nds.ownlt hg).1; omega) (.slice (some ⟨g1, 0, none⟩) ((leafs (wAllP (-1) k)).length + 1) cap1))
      have HZ1 : Hid (w.heap.size + 1 ≤ w1.heap.size) := hz1
      clear ho1 hg1 hf1 b1 HA1
      have HE1 : Hid (leafs (wAllP (-1) (k + 1)) = leafs (wAllP (-1) k) ++ [(⟨2, -v, []⟩, .slice none 0 0)]) := by
        show _ = _; rw [wAllP_succ, leafs_snoc, show (-1) * ((k : Int) + 1) = -v by omega]
      have HE2 : Hid (wIn (k + 1) = wIn k ++ [v - 1]) := by show _ = _; rw [wIn_succ, show (k : Int) = v - 1 by omega]
      have HE3 : Hid (wLits (-1) (k + 1) = wLits (-1) k ++ [-v]) := by show _ = _; rw [wLits_succ, show (-1) * ((k : Int) + 1) = -v by omega]
      go_wp2_with (at_builtin; refine appNL elemI1 rfl _ _ rfl (w.heap.size + 1) u10 _ [v - 1] rfl (OwnL.alloc HI1.out.ins _) _ 1 rfl rfl (by omega) I1_len (fun j u hj => ?_) (by simp [I1, Value.oneCell']) HL2.out (by decide) ?_ ?_)
      · rw [(Blk.new' (w1.setCell _ _) (World.size_setCell' _ _ _) _ _).cell j, ← Array.getElem?_toList]; exact hj
      · simp only [World.size_alloc, World.size_setCell']; have := HZ1.out; omega
      intro g2 cap2 w2 ho2 hg2 hf2
      have HA2 := Lib.hid ((Below.refl _ (w1.setCell ⟨w.heap.size, 1, none⟩ (.slice (some ⟨g1, 0, none⟩) ((leafs (wAllP (-1) k)).length + 1) cap1))).alloc (Nat.le_refl _) (.cells #[.int .i64 (v - 1)] 3))
      have HI2 := Lib.hid (HI1.out.app_in HA2.out hg2 (hf2.imp id (fun e => by rw [World.size_setCell']; omega)) ho2)
      have HB2 : Hid (Below w.heap.size w w2) := (HB1.out.alloc (by rw [World.size_setCell']; have := HZ1.out; omega) _).grown hg2 (by simp only [World.size_alloc, World.size_setCell']; have := HZ1.out; omega) (fun g hg => by have := (HI1.out.ins.ownlt hg).1; omega)
      have HZ2 : Hid (w.heap.size + 1 ≤ w2.heap.size) := by show _ ≤ _; have := HI2.out.box.lt; omega
      clear ho2 hg2 hf2 HA2
      go_wp2_with (at_builtin; refine appNL elemI1 rfl _ _ rfl (w.heap.size + 1) u11 _ [-v] rfl (OwnL.alloc HI2.out.lit _) w2.heap.size 1 rfl rfl (by omega) I1_len (fun j u hj => ?_) (by simp [I1, Value.oneCell']) HL3.out (by decide) ?_ ?_)
      · rw [(Blk.new w2 _ _).cell j, ← Array.getElem?_toList]; exact hj
      · simp only [World.size_alloc]; have := HZ2.out; omega
      intro g3 cap3 w3 ho3 hg3 hf3
      have HA3 := Lib.hid ((Below.refl _ w2).alloc (Nat.le_refl _) (.cells #[.int .i64 (-v)] 3))
      have HI3 := Lib.hid (HI2.out.app_lit HA3.out hg3 (hf3.imp id (fun e => by omega)) ho3)
      have HB3 : Hid (Below w.heap.size w w3) := (HB2.out.alloc (by have := HZ2.out; omega) _).grown hg3 (by simp only [World.size_alloc]; have := HZ2.out; omega) (fun g hg => by have := (HI2.out.lit.ownlt hg).1; omega)
      clear ho3 hg3 hf3 HA3
      go_wp2
      go_roundw
      case rel => exact ⟨k + 1, v + 1, _, rfl, by omega, by omega, by omega, by rw [HE1.out, HE2.out, HE3.out]; exact HI3.out, HB3.out⟩
      case measure => simp [intOf]; omega
    · have HCN : Hid (k = M) := by show _ = _; omega
      obtain rfl : M = k := HCN.out.symm
      obtain ⟨wo, rfl⟩ : ∃ wo : World, wo = wr := ⟨_, rfl⟩
      have HZ : Hid (w.heap.size + 1 ≤ wo.heap.size) := by show _ ≤ _; have := HI.out.box.lt; omega
      clear HCN
      go_wp2
      go_loopw [14] (fun kv wq => ∃ (j : Nat) (x : Int) (bv : Value) (LL : List (Nd × Value)), kv = .int .i64 x ∧ (M : Int) - 1 - j ≤ x ∧ x ≤ (M : Int) - 1 - j ∧ j < M ∧ W2 wq wo.heap.size M bv LL ∧ LL.map Prod.fst = wAny (-1) M j ∧ Below wo.heap.size wo wq) (fun kv _ => (intOf kv).toNat)
      case atStart => exact ⟨0, (M : Int) - 1, _, _, rfl, by omega, by omega, by omega, W2.start wo M (-(M : Int)), by simp [wAny], ((Below.refl _ _).alloc (Nat.le_refl _) _).alloc (by simp) _⟩
      case round =>
        obtain ⟨j, x, bv, LL, rfl, hx1, hx2, hjM, hJ, hLL, hC⟩ := hrel
        have hlen : LL.length = 4 * j + 1 := by rw [← wAny_length (-1) M j, ← hLL, List.length_map]
        have hrow := hJ.nds
        rcases hrow.shape with ⟨_, he⟩ | ⟨g, cap, rfl, hg0, hg1⟩
        · rw [he] at hlen; simp at hlen
        have HJ := Lib.hid hJ
        have HC := Lib.hid hC
        have HLL := Lib.hid hLL
        generalize hn : LL.length = n at *
        have hn1 : 4 * j + 1 ≤ n := by omega
        have hn2 : n ≤ 4 * j + 1 := by omega
        have HN := Lib.hid hn
        have HZJ : Hid (wo.heap.size + 1 < wr.heap.size) := HJ.out.box.lt
        clear hJ hC hLL hrow hlen hn
        by_cases hlt2 : 1 ≤ x
        · have hxw : Hid ((-1) * ((M : Int) - 1 - j) = -x) := by show _ = _; omega
          have c1 : wr.cell? ⟨wo.heap.size + 1, 1, none⟩ = some (.slice (some ⟨g, 0, none⟩) n cap) := HJ.out.box.cell 1
          have z1 : wo.heap.size + 1 < wr.heap.size := HZJ.out
          have z0 : wo.heap.size < wr.heap.size := by omega
          go_wp2_with (at_builtin; refine appNL elemNd rfl _ _ rfl wo.heap.size (.slice (some ⟨g, 0, none⟩) n cap) LL (ys4 (-x) j wr.heap.size) rfl (OwnL.alloc (OwnL.alloc (OwnL.alloc HJ.out.nds _) _) _) _ 4 rfl rfl (by omega) ndc_len (fun i u hj => ?_) ?_ ?_ (by decide) ?_ ?_)
          · rw [(Blk.new' ((wr.alloc _).alloc _) (by simp only [World.size_alloc]) _ _).cell i, ← Array.getElem?_toList]
            simpa [ys4, ndc] using hj
          · simp [ys4, ndc, Value.oneCell']
          · have := HN.out; omega
          · simp only [World.size_alloc]; omega
          intro g2 cap2 w2 ho2 hg2 hf2
          have HA := Lib.hid ((((Below.refl wr.heap.size wr).alloc (Nat.le_refl _) (.cells #[.int .i64 ((n : Int) - 1), .int .i64 ((n : Int) - 1 + 2)] 3)).alloc (by simp only [World.size_alloc]; omega) (.cells #[.int .i64 (n : Int), .int .i64 ((n : Int) - 1 + 3)] 3)).alloc (by simp only [World.size_alloc]; omega) (.cells #[.int .i64 2, .int .i64 (-x), .slice none 0 0, .int .i64 2, .int .i64 x, .slice none 0 0, .int .i64 3, .int .i64 0, .slice (some ⟨wr.heap.size, 0, none⟩) 2 2, .int .i64 4, .int .i64 0, .slice (some ⟨wr.heap.size + 1, 0, none⟩) 2 2] 28))
          have HJ2 := Lib.hid (HJ.out.app HA.out hg2 (by simpa [Value.ownBlock] using hf2) ho2 (ys4_ins (by omega) (by omega) (by omega) (by omega)))
          have b2 := HJ.out.box_nd HA.out hg2
          have HC2 : Hid (Below wo.heap.size wo w2) := (HC.out.trans (HA.out.mono (by omega))).grown hg2 (by simp only [World.size_alloc]; omega) (fun q hq => by have := (HJ.out.nds.ownlt hq).1; omega)
          have hz2 : wo.heap.size + 1 < w2.heap.size := b2.lt
          have fr2 := b2.fr 1
          have d2 : w2.cell? ⟨wo.heap.size + 1, 1, none⟩ = some (.slice (some ⟨g, 0, none⟩) n cap) := b2.cell 1
          clear ho2 hg2 hf2 HA b2
          go_wp2
          go_roundw
          case rel => exact ⟨j + 1, x - 1, _, _, rfl, by omega, by omega, by omega, HJ2.out, wAny_step HLL.out hxw.out, HC2.out.setCell (show wo.heap.size ≤ wo.heap.size + 1 by omega) _⟩
          case measure => simp [intOf]; omega
        · have HJM : Hid (j + 1 = M) := by show _ = _; omega
          have HLB : Hid (LL.map Prod.fst = wAny (-1) M (M - 1)) := by show _ = _; rw [show M - 1 = j by have := HJM.out; omega]; exact HLL.out
          have HI2 := Lib.hid (HI.out.later HC.out)
          have HB2 : Hid (Below w.heap.size w wr) := HB.out.trans (HC.out.mono (by have := HZ.out; omega))
          obtain ⟨ai, ci, hai, _⟩ := (ownInts_I1.2 HI.out.ins).cells
          obtain ⟨al, cl, hal, _⟩ := (ownInts_I1.2 HI.out.lit).cells
          subst hai
          subst hal
          have c1 : wr.cell? ⟨w.heap.size, 1, none⟩ = some lv := HI2.out.box.cell 1
          have HZ2 : Hid (w.heap.size + 1 ≤ wr.heap.size ∧ wo.heap.size ≤ wr.heap.size) := ⟨by have := HI2.out.box.lt; omega, HC.out.size⟩
          go_wp2_with (at_builtin; refine appNL elemNd rfl _ _ rfl (w.heap.size + 1) lv _ [(⟨3, 0, wIn M⟩, .slice ai (wIn M).length ci)] rfl (OwnL.alloc HI2.out.nds _) wr.heap.size 1 rfl rfl (by omega) ndc_len (fun i u hj => by rw [(Blk.new wr _ _).cell i, ← Array.getElem?_toList]; exact hj) (by simp [ndc, Value.oneCell']) (by simp [leafs, wAllP]; omega) (by decide) (by simp only [World.size_alloc]; have := HZ2.out; omega) ?_)
          intro g4 cap4 w4 ho4 hg4 hf4
          have HNL : Hid ((wAll (-1) M).length = (leafs (wAllP (-1) M)).length + 1) := by show _ = _; simp [leafs, wAll, wAllP]
          generalize (leafs (wAllP (-1) M)).length + 1 = NA at *
          have HA4 := Lib.hid ((Below.refl wr.heap.size wr).alloc (Nat.le_refl _) (.cells #[.int .i64 3, .int .i64 0, .slice ai (wIn M).length ci] 28))
          have HI4 := Lib.hid (HI2.out.app_nd HA4.out hg4 (hf4.imp id (fun e => by omega)) ho4)
          have b4 := HI2.out.box_nd HA4.out hg4
          have z4 : w.heap.size < w4.heap.size := b4.lt
          have fr4 := b4.fr 1
          have d4 : w4.cell? ⟨w.heap.size, 1, none⟩ = some lv := b4.cell 1
          have d40 : w4.cell? ⟨w.heap.size, 0, none⟩ = some (.int .i64 (M : Int)) := b4.cell 0
          have hu0 : 0 ≤ v0 % (M : Int) := Int.emod_nonneg _ hMn
          have hu1 : v0 % (M : Int) < (M : Int) := Int.emod_lt_of_pos _ (by omega)
          have HK4 : Hid (Kp (fun y => lv.ownBlock = some y ∨ y = w.heap.size) wr (w4.setCell ⟨w.heap.size, 1, none⟩ (.slice (some ⟨g4, 0, none⟩) NA cap4))) :=
            ((Kp.below HA4.out).trans (Kp.grown hg4 fun y hy => .inl hy.symm.symm)).trans (Kp.setCell _ _ _ (.inr rfl))
          have HJ4 := Lib.hid (HJ.out.kept HK4.out (fun k e => by have := HZ.out; rcases e with e | e; exact (HI.out.nds.ownlt e).2; omega))
          have HB0 : Hid (Below w.heap.size w (w4.setCell ⟨w.heap.size, 1, none⟩ (.slice (some ⟨g4, 0, none⟩) NA cap4))) :=
            ((HB2.out.trans (HA4.out.mono HB2.out.size)).grown hg4 (by simp only [World.size_alloc]; have := HZ2.out; omega) (fun q hq => by have := (HI2.out.nds.ownlt hq).1; omega)).setCell (Nat.le_refl _) _
          have XA := Lib.hid (HI4.out.read hM2 HNL.out)
          have XB := Lib.hid (HJ4.out.read (.inr rfl) hM2 hM1 HLB.out HN.out)
          have XL := Lib.hid (own_ints HI4.out.lit)
          have QA := Lib.hid HI4.out.box
          have QB := Lib.hid HJ4.out.box
          have HNB : Hid ((wAny (-1) M (M - 1)).length = n) := by show _ = _; rw [← HLB.out, List.length_map]; exact HN.out
          clear ho4 hg4 hf4 HA4 b4 c1
          go_wp2_with fail
          generalize hue : 1 + v0 % (M : Int) = u at *
          have HU1 : Hid (1 ≤ u) := by show _ ≤ _; omega
          have HU2 : Hid (u ≤ (M : Int)) := by show _ ≤ _; omega
          have HS : (-1) = (1 : Int) ∨ (-1) = (-1 : Int) := (.inr rfl)
          have HK : Hid ((-1) * u = (-u)) := by show _ = _; omega
          have HNK : Hid (-((-1) * u) = u) := by show _ = _; omega
          have hlA : (wAll (-1) M).length ≤ 1073741824 := by rw [wAll_length]; omega
          have hlB : (wAny (-1) M (M - 1)).length ≤ 1073741824 := by rw [wAny_length]; omega
          have hlL : (wLits (-1) M).length ≤ 1073741824 := by simp [wLits]; omega
          have sA := wAll_small HS hM2
          have sB := wAny_small HS hM2 hM1
          have e9 : cntR ⟨M, (wAll (-1) M)⟩ ⟨M, (wAny (-1) M (M - 1))⟩ = none := by have := wide_no HS hM2 hM1; simpa using this
          obtain ⟨lw, ey1, ey2⟩ := wide_yes HS hM2 hM1
          have HTV : Hid (∀ V, Below (w4.setCell ⟨w.heap.size, 1, none⟩ (.slice (some ⟨g4, 0, none⟩) NA cap4)).heap.size (w4.setCell ⟨w.heap.size, 1, none⟩ (.slice (some ⟨g4, 0, none⟩) NA cap4)) V → Tab V) := fun V hV => HT.out.keep (wup0 HB0.out hV)
          have HF : Hid (wWant (-1) M = ofL [(M : Int)]) := by show _ = _; unfold wWant; rw [if_neg (by decide)]; rfl
          rw [HF.out] at ey2
          generalize hFF : ofL [(M : Int)] = F at *
          have H1 : Hid (∀ V, Below (w4.setCell ⟨w.heap.size, 1, none⟩ (.slice (some ⟨g4, 0, none⟩) NA cap4)).heap.size (w4.setCell ⟨w.heap.size, 1, none⟩ (.slice (some ⟨g4, 0, none⟩) NA cap4)) V → Calls Tryd.prog 6 #[.agg #[.int .i64 (M : Int), .slice (some ⟨g4, 0, none⟩) NA cap4]] V fun e w' => e = .returned (.tuple #[.bool true, .int .i64 0]) ∧ Below V.heap.size V w') := Lib.hid fun V hV => by
            have h := consistent_any (M : Int) (some ⟨g4, 0, none⟩) cap4 (wAll (-1) M) V (XA.out.keep hV) hlA (fun _ => sA) (HTV.out V hV)
            rw [wide_a HS hM2, wChkA HS hM2 (by simp), HNL.out] at h; exact h
          have H2 : Hid (∀ V, Below (w4.setCell ⟨w.heap.size, 1, none⟩ (.slice (some ⟨g4, 0, none⟩) NA cap4)).heap.size (w4.setCell ⟨w.heap.size, 1, none⟩ (.slice (some ⟨g4, 0, none⟩) NA cap4)) V → ∀ c, IntCells V (some ⟨c, 0, none⟩) [(-u)] → Calls Tryd.prog 7 #[.agg #[.int .i64 (M : Int), .slice (some ⟨g4, 0, none⟩) NA cap4], .slice (some ⟨c, 0, none⟩) 1 1] V fun e w' => e = .returned (.tuple #[.bool true, .int .i64 0]) ∧ Below V.heap.size V w') := Lib.hid fun V hV c hc => by
            have h := entails_any (M : Int) (some ⟨g4, 0, none⟩) cap4 (wAll (-1) M) (some ⟨c, 0, none⟩) 1 [(-u)] V (XA.out.keep hV) hlA hc (by simp) (fun _ => sA) (HTV.out V hV)
            have e1 := wide_b HS hM2 HU1.out HU2.out
            have e2 := wChkA HS hM2 (one_ok' HS hM2 HU1.out HU2.out)
            rw [HK.out] at e1 e2
            rw [e1, e2, HNL.out] at h; exact h
          have H3 : Hid (∀ V, Below (w4.setCell ⟨w.heap.size, 1, none⟩ (.slice (some ⟨g4, 0, none⟩) NA cap4)).heap.size (w4.setCell ⟨w.heap.size, 1, none⟩ (.slice (some ⟨g4, 0, none⟩) NA cap4)) V → Calls Tryd.prog 8 #[.agg #[.int .i64 (M : Int), .slice (some ⟨g4, 0, none⟩) NA cap4], .slice al (wLits (-1) M).length cl] V fun e w' => e = .returned (.tuple #[.bool true, .int .i64 0]) ∧ Below V.heap.size V w') := Lib.hid fun V hV => by
            have h := implies_any (M : Int) (some ⟨g4, 0, none⟩) cap4 (wAll (-1) M) al cl (wLits (-1) M) V (XA.out.keep hV) hlA (XL.out.keep hV) hlL (fun _ => sA) (cost_c HS hM2) (HTV.out V hV)
            rw [wide_c HS hM2, wChkA HS hM2 (wLits_ok HS hM2), HNL.out] at h; exact h
          have H4 : Hid (∀ V, Below (w4.setCell ⟨w.heap.size, 1, none⟩ (.slice (some ⟨g4, 0, none⟩) NA cap4)).heap.size (w4.setCell ⟨w.heap.size, 1, none⟩ (.slice (some ⟨g4, 0, none⟩) NA cap4)) V → ∀ c, IntCells V (some ⟨c, 0, none⟩) [(-u)] → Calls Tryd.prog 8 #[.agg #[.int .i64 (M : Int), .slice (some ⟨g, 0, none⟩) n cap], .slice (some ⟨c, 0, none⟩) 1 1] V fun e w' => e = .returned (.tuple #[.bool true, .int .i64 0]) ∧ Below V.heap.size V w') := Lib.hid fun V hV c hc => by
            have e0 := cost_d HS hM2 hM1 HU1.out HU2.out
            have e1 := wide_d HS hM2 hM1 HU1.out HU2.out
            have e2 := wChkB HS hM2 hM1 (one_ok' HS hM2 HU1.out HU2.out)
            rw [HK.out] at e0 e1 e2
            have h := implies_any (M : Int) (some ⟨g, 0, none⟩) cap (wAny (-1) M (M - 1)) (some ⟨c, 0, none⟩) 1 [(-u)] V (XB.out.keep hV) hlB hc (by simp) (fun _ => sB) e0 (HTV.out V hV)
            rw [e1, e2, HNB.out] at h; exact h
          have H5 : Hid (∀ V, Below (w4.setCell ⟨w.heap.size, 1, none⟩ (.slice (some ⟨g4, 0, none⟩) NA cap4)).heap.size (w4.setCell ⟨w.heap.size, 1, none⟩ (.slice (some ⟨g4, 0, none⟩) NA cap4)) V → ∀ c, IntCells V (some ⟨c, 0, none⟩) [u] → Calls Tryd.prog 8 #[.agg #[.int .i64 (M : Int), .slice (some ⟨g, 0, none⟩) n cap], .slice (some ⟨c, 0, none⟩) 1 1] V fun e w' => e = .returned (.tuple #[.bool false, .int .i64 0]) ∧ Below V.heap.size V w') := Lib.hid fun V hV c hc => by
            have e0 := cost_e HS hM2 hM1 HU1.out HU2.out
            have e1 := wide_e HS hM2 hM1 HU1.out HU2.out
            have e2 := wChkB HS hM2 hM1 (one_ng' HS hM2 HU1.out HU2.out)
            rw [HNK.out] at e0 e1 e2
            have h := implies_any (M : Int) (some ⟨g, 0, none⟩) cap (wAny (-1) M (M - 1)) (some ⟨c, 0, none⟩) 1 [u] V (XB.out.keep hV) hlB hc (by simp) (fun _ => sB) e0 (HTV.out V hV)
            rw [e1, e2, HNB.out] at h; exact h
          have H6 : Hid (∀ V, Below (w4.setCell ⟨w.heap.size, 1, none⟩ (.slice (some ⟨g4, 0, none⟩) NA cap4)).heap.size (w4.setCell ⟨w.heap.size, 1, none⟩ (.slice (some ⟨g4, 0, none⟩) NA cap4)) V → Calls Tryd.prog 7 #[.agg #[.int .i64 (M : Int), .slice (some ⟨g, 0, none⟩) n cap], .slice al (wLits (-1) M).length cl] V fun e w' => e = .returned (.tuple #[.bool true, .int .i64 0]) ∧ Below V.heap.size V w') := Lib.hid fun V hV => by
            have h := entails_any (M : Int) (some ⟨g, 0, none⟩) cap (wAny (-1) M (M - 1)) al cl (wLits (-1) M) V (XB.out.keep hV) hlB (XL.out.keep hV) hlL (fun _ => sB) (HTV.out V hV)
            rw [wide_f HS hM2 hM1, wChkB HS hM2 hM1 (wLits_ok HS hM2), HNB.out] at h; exact h
          have H7 : Hid (∀ V, Below (w4.setCell ⟨w.heap.size, 1, none⟩ (.slice (some ⟨g4, 0, none⟩) NA cap4)).heap.size (w4.setCell ⟨w.heap.size, 1, none⟩ (.slice (some ⟨g4, 0, none⟩) NA cap4)) V → Calls Tryd.prog 9 #[.agg #[.int .i64 (M : Int), .slice (some ⟨g4, 0, none⟩) NA cap4]] V fun e w' => e = .returned (.tuple #[.bool false, .int .i64 0]) ∧ Below V.heap.size V w') := Lib.hid fun V hV => by
            have h := valid_any (M : Int) (some ⟨g4, 0, none⟩) cap4 (wAll (-1) M) V (XA.out.keep hV) hlA (fun _ => sA) (cost_g HS hM2 hM1) (HTV.out V hV)
            rw [wide_g HS hM2 hM1, wChkA HS hM2 (by simp), HNL.out] at h; exact h
          have H8 : Hid (∀ V, Below (w4.setCell ⟨w.heap.size, 1, none⟩ (.slice (some ⟨g4, 0, none⟩) NA cap4)).heap.size (w4.setCell ⟨w.heap.size, 1, none⟩ (.slice (some ⟨g4, 0, none⟩) NA cap4)) V → Calls Tryd.prog 10 #[.agg #[.int .i64 (M : Int), .slice (some ⟨g4, 0, none⟩) NA cap4], .agg #[.int .i64 (M : Int), .slice (some ⟨g, 0, none⟩) n cap]] V fun e w' => e = .returned (.tuple #[.bool (decide (M = 1)), .int .i64 0]) ∧ Below V.heap.size V w') := Lib.hid fun V hV => by
            have h := same2_any (M : Int) (M : Int) (some ⟨g4, 0, none⟩) (some ⟨g, 0, none⟩) cap4 cap (wAll (-1) M) (wAny (-1) M (M - 1)) V (XA.out.keep hV) (XB.out.keep hV) hlA hlB (fun _ => sA) (fun _ => sB) ⟨cost_AB HS hM2 hM1, fun hc2 => cost_BA HS hM2 hM1 (chk2_symm hc2)⟩ (HTV.out V hV)
            rw [wide_same HS hM2 hM1, wChk2 HS hM2 hM1, HNL.out, HNB.out] at h; exact h
          have H9 : Hid (∀ V, Below (w4.setCell ⟨w.heap.size, 1, none⟩ (.slice (some ⟨g4, 0, none⟩) NA cap4)).heap.size (w4.setCell ⟨w.heap.size, 1, none⟩ (.slice (some ⟨g4, 0, none⟩) NA cap4)) V → Calls Tryd.prog 11 #[.agg #[.int .i64 (M : Int), .slice (some ⟨g4, 0, none⟩) NA cap4], .agg #[.int .i64 (M : Int), .slice (some ⟨g, 0, none⟩) n cap]] V fun e w' => e = .returned (.tuple #[.agg #[.int .u64 0, .int .u64 0], .bool false, .int .i64 0]) ∧ Below V.heap.size V w') := Lib.hid fun V hV => by
            have h := counter2_any (M : Int) (M : Int) (some ⟨g4, 0, none⟩) (some ⟨g, 0, none⟩) cap4 cap (wAll (-1) M) (wAny (-1) M (M - 1)) V (XA.out.keep hV) (XB.out.keep hV) hlA hlB (fun _ => sA) (fun _ => sB) (cost_AB HS hM2 hM1) (HTV.out V hV)
            rw [e9, wChk2 HS hM2 hM1, HNL.out, HNB.out] at h; exact h
          have H11 : Hid (∀ V, Below (w4.setCell ⟨w.heap.size, 1, none⟩ (.slice (some ⟨g4, 0, none⟩) NA cap4)).heap.size (w4.setCell ⟨w.heap.size, 1, none⟩ (.slice (some ⟨g4, 0, none⟩) NA cap4)) V → ∀ c, NdCells V (some ⟨c, 0, none⟩) [⟨1, 0, []⟩] → Calls Tryd.prog 11 #[.agg #[.int .i64 (M : Int), .slice (some ⟨c, 0, none⟩) 1 1], .agg #[.int .i64 (M : Int), .slice (some ⟨g4, 0, none⟩) NA cap4]] V fun e w' => e = .returned (.tuple #[.agg #[.int .u64 (F.a : Int), .int .u64 (F.b : Int)], .bool true, .int .i64 0]) ∧ Below V.heap.size V w') := Lib.hid fun V hV c hc => by
            have h := counter2_any (M : Int) (M : Int) (some ⟨c, 0, none⟩) (some ⟨g4, 0, none⟩) 1 cap4 [⟨1, 0, []⟩] (wAll (-1) M) V hc (XA.out.keep hV) (by simp) hlA (fun _ => true_small 1) (fun _ => sA) (cost_yes HS hM2 hM1) (HTV.out V hV)
            rw [ey1, ey2, wChkT HS hM2 hM1, HNL.out] at h; exact h
          have HOF : Hid (∀ V, Below (w4.setCell ⟨w.heap.size, 1, none⟩ (.slice (some ⟨g4, 0, none⟩) NA cap4)).heap.size (w4.setCell ⟨w.heap.size, 1, none⟩ (.slice (some ⟨g4, 0, none⟩) NA cap4)) V → ∀ c, IntCells V (some ⟨c, 0, none⟩) [(M : Int)] → Calls Tryd.prog 13 #[.slice (some ⟨c, 0, none⟩) 1 1] V fun e w' => e = .returned (.agg #[.int .u64 (F.a : Int), .int .u64 (F.b : Int)]) ∧ Below V.heap.size V w') := Lib.hid fun V hV c hc => by
            have h := setOf_any (some ⟨c, 0, none⟩) 1 [(M : Int)] V (by simp) hc
            rw [hFF] at h; exact h
          have HWW : Hid (∀ V, Below (w4.setCell ⟨w.heap.size, 1, none⟩ (.slice (some ⟨g4, 0, none⟩) NA cap4)).heap.size (w4.setCell ⟨w.heap.size, 1, none⟩ (.slice (some ⟨g4, 0, none⟩) NA cap4)) V → Calls Tryd.prog 5 #[] V fun e w' => e = .returned (.bool true) ∧ Below V.heap.size V w') := Lib.hid fun V hV => HW.out V (wup0 HB0.out hV)
          have hdm : (decide (M = 1) == decide ((M : Int) = 1)) = true := by simp; omega
          have hdm2 : (decide (M = 1) == ((M : Int) == 1)) = true := hdm
          clear hlA hlB hlL sA sB e9 ey1 ey2 HS hFF
          generalize decide (M = 1) = dm at *
          refine (H1.out _ (Below.refl (w4.setCell ⟨w.heap.size, 1, none⟩ (.slice (some ⟨g4, 0, none⟩) NA cap4)).heap.size (w4.setCell ⟨w.heap.size, 1, none⟩ (.slice (some ⟨g4, 0, none⟩) NA cap4)))).mono ?_
          rintro e y1 ⟨rfl, hb1⟩
          have L1 := Lib.hid (wup0 (Below.refl (w4.setCell ⟨w.heap.size, 1, none⟩ (.slice (some ⟨g4, 0, none⟩) NA cap4)).heap.size (w4.setCell ⟨w.heap.size, 1, none⟩ (.slice (some ⟨g4, 0, none⟩) NA cap4))) hb1)
          have QA1 := Lib.hid (QA.out.later L1.out)
          have QB1 := Lib.hid (QB.out.later L1.out)
          clear hb1
          have za : w.heap.size < y1.heap.size := QA1.out.lt
          have zb : wo.heap.size + 1 < y1.heap.size := QB1.out.lt
          have p0 : y1.cell? ⟨w.heap.size, 0, none⟩ = some (.int .i64 (M : Int)) := QA1.out.cell 0
          have p1 : y1.cell? ⟨w.heap.size, 1, none⟩ = some (.slice (some ⟨g4, 0, none⟩) NA cap4) := QA1.out.cell 1
          have I1 : Hid (IntCells (y1.alloc (.cells #[.int .i64 (-u)] 3)) (some ⟨y1.heap.size, 0, none⟩) [(-u)]) := IntCells.one (Blk.new _ _ _)
          have LA1 : Hid (Below (w4.setCell ⟨w.heap.size, 1, none⟩ (.slice (some ⟨g4, 0, none⟩) NA cap4)).heap.size (w4.setCell ⟨w.heap.size, 1, none⟩ (.slice (some ⟨g4, 0, none⟩) NA cap4)) (y1.alloc (.cells #[.int .i64 (-u)] 3))) := L1.out.alloc L1.out.size _
          go_wp2_with fail
          refine (H2.out _ LA1.out _ I1.out).mono ?_
          rintro e y2 ⟨rfl, hb2⟩
          have L2 := Lib.hid (wup1 L1.out hb2)
          clear za zb p0 p1
          have QA2 := Lib.hid (QA.out.later L2.out)
          have QB2 := Lib.hid (QB.out.later L2.out)
          clear hb2
          have za : w.heap.size < y2.heap.size := QA2.out.lt
          have zb : wo.heap.size + 1 < y2.heap.size := QB2.out.lt
          have p0 : y2.cell? ⟨w.heap.size, 0, none⟩ = some (.int .i64 (M : Int)) := QA2.out.cell 0
          have p1 : y2.cell? ⟨w.heap.size, 1, none⟩ = some (.slice (some ⟨g4, 0, none⟩) NA cap4) := QA2.out.cell 1
          go_wp2_with fail
          refine (H3.out _ L2.out).mono ?_
          rintro e y3 ⟨rfl, hb3⟩
          have L3 := Lib.hid (wup0 L2.out hb3)
          clear za zb p0 p1
          have QA3 := Lib.hid (QA.out.later L3.out)
          have QB3 := Lib.hid (QB.out.later L3.out)
          clear hb3
          have za : w.heap.size < y3.heap.size := QA3.out.lt
          have zb : wo.heap.size + 1 < y3.heap.size := QB3.out.lt
          have q0 : y3.cell? ⟨wo.heap.size + 1, 0, none⟩ = some (.int .i64 (M : Int)) := QB3.out.cell 0
          have q1 : y3.cell? ⟨wo.heap.size + 1, 1, none⟩ = some (.slice (some ⟨g, 0, none⟩) n cap) := QB3.out.cell 1
          have I3 : Hid (IntCells (y3.alloc (.cells #[.int .i64 (-u)] 3)) (some ⟨y3.heap.size, 0, none⟩) [(-u)]) := IntCells.one (Blk.new _ _ _)
          have LA3 : Hid (Below (w4.setCell ⟨w.heap.size, 1, none⟩ (.slice (some ⟨g4, 0, none⟩) NA cap4)).heap.size (w4.setCell ⟨w.heap.size, 1, none⟩ (.slice (some ⟨g4, 0, none⟩) NA cap4)) (y3.alloc (.cells #[.int .i64 (-u)] 3))) := L3.out.alloc L3.out.size _
          go_wp2_with fail
          refine (H4.out _ LA3.out _ I3.out).mono ?_
          rintro e y4 ⟨rfl, hb4⟩
          have L4 := Lib.hid (wup1 L3.out hb4)
          clear za zb q0 q1
          have QA4 := Lib.hid (QA.out.later L4.out)
          have QB4 := Lib.hid (QB.out.later L4.out)
          clear hb4
          have za : w.heap.size < y4.heap.size := QA4.out.lt
          have zb : wo.heap.size + 1 < y4.heap.size := QB4.out.lt
          have q0 : y4.cell? ⟨wo.heap.size + 1, 0, none⟩ = some (.int .i64 (M : Int)) := QB4.out.cell 0
          have q1 : y4.cell? ⟨wo.heap.size + 1, 1, none⟩ = some (.slice (some ⟨g, 0, none⟩) n cap) := QB4.out.cell 1
          have I4 : Hid (IntCells (y4.alloc (.cells #[.int .i64 u] 3)) (some ⟨y4.heap.size, 0, none⟩) [u]) := IntCells.one (Blk.new _ _ _)
          have LA4 : Hid (Below (w4.setCell ⟨w.heap.size, 1, none⟩ (.slice (some ⟨g4, 0, none⟩) NA cap4)).heap.size (w4.setCell ⟨w.heap.size, 1, none⟩ (.slice (some ⟨g4, 0, none⟩) NA cap4)) (y4.alloc (.cells #[.int .i64 u] 3))) := L4.out.alloc L4.out.size _
          go_wp2_with fail
          refine (H5.out _ LA4.out _ I4.out).mono ?_
          rintro e y5 ⟨rfl, hb5⟩
          have L5 := Lib.hid (wup1 L4.out hb5)
          clear za zb q0 q1
          have QA5 := Lib.hid (QA.out.later L5.out)
          have QB5 := Lib.hid (QB.out.later L5.out)
          clear hb5
          have za : w.heap.size < y5.heap.size := QA5.out.lt
          have zb : wo.heap.size + 1 < y5.heap.size := QB5.out.lt
          have q0 : y5.cell? ⟨wo.heap.size + 1, 0, none⟩ = some (.int .i64 (M : Int)) := QB5.out.cell 0
          have q1 : y5.cell? ⟨wo.heap.size + 1, 1, none⟩ = some (.slice (some ⟨g, 0, none⟩) n cap) := QB5.out.cell 1
          go_wp2_with fail
          refine (H6.out _ L5.out).mono ?_
          rintro e y6 ⟨rfl, hb6⟩
          have L6 := Lib.hid (wup0 L5.out hb6)
          clear za zb q0 q1
          have QA6 := Lib.hid (QA.out.later L6.out)
          have QB6 := Lib.hid (QB.out.later L6.out)
          clear hb6
          have za : w.heap.size < y6.heap.size := QA6.out.lt
          have zb : wo.heap.size + 1 < y6.heap.size := QB6.out.lt
          have p0 : y6.cell? ⟨w.heap.size, 0, none⟩ = some (.int .i64 (M : Int)) := QA6.out.cell 0
          have p1 : y6.cell? ⟨w.heap.size, 1, none⟩ = some (.slice (some ⟨g4, 0, none⟩) NA cap4) := QA6.out.cell 1
          go_wp2_with fail
          refine (H7.out _ L6.out).mono ?_
          rintro e y7 ⟨rfl, hb7⟩
          have L7 := Lib.hid (wup0 L6.out hb7)
          clear za zb p0 p1
          have QA7 := Lib.hid (QA.out.later L7.out)
          have QB7 := Lib.hid (QB.out.later L7.out)
          clear hb7
          have za : w.heap.size < y7.heap.size := QA7.out.lt
          have zb : wo.heap.size + 1 < y7.heap.size := QB7.out.lt
          have p0 : y7.cell? ⟨w.heap.size, 0, none⟩ = some (.int .i64 (M : Int)) := QA7.out.cell 0
          have p1 : y7.cell? ⟨w.heap.size, 1, none⟩ = some (.slice (some ⟨g4, 0, none⟩) NA cap4) := QA7.out.cell 1
          have q0 : y7.cell? ⟨wo.heap.size + 1, 0, none⟩ = some (.int .i64 (M : Int)) := QB7.out.cell 0
          have q1 : y7.cell? ⟨wo.heap.size + 1, 1, none⟩ = some (.slice (some ⟨g, 0, none⟩) n cap) := QB7.out.cell 1
          go_wp2_with fail
          refine (H8.out _ L7.out).mono ?_
          rintro e y8 ⟨rfl, hb8⟩
          have L8 := Lib.hid (wup0 L7.out hb8)
          clear za zb p0 p1 q0 q1
          have QA8 := Lib.hid (QA.out.later L8.out)
          have QB8 := Lib.hid (QB.out.later L8.out)
          clear hb8
          have za : w.heap.size < y8.heap.size := QA8.out.lt
          have zb : wo.heap.size + 1 < y8.heap.size := QB8.out.lt
          have p0 : y8.cell? ⟨w.heap.size, 0, none⟩ = some (.int .i64 (M : Int)) := QA8.out.cell 0
          have p1 : y8.cell? ⟨w.heap.size, 1, none⟩ = some (.slice (some ⟨g4, 0, none⟩) NA cap4) := QA8.out.cell 1
          have q0 : y8.cell? ⟨wo.heap.size + 1, 0, none⟩ = some (.int .i64 (M : Int)) := QB8.out.cell 0
          have q1 : y8.cell? ⟨wo.heap.size + 1, 1, none⟩ = some (.slice (some ⟨g, 0, none⟩) n cap) := QB8.out.cell 1
          go_wp2_with fail
          refine (H9.out _ L8.out).mono ?_
          rintro e y9 ⟨rfl, hb9⟩
          have L9 := Lib.hid (wup0 L8.out hb9)
          clear za zb p0 p1 q0 q1
          have QA9 := Lib.hid (QA.out.later L9.out)
          have QB9 := Lib.hid (QB.out.later L9.out)
          clear hb9
          have za : w.heap.size < y9.heap.size := QA9.out.lt
          have zb : wo.heap.size + 1 < y9.heap.size := QB9.out.lt
          have p0 : y9.cell? ⟨w.heap.size, 0, none⟩ = some (.int .i64 (M : Int)) := QA9.out.cell 0
          have p1 : y9.cell? ⟨w.heap.size, 1, none⟩ = some (.slice (some ⟨g4, 0, none⟩) NA cap4) := QA9.out.cell 1
          go_upto_region 32 with fail
          have Lp := Lib.hid (L9.out.alloc L9.out.size (.cells #[.int .u64 0, .int .u64 0] 36))
          have QAp := Lib.hid (QA9.out.alloc (.cells #[.int .u64 0, .int .u64 0] 36))
          have QBp := Lib.hid (QB9.out.alloc (.cells #[.int .u64 0, .int .u64 0] 36))
          clear za zb p0 p1
          generalize y9.alloc (.cells #[.int .u64 0, .int .u64 0] 36) = wp at *
          have za : w.heap.size < wp.heap.size := QAp.out.lt
          have p0 : wp.cell? ⟨w.heap.size, 0, none⟩ = some (.int .i64 (M : Int)) := QAp.out.cell 0
          have p1 : wp.cell? ⟨w.heap.size, 1, none⟩ = some (.slice (some ⟨g4, 0, none⟩) NA cap4) := QAp.out.cell 1
          have HKS : Hid (∀ w' : World, Below wp.heap.size wp w' → w'.cell? ⟨w.heap.size, 0, none⟩ = some (.int .i64 (M : Int)) ∧ w'.cell? ⟨w.heap.size, 1, none⟩ = some (.slice (some ⟨g4, 0, none⟩) NA cap4) ∧ Below wp.heap.size wp w') := Lib.hid fun w' hb => ⟨cell_keep hb p0, cell_keep hb p1, hb⟩
          go_cut [36, 37] (fun sx sy wx => WCut (F.a : Int) (F.b : Int) wp sx sy wx)
          case first =>
            go_region_held3 (fun w' => w'.cell? ⟨w.heap.size, 0, none⟩ = some (.int .i64 (M : Int)) ∧ w'.cell? ⟨w.heap.size, 1, none⟩ = some (.slice (some ⟨g4, 0, none⟩) NA cap4) ∧ Below wp.heap.size wp w')
              (first
                | exact HKS.out _ (by first | (with_reducible exact (Below.refl _ _).drew) | (with_reducible exact (wlast3 (by assumption))))
                | exact HKS.out _ (Below.alloc (wlast3 (by assumption)) (Below.size (wlast3 (by assumption))) _)
                | exact HKS.out _ (Below.drew (Below.alloc (Below.refl _ _) (Nat.le_refl _) _))
                | exact HKS.out _ hv7
                | exact HKS.out _ (Below.alloc hv7 hv7.size _)
                | exact HKS.out _ hv5
                | exact HKS.out _ (Below.setCell (Below.setCell (wlast3 (by assumption)) (by first | exact Nat.le_refl _ | exact hv5.size | exact hv7.size) _) (by first | exact Nat.le_refl _ | exact hv5.size | exact hv7.size) _))
              (first
                | (go_at_call 12
                   refine (lflat_any (M : Int) 1 _).mono ?_
                   rintro e v5 ⟨b5, rfl, hf5, hb5⟩
                   have hv5 : Below wp.heap.size wp v5 := Below.trans (by first | (with_reducible exact (Below.refl _ _).drew) | (with_reducible exact (wlast3 (by assumption)))) (hb5.mono (Below.size (B := wp.heap.size) (w := wp) (by first | (with_reducible exact (Below.refl _ _).drew) | (with_reducible exact (wlast3 (by assumption))))))
                   try (have z5 : Blk v5 wp.heap.size #[.int .u64 0, .int .u64 0] 36 := (Blk.drew (Blk.new _ _ _)).later hb5)
                   try (have z5a := z5.cell 0; have z5b := z5.cell 1; have z5c := z5.fr 0; have z5d := z5.fr 1))
                | (go_at_call 11
                   refine (H11.out _ (Lp.out.trans (Below.mono (by first | (with_reducible exact (Below.refl _ _).drew) | (with_reducible exact (wlast3 (by assumption)))) Lp.out.size)) b5 ?_).mono ?_
                   · first | exact hf5 | exact hf5.keep ((Below.refl _ _).alloc (Nat.le_refl _) _)
                   rintro e v7 ⟨rfl, hb7⟩
                   have hv7 : Below wp.heap.size wp v7 := Below.trans (by first | (with_reducible exact (Below.refl _ _).drew) | (with_reducible exact (wlast3 (by assumption)))) (hb7.mono (Below.size (B := wp.heap.size) (w := wp) (by first | (with_reducible exact (Below.refl _ _).drew) | (with_reducible exact (wlast3 (by assumption))))))
                   try (have z7 : Blk v7 wp.heap.size #[.int .u64 0, .int .u64 0] 36 := z5.later hb7)
                   try (have z7 : Blk v7 v5.heap.size #[.int .u64 0, .int .u64 0] 36 := (Blk.new _ _ _).later hb7)
                   try (have z7a := z7.cell 0; have z7b := z7.cell 1; have z7c := z7.fr 0; have z7d := z7.fr 1)))
            all_goals (go_wp2_with fail; go_meet; refine ⟨rfl, wlast3 (by assumption), _, rfl, ?_⟩; first | exact Blk.new _ _ _ | exact (z7.set 0 _).set 1 _)
          case rest =>
            clear za p0 p1 HKS
            obtain ⟨rfl, hbx, bx, rfl, hx⟩ := hcut
            obtain ⟨y11, rfl⟩ : ∃ y11 : World, y11 = wc := ⟨_, rfl⟩
            have L11 := Lib.hid (Lp.out.trans (hbx.mono Lp.out.size))
            have HX := Lib.hid hx
            have LA := Lib.hid (L11.out.alloc L11.out.size (.cells #[.int .u64 0, .int .u64 0] 36))
            have LB := Lib.hid (LA.out.alloc LA.out.size (.cells #[.int .i64 (M : Int)] 3))
            have IB : Hid (IntCells ((y11.alloc (.cells #[.int .u64 0, .int .u64 0] 36)).alloc (.cells #[.int .i64 (M : Int)] 3)) (some ⟨y11.heap.size + 1, 0, none⟩) [(M : Int)]) := IntCells.one (Blk.new' (y11.alloc (.cells #[.int .u64 0, .int .u64 0] 36)) (World.size_alloc _ _) _ _)
            have HX2 := Lib.hid ((HX.out.alloc (.cells #[.int .u64 0, .int .u64 0] 36)).alloc (.cells #[.int .i64 (M : Int)] 3))
            have HY2 := Lib.hid ((Blk.new y11 #[.int .u64 0, .int .u64 0] 36).alloc (.cells #[.int .i64 (M : Int)] 3))
            have HNE : Hid (bx ≠ y11.heap.size) := by show _ ≠ _; have := hx.lt; omega
            clear hbx hx
            go_wp2_with fail
            refine (HOF.out _ LB.out _ IB.out).mono ?_
            rintro e y12 ⟨rfl, hb12⟩
            have L12 := Lib.hid (LB.out.trans (hb12.mono LB.out.size))
            have HX3 := HX2.out.later hb12
            have HY3 := HY2.out.later hb12
            have zx : bx < y12.heap.size := HX3.lt
            have zy : y11.heap.size < y12.heap.size := HY3.lt
            have r0 : y12.cell? ⟨bx, 0, none⟩ = some (.int .u64 (F.a : Int)) := HX3.cell 0
            have r1 : y12.cell? ⟨bx, 1, none⟩ = some (.int .u64 (F.b : Int)) := HX3.cell 1
            have t0 : y12.cell? ⟨y11.heap.size, 0, none⟩ = some (.int .u64 0) := HY3.cell 0
            have t1 : y12.cell? ⟨y11.heap.size, 1, none⟩ = some (.int .u64 0) := HY3.cell 1
            have f0 := HY3.fr 0
            have f1 := HY3.fr 1
            have hne := HNE.out
            have hne2 : y11.heap.size ≠ bx := fun e => hne e.symm
            have LC : Hid (Below (w4.setCell ⟨w.heap.size, 1, none⟩ (.slice (some ⟨g4, 0, none⟩) NA cap4)).heap.size (w4.setCell ⟨w.heap.size, 1, none⟩ (.slice (some ⟨g4, 0, none⟩) NA cap4)) ((y12.setCell ⟨y11.heap.size, 0, none⟩ (.int .u64 (F.a : Int))).setCell ⟨y11.heap.size, 1, none⟩ (.int .u64 (F.b : Int)))) := (L12.out.setCell L11.out.size _).setCell L11.out.size _
            have heq := eq_setsW (F.a : Int) (F.b : Int)
            clear hb12 HX3 HY3
            go_wp2_with fail
            refine (HWW.out _ LC.out).mono ?_
            rintro e y13 ⟨rfl, hb13⟩
            have HE := Lib.hid (HB0.out.trans ((LC.out.trans (hb13.mono LC.out.size)).mono HB0.out.size))
            clear hb13
            go_wp2
            go_ret
            exact ⟨rfl, HE.out⟩
theorem wide_any (n0 v0 : Int) (low : Bool) (w : World) (h0 : 0 ≤ n0 ∧ n0 ≤ 255) (hv : 0 ≤ v0 ∧ v0 ≤ 255) (ht : Tab w) :
    Calls Tryd.prog 3 #[.int .u8 n0, .bool low, .int .u8 v0] w fun e w' => e = .returned (.bool true) ∧ Below w.heap.size w w' := by
  by_cases hm : n0 % 129 = 0
  · exact wide_zero n0 v0 low w h0.1 h0.2 hm ht
  · obtain ⟨M, hM⟩ := Int.eq_ofNat_of_zero_le (show 0 ≤ n0 % 129 by omega)
    cases low
    · exact wide_pos n0 v0 M w h0.1 h0.2 hv.1 hv.2 hM (by omega) (by omega) ht
    · exact wide_neg n0 v0 M w h0.1 h0.2 hv.1 hv.2 hM (by omega) (by omega) ht
end Go.Proofs.YteoopkogpjhneaaDoor
