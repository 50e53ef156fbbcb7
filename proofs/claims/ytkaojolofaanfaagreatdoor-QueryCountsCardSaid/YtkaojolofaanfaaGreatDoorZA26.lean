/- Part of the proofs that laws of censuslaw38 return true for every input, where the tables that the rows list are laid. Texts: Nat5, Num, SumP. -/
import Derived.Test.YtkaojolofaanfaaGreatDoorZA25
import Derived.Laws.EntriesVeiled
import Derived.Test.YtkaojolofaanfaaGreatDoorZA18

/- The walk of nat.Mul at small numbers. -/
namespace Go.Proofs.YtkaojolofaanfaaGreatDoor
open Go.RowKit Cen
set_option maxHeartbeats 2000000
set_option maxRecDepth 100000
theorem mul_any (x y : Nat) (hx : x < 65536) (hy : y < 65536) (hxy : x * y < 65536) (w : World) : Calls Tryz.prog 134 #[natv x, natv y] w fun e w' => e = .returned (natv (x * y)) ∧ Below w.heap.size w w' := by
  have HX := Lib.hid hx
  have HY := Lib.hid hy
  have hwx := words_any x hx
  have hwy := words_any y hy
  clear hx hy
  unfold natv at hwx hwy ⊢
  generalize natB x = s at *
  generalize natB y = t at *
  have HWX := Lib.hid hwx
  have HWY := Lib.hid hwy
  clear hwx hwy
  go_enter Tryz.func134, Tryz.ntmps134
  go_wp2_with fail
  have k0 := (((Blk.new w #[.string s] 32).alloc (.cells #[.string t] 32)).alloc (.cells #[.string ⟨#[]⟩] 32))
  have k1 := ((Blk.new' (w.alloc (.cells #[.string s] 32)) (b := w.heap.size + 1) (by simp) #[.string t] 32).alloc (.cells #[.string ⟨#[]⟩] 32))
  have k2 := Blk.new' ((w.alloc (.cells #[.string s] 32)).alloc (.cells #[.string t] 32)) (b := w.heap.size + 1 + 1) (by simp) #[.string ⟨#[]⟩] 32
  have hb : Below w.heap.size w (((w.alloc (.cells #[.string s] 32)).alloc (.cells #[.string t] 32)).alloc (.cells #[.string ⟨#[]⟩] 32)) := (((Below.refl _ w).alloc (Nat.le_refl _) _).alloc (by simp) _).alloc (by simp; omega) _
  generalize (((w.alloc (.cells #[.string s] 32)).alloc (.cells #[.string t] 32)).alloc (.cells #[.string ⟨#[]⟩] 32)) = W at *
  have HK2 := Lib.hid k2
  have HB := Lib.hid hb
  have c0 : W.cell? ⟨w.heap.size, 0, none⟩ = some (.string s) := k0.cell 0
  have c1 : W.cell? ⟨w.heap.size + 1, 0, none⟩ = some (.string t) := k1.cell 0
  have HKS : Hid (∀ w' : World, Below W.heap.size W w' → w'.cell? ⟨w.heap.size, 0, none⟩ = some (.string s) ∧ w'.cell? ⟨w.heap.size + 1, 0, none⟩ = some (.string t) ∧ Below W.heap.size W w') := Lib.hid fun w' hb => ⟨cell_keep hb c0, cell_keep hb c1, hb⟩
  clear k0 k1 k2 hb
  go_upto_region 2 with fail
  go_cut [5, 6] (fun sx sy wx => WC W x y sx sy wx)
  case first =>
    go_region_with (go_at_call 174
                    first
                      | (with_reducible refine Calls.mono (HWX.out W.drew) ?_
                         rintro e v5 ⟨rfl, hk5, hb5⟩
                         have hv5 : Below W.heap.size W v5 := (Below.refl W.heap.size W).drew.trans (hb5.mono (Nat.le_refl _))
                         have d0 := cell_keep hv5 c0
                         have d1 := cell_keep hv5 c1)
                      | (with_reducible refine Calls.mono (HWY.out _) ?_
                         rintro e v6 ⟨rfl, hk6, hb6⟩))
    all_goals (go_wp2_with fail; go_meet; exact WC.one hk5 hv5 hk6 hb6)
  case rest =>
    obtain ⟨bx, bz, rfl, rfl, hX, hZ, hbw⟩ := hcut.ex
    have hK := HK2.out.later hbw
    have HK := Lib.hid hK
    have rc := hK.cell 0
    have rf := hK.fr 0
    have rl := hK.lt
    have HBW := Lib.hid (HB.out.trans (hbw.mono HB.out.size))
    clear hcut hbw hK HKS c0 c1 HWX HWY HK2 HB
    have hx := HX.out
    have hy := HY.out
    have lx := hX.lt
    have lz := hZ.lt
    have HXY := Lib.hid hxy
    rcases Nat.eq_zero_or_pos x with rfl | hx0
    · have e1 : wl 0 = 0 := rfl
      rcases Nat.eq_zero_or_pos y with rfl | hx0
      · rw [e1]
        have hmk := mkw0
        clear e1 hX hZ
        go_wp2_with fail
        refine wp_loop_rounds 1 ?_
        rw [rounds_succ]
        go_wp2_with fail
        have kb := True.intro
        refine Calls.mono (from_0 _ _ _) ?_
        rintro e w1 ⟨rfl, hb1⟩
        have hbc : Below wc.heap.size wc w1 := ((Below.refl _ wc).alloc (Nat.le_refl _) _).trans (hb1.mono (by simp))
        have k1 := HK.out.later hbc
        have HK1 := Lib.hid k1
        have HB1 := Lib.hid (HBW.out.trans (hbc.mono HBW.out.size))
        have rc := k1.cell 0
        have rf := k1.fr 0
        have rl := k1.lt
        clear k1 hb1 hbc kb
        unfold natv
        go_wp2
        have e0 : (w1.setCell ⟨w.heap.size + 1 + 1, 0, none⟩ (.string (natB (0)))).cell? ⟨w.heap.size + 1 + 1, 0, none⟩ = some (.string (natB (0))) := (HK1.out.set 0 _).cell 0
        exact bodyPost_ret (v := .agg #[.string (natB (0))]) (by simp [results, Tryz.results134, go_sem, e0]) rfl ⟨rfl, HB1.out.setCell (show w.heap.size ≤ (⟨w.heap.size + 1 + 1, 0, none⟩ : Addr).block by simp; omega) _⟩
      · have e2 : wl y = 1 := if_neg (by omega)
        rw [e1, e2]
        have hmk1 := mkw1
        clear e1 e2 hX hZ
        go_wp2_with fail
        refine wp_loop_rounds 1 ?_
        rw [rounds_succ]
        go_wp2_with fail
        have kb := Blk.new wc #[.int .u32 (((0 : Nat) : Int))] 100
        refine Calls.mono (from1_any (0) (by omega) wc.heap.size _ kb) ?_
        rintro e w1 ⟨rfl, hb1⟩
        have hbc : Below wc.heap.size wc w1 := ((Below.refl _ wc).alloc (Nat.le_refl _) _).trans (hb1.mono (by simp))
        have k1 := HK.out.later hbc
        have HK1 := Lib.hid k1
        have HB1 := Lib.hid (HBW.out.trans (hbc.mono HBW.out.size))
        have rc := k1.cell 0
        have rf := k1.fr 0
        have rl := k1.lt
        clear k1 hb1 hbc kb
        unfold natv
        go_wp2
        have e0 : (w1.setCell ⟨w.heap.size + 1 + 1, 0, none⟩ (.string (natB (0)))).cell? ⟨w.heap.size + 1 + 1, 0, none⟩ = some (.string (natB (0))) := (HK1.out.set 0 _).cell 0
        exact bodyPost_ret (v := .agg #[.string (natB (0))]) (by simp [results, Tryz.results134, go_sem, e0]) rfl ⟨by rw [Nat.zero_mul], HB1.out.setCell (show w.heap.size ≤ (⟨w.heap.size + 1 + 1, 0, none⟩ : Addr).block by simp; omega) _⟩
    · have e2 : wl x = 1 := if_neg (by omega)
      have e3 : wcells x = #[.int .u32 (x : Int)] := if_neg (by omega)
      rw [e3] at hX
      have cx := hX.cell 0
      rcases Nat.eq_zero_or_pos y with rfl | hy0
      · have e1 : wl 0 = 0 := rfl
        rw [e1, e2]
        have hmk1 := mkw1
        clear e1 e2 e3 hX hZ hx0
        go_wp2_with fail
        refine wp_loop_rounds 2 ?_
        rw [rounds_succ]
        go_wp2
        refine wp_loop_rounds 1 ?_
        rw [rounds_succ]
        go_wp2
        rw [rounds_succ]
        go_wp2_with fail
        have kb := Blk.new wc #[.int .u32 (((0 : Nat) : Int))] 100
        refine Calls.mono (from1_any (0) (by omega) wc.heap.size _ kb) ?_
        rintro e w1 ⟨rfl, hb1⟩
        have hbc : Below wc.heap.size wc w1 := ((Below.refl _ wc).alloc (Nat.le_refl _) _).trans (hb1.mono (by simp))
        have k1 := HK.out.later hbc
        have HK1 := Lib.hid k1
        have HB1 := Lib.hid (HBW.out.trans (hbc.mono HBW.out.size))
        have rc := k1.cell 0
        have rf := k1.fr 0
        have rl := k1.lt
        clear k1 hb1 hbc kb
        unfold natv
        go_wp2
        have e0 : (w1.setCell ⟨w.heap.size + 1 + 1, 0, none⟩ (.string (natB (0)))).cell? ⟨w.heap.size + 1 + 1, 0, none⟩ = some (.string (natB (0))) := (HK1.out.set 0 _).cell 0
        exact bodyPost_ret (v := .agg #[.string (natB (0))]) (by simp [results, Tryz.results134, go_sem, e0]) rfl ⟨by rw [Nat.mul_zero], HB1.out.setCell (show w.heap.size ≤ (⟨w.heap.size + 1 + 1, 0, none⟩ : Addr).block by simp; omega) _⟩
      · have e1 : wl y = 1 := if_neg (by omega)
        have e4 : wcells y = #[.int .u32 (y : Int)] := if_neg (by omega)
        rw [e1, e2]
        rw [e4] at hZ
        have cy := hZ.cell 0
        have hmk2 := mkw2
        have a9 : (x : Int) * (y : Int) = ((x * y : Nat) : Int) := (Int.natCast_mul x y).symm
        have a0 : 0 ≤ (x : Int) * (y : Int) := by omega
        have a1 : ((x : Int) * (y : Int)) % 4294967296 = ((x : Int) * (y : Int)) := by omega
        have a2 : ((x : Int) * (y : Int)) / 4294967296 = 0 := by omega
        have a3 : ((x : Int) * (y : Int)) % 18446744073709551616 = ((x : Int) * (y : Int)) := by omega
        clear e1 e2 e3 e4 hX hZ hx0 hy0 a9
        go_wp2_with fail
        refine wp_loop_rounds 2 ?_
        rw [rounds_succ]
        go_wp2
        refine wp_loop_rounds 2 ?_
        rw [rounds_succ]
        go_wp2
        go_region
        go_wp2
        rw [rounds_succ]
        go_wp2
        rw [rounds_succ]
        go_wp2_with fail
        have ek : (x : Int) * (y : Int) = ((x * y : Nat) : Int) := by omega
        have kb : Blk (wc.alloc (.cells #[.int .u32 ((x : Int) * (y : Int)), .int .u32 0] 100)) wc.heap.size #[.int .u32 ((x * y : Nat) : Int), .int .u32 0] 100 := by rw [← ek]; exact Blk.new _ _ _
        clear ek
        refine Calls.mono (from2_any (x * y) (by omega) wc.heap.size _ kb) ?_
        rintro e w1 ⟨rfl, hb1⟩
        have hbc : Below wc.heap.size wc w1 := ((Below.refl _ wc).alloc (Nat.le_refl _) _).drew.trans (hb1.mono (by simp))
        have k1 := HK.out.later hbc
        have HK1 := Lib.hid k1
        have HB1 := Lib.hid (HBW.out.trans (hbc.mono HBW.out.size))
        have rc := k1.cell 0
        have rf := k1.fr 0
        have rl := k1.lt
        clear k1 hb1 hbc kb
        unfold natv
        go_wp2
        have e0 : (w1.setCell ⟨w.heap.size + 1 + 1, 0, none⟩ (.string (natB (x * y)))).cell? ⟨w.heap.size + 1 + 1, 0, none⟩ = some (.string (natB (x * y))) := (HK1.out.set 0 _).cell 0
        exact bodyPost_ret (v := .agg #[.string (natB (x * y))]) (by simp [results, Tryz.results134, go_sem, e0]) rfl ⟨rfl, HB1.out.setCell (show w.heap.size ≤ (⟨w.heap.size + 1 + 1, 0, none⟩ : Addr).block by simp; omega) _⟩
end Go.Proofs.YtkaojolofaanfaaGreatDoor

/- The walks of count.numbers and its closures. -/
namespace Go.Proofs.YtkaojolofaanfaaGreatDoor
open Go.RowKit Cen
set_option maxHeartbeats 2000000
set_option maxRecDepth 100000
def wF (B : Nat) : Value := .func (.func 129) #[] #[.pointer (some ⟨B, 0, none⟩)]
def bF (B : Nat) : Value := .func (.func 135) #[] #[.pointer (some ⟨B, 0, none⟩)]
def ringV (B : Nat) : Value := .agg #[.func (.func 131) #[] #[], .func (.func 132) #[] #[], .func (.func 133) #[] #[], .func (.func 134) #[] #[], wF B, bF (B + 1 + 1)]
theorem numbers_any (w : World) : Calls Tryz.prog 66 #[.int .i64 0] w fun e w' => e = .returned (ringV w.heap.size) ∧ Blk w' w.heap.size #[.int .i64 0] 3 ∧ Blk w' (w.heap.size + 1 + 1) #[wF w.heap.size] 36 ∧ Below w.heap.size w w' := by
  go_enter Tryz.func66, Tryz.ntmps66
  go_wp2
  refine bodyPost_ret (v := ringV w.heap.size) (by simp [results, Tryz.results66, go_sem, ringV, wF, bF]) rfl ⟨rfl, ?_, ?_, (((Below.refl _ w).alloc (Nat.le_refl _) _).alloc (by simp) _).alloc (by simp; omega) _⟩
  · exact ((Blk.new w _ _).alloc _).alloc _
  · exact Blk.new' _ (by simp) _ _
theorem zero_any (w : World) : Calls Tryz.prog 131 #[] w fun e w' => e = .returned (natv 0) ∧ Below w.heap.size w w' := by
  go_enter Tryz.func131, Tryz.ntmps131
  go_wp2
  exact bodyPost_ret (v := .agg #[.string ⟨#[]⟩]) (by simp [results, Tryz.results131, go_sem]) rfl ⟨rfl, (Below.refl _ w).alloc (Nat.le_refl _) _⟩
theorem one_any (w : World) : Calls Tryz.prog 132 #[] w fun e w' => e = .returned (natv 1) ∧ Below w.heap.size w w' := by
  go_enter Tryz.func132, Tryz.ntmps132
  go_wp2_with fail
  refine (of_any 1 (by omega) _).mono ?_
  rintro e w1 ⟨rfl, hb1⟩
  have k : Blk w1 w.heap.size #[.string ⟨#[]⟩] 32 := (Blk.new w _ _).later hb1
  have HK := Lib.hid k
  have hc0 := k.cell 0
  have hf0 := k.fr 0
  have hl0 := k.lt
  have HB := Lib.hid (((Below.refl w.heap.size w).alloc (Nat.le_refl _) (.cells #[.string ⟨#[]⟩] 32)).trans (hb1.mono (by simp)))
  clear k hb1
  unfold natv
  go_wp2
  have e0 : (w1.setCell ⟨w.heap.size, 0, none⟩ (.string (natB 1))).cell? ⟨w.heap.size, 0, none⟩ = some (.string (natB 1)) := (HK.out.set 0 _).cell 0
  exact bodyPost_ret (v := .agg #[.string (natB 1)]) (by simp [results, Tryz.results132, go_sem, e0]) rfl ⟨rfl, HB.out.setCell (show w.heap.size ≤ (⟨w.heap.size, 0, none⟩ : Addr).block from Nat.le_refl _) _⟩
theorem weight_any (l : Int) (hl : l ≠ 0) (B : Nat) (w : World) (hB : Blk w B #[.int .i64 0] 3) : Calls Tryz.prog 129 #[.int .i64 l, .pointer (some ⟨B, 0, none⟩)] w fun e w' => e = .returned (natv 1) ∧ Below w.heap.size w w' := by
  have hc := hB.cell 0
  have hlt := hB.lt
  have hd : (l == 0) = false := by simpa using hl
  clear hB
  go_enter Tryz.func129, Tryz.ntmps129
  go_wp2_with fail
  refine (of_any 1 (by omega) _).mono ?_
  rintro e w1 ⟨rfl, hb1⟩
  have k : Blk w1 w.heap.size #[.string ⟨#[]⟩] 32 := (Blk.new w _ _).later hb1
  have HK := Lib.hid k
  have hc0 := k.cell 0
  have hf0 := k.fr 0
  have hl0 := k.lt
  have HB := Lib.hid (((Below.refl w.heap.size w).alloc (Nat.le_refl _) (.cells #[.string ⟨#[]⟩] 32)).trans (hb1.mono (by simp)))
  clear k hb1
  unfold natv
  go_wp2
  have e0 : (w1.setCell ⟨w.heap.size, 0, none⟩ (.string (natB 1))).cell? ⟨w.heap.size, 0, none⟩ = some (.string (natB 1)) := (HK.out.set 0 _).cell 0
  exact bodyPost_ret (v := .agg #[.string (natB 1)]) (by simp [results, Tryz.results129, go_sem, e0]) rfl ⟨rfl, HB.out.setCell (show w.heap.size ≤ (⟨w.heap.size, 0, none⟩ : Addr).block from Nat.le_refl _) _⟩
theorem callable_w : Callable 129 := fun _ _ => by kernel_rfl
theorem callable_b : Callable 135 := fun _ _ => by kernel_rfl
theorem callable_0 : Callable 131 := fun _ _ => by kernel_rfl
theorem callable_1 : Callable 132 := fun _ _ => by kernel_rfl
theorem callable_add : Callable 133 := fun _ _ => by kernel_rfl
theorem callable_mul : Callable 134 := fun _ _ => by kernel_rfl
theorem both_any (v : Int) (hv1 : 1 ≤ v) (hv2 : v ≤ 128) (B C : Nat) (w : World) (hB : Blk w B #[.int .i64 0] 3) (hC : Blk w C #[wF B] 36) : Calls Tryz.prog 135 #[.int .i64 v, .pointer (some ⟨C, 0, none⟩)] w fun e w' => e = .returned (natv 2) ∧ Below w.heap.size w w' := by
  have hcw : ∀ (args : Array Value) (w : World), (callFunc 129 args).run Tryz.prog w = .ok (.enter 129 args) w := callable_w
  have HB := Lib.hid hB
  have hc := hC.cell 0
  have hlt := hC.lt
  have HA := Lib.hid (fun W => add_any 1 1 (by omega) (by omega) (by omega) W)
  have HN1 := Lib.hid (show v ≠ 0 by omega)
  have HN2 : Hid (IntKind.i64.wrap (-v) ≠ 0) := by show _ ≠ _; rw [IntWalk.i64_in _ (by omega)]; omega
  unfold wF at hc
  have c0 : w.cell? ⟨C, 0, none⟩ = some (.func (.func 129) #[] #[.pointer (some ⟨B, 0, none⟩)]) := hc
  clear hc hB hC hv1 hv2
  have HW0 := HB
  go_enter Tryz.func135, Tryz.ntmps135
  go_wp2_with fail
  have kr := Blk.new w #[.string ⟨#[]⟩] 32
  have hb0 : Below w.heap.size w (w.alloc (.cells #[.string ⟨#[]⟩] 32)) := (Below.refl _ w).alloc (Nat.le_refl _) _
  have c0' := cell_keep hb0 c0
  have HBB := Lib.hid (HB.out.later hb0)
  have hlt' : C < (w.alloc (.cells #[.string ⟨#[]⟩] 32)).heap.size := by simp; omega
  clear c0 hlt
  generalize w.alloc (.cells #[.string ⟨#[]⟩] 32) = W at *
  have HR := Lib.hid kr
  have HL := Lib.hid hb0
  have HW1 := Lib.hid (fun (V : World) (h : Below W.heap.size W V) => weight_any v HN1.out B V (HBB.out.later h))
  have HW2 := Lib.hid (fun (V : World) (h : Below W.heap.size W V) => weight_any (IntKind.i64.wrap (-v)) HN2.out B V (HBB.out.later h))
  have rl0 := kr.lt
  clear kr hb0
  go_region_with (first
    | (go_at_call 129
       with_reducible refine Calls.mono (HW1.out _ ((Below.refl _ _).drew)) ?_
       rintro e v5 ⟨rfl, hb5⟩
       have hv5 : Below W.heap.size W v5 := (Below.refl W.heap.size W).drew.trans (hb5.mono (Nat.le_refl _))
       have d0 := cell_keep hv5 c0'
       have dl : C < v5.heap.size := Nat.lt_of_lt_of_le hlt' hv5.size)
    | (go_at_call 129
       with_reducible refine Calls.mono (HW2.out _ hv5) ?_
       rintro e v6 ⟨rfl, hb6⟩
       have hv6 : Below W.heap.size W v6 := hv5.trans (hb6.mono hv5.size))
    | (go_at_call 133
       with_reducible refine Calls.mono (HA.out _) ?_
       rintro e v7 ⟨rfl, hb7⟩
       have hv7 : Below W.heap.size W v7 := hv6.trans (hb7.mono hv6.size)
       have k7 := HR.out.later hv7
       have rc := k7.cell 0
       have rf := k7.fr 0
       have rl := k7.lt
       unfold natv))
  all_goals
    go_wp2
    have e0 : (v7.setCell ⟨w.heap.size, 0, none⟩ (.string (natB 2))).cell? ⟨w.heap.size, 0, none⟩ = some (.string (natB 2)) := (k7.set 0 _).cell 0
    exact bodyPost_ret (v := .agg #[.string (natB 2)]) (by simp [results, Tryz.results135, go_sem, e0]) rfl ⟨rfl, (HL.out.trans (hv7.mono HL.out.size)).setCell (show w.heap.size ≤ (⟨w.heap.size, 0, none⟩ : Addr).block from Nat.le_refl _) _⟩
end Go.Proofs.YtkaojolofaanfaaGreatDoor

/- Plain: counting models; the sums of a decomposable and deterministic net. -/
namespace Cen
def setV (s : Int → Bool) (v : Int) (b : Bool) : Int → Bool := fun u => if u = v then b else s u
/-- How many values of the variables 1 to n make f true. -/
def cnt (f : (Int → Bool) → Bool) : Nat → (Int → Bool) → Nat
  | 0, s => if f s = true then 1 else 0
  | n + 1, s => cnt f n (setV s ((n : Int) + 1) false) + cnt f n (setV s ((n : Int) + 1) true)
def same0 (n : Nat) (s s' : Int → Bool) : Prop := ∀ u : Int, u < 1 ∨ (n : Int) < u → s' u = s u
theorem same0_step {n : Nat} {s s' : Int → Bool} {b : Bool} (h : same0 n (setV s ((n : Int) + 1) b) s') : same0 (n + 1) s s' := by
  intro u hu
  rw [h u (by omega)]
  unfold setV; rw [if_neg (by omega)]
theorem same0_of {n : Nat} {s s' : Int → Bool} (h : same0 (n + 1) s s') : same0 n (setV s ((n : Int) + 1) (s' ((n : Int) + 1))) s' := by
  intro u hu
  unfold setV
  by_cases e : u = (n : Int) + 1
  · rw [if_pos e, e]
  · rw [if_neg e]; exact h u (by omega)
theorem cnt_congr {f g : (Int → Bool) → Bool} : ∀ (n : Nat) (s : Int → Bool), (∀ s', same0 n s s' → f s' = g s') → cnt f n s = cnt g n s
  | 0, s, h => by
    unfold cnt; rw [h s fun _ _ => rfl]
  | n + 1, s, h => by
    unfold cnt
    rw [cnt_congr n _ fun s' hs => h s' (same0_step hs), cnt_congr n _ fun s' hs => h s' (same0_step hs)]
theorem cnt_le (f : (Int → Bool) → Bool) : ∀ (n : Nat) (s : Int → Bool), cnt f n s ≤ 2 ^ n
  | 0, s => by unfold cnt; split <;> simp
  | n + 1, s => by
    unfold cnt
    have h1 := cnt_le f n (setV s ((n : Int) + 1) false)
    have h2 := cnt_le f n (setV s ((n : Int) + 1) true)
    rw [Nat.pow_succ]; omega
theorem cnt_pos (f : (Int → Bool) → Bool) : ∀ (n : Nat) (s : Int → Bool), 0 < cnt f n s ↔ ∃ s', same0 n s s' ∧ f s' = true
  | 0, s => by
    unfold cnt
    constructor
    · intro h
      by_cases e : f s = true
      · exact ⟨s, fun _ _ => rfl, e⟩
      · rw [if_neg e] at h; omega
    · rintro ⟨s', h1, h2⟩
      have : s' = s := funext fun u => h1 u (by omega)
      rw [this] at h2
      rw [if_pos h2]; omega
  | n + 1, s => by
    unfold cnt
    have h1 := cnt_pos f n (setV s ((n : Int) + 1) false)
    have h2 := cnt_pos f n (setV s ((n : Int) + 1) true)
    constructor
    · intro h
      by_cases e : 0 < cnt f n (setV s ((n : Int) + 1) false)
      · obtain ⟨s', a, b⟩ := h1.1 e
        exact ⟨s', same0_step a, b⟩
      · obtain ⟨s', a, b⟩ := h2.1 (by omega)
        exact ⟨s', same0_step a, b⟩
    · rintro ⟨s', a, b⟩
      have c := same0_of a
      cases hb : s' ((n : Int) + 1) with
      | false => rw [hb] at c; have := h1.2 ⟨s', c, b⟩; omega
      | true => rw [hb] at c; have := h2.2 ⟨s', c, b⟩; omega
theorem cnt_full (f : (Int → Bool) → Bool) : ∀ (n : Nat) (s : Int → Bool), cnt f n s = 2 ^ n ↔ ∀ s', same0 n s s' → f s' = true
  | 0, s => by
    unfold cnt
    constructor
    · intro h s' hs
      have : s' = s := funext fun u => hs u (by omega)
      rw [this]
      by_cases e : f s = true
      · exact e
      · rw [if_neg e] at h; simp at h
    · intro h
      rw [if_pos (h s fun _ _ => rfl)]
  | n + 1, s => by
    unfold cnt
    have h1 := cnt_full f n (setV s ((n : Int) + 1) false)
    have h2 := cnt_full f n (setV s ((n : Int) + 1) true)
    have l1 := cnt_le f n (setV s ((n : Int) + 1) false)
    have l2 := cnt_le f n (setV s ((n : Int) + 1) true)
    rw [Nat.pow_succ]
    constructor
    · intro h s' hs
      have c := same0_of hs
      cases hb : s' ((n : Int) + 1) with
      | false => rw [hb] at c; exact h1.1 (by omega) s' c
      | true => rw [hb] at c; exact h2.1 (by omega) s' c
    · intro h
      have a := h1.2 fun s' hs => h s' (same0_step hs)
      have b := h2.2 fun s' hs => h s' (same0_step hs)
      omega
theorem cnt_true (n : Nat) (s : Int → Bool) : cnt (fun _ => true) n s = 2 ^ n := (cnt_full _ n s).2 fun _ _ => rfl
theorem cnt_false (n : Nat) (s : Int → Bool) : cnt (fun _ => false) n s = 0 := by
  rcases Nat.eq_zero_or_pos (cnt (fun _ => false) n s) with h | h
  · exact h
  · obtain ⟨_, _, h⟩ := (cnt_pos _ n s).1 h
    simp at h
theorem cnt_or {f g : (Int → Bool) → Bool} : ∀ (n : Nat) (s : Int → Bool), (∀ s', ¬ (f s' = true ∧ g s' = true)) → cnt (fun s => f s || g s) n s = cnt f n s + cnt g n s
  | 0, s, h => by
    unfold cnt
    have := h s
    cases hf : f s <;> cases hg : g s <;> simp_all
  | n + 1, s, h => by
    unfold cnt
    rw [cnt_or n _ h, cnt_or n _ h]; omega
/-- f hangs on the variables of A alone. -/
def dep (f : (Int → Bool) → Bool) (A : Int → Bool) : Prop := ∀ s s' : Int → Bool, (∀ v, A v = true → s v = s' v) → f s = f s'
theorem cnt_dep {f : (Int → Bool) → Bool} {A : Int → Bool} (h : dep f A) : ∀ (n : Nat) (s s' : Int → Bool), (∀ v, A v = true → s v = s' v) → cnt f n s = cnt f n s'
  | 0, s, s', hs => by unfold cnt; rw [h s s' hs]
  | n + 1, s, s', hs => by
    unfold cnt
    have key : ∀ b, ∀ v, A v = true → setV s ((n : Int) + 1) b v = setV s' ((n : Int) + 1) b v := fun b v hv => by
      unfold setV; split
      · rfl
      · exact hs v hv
    rw [cnt_dep h n _ _ (key false), cnt_dep h n _ _ (key true)]
theorem cnt_off {f : (Int → Bool) → Bool} {A : Int → Bool} (h : dep f A) {n : Nat} {s : Int → Bool} {v : Int} (hv : A v = false) (b c : Bool) : cnt f n (setV s v b) = cnt f n (setV s v c) := by
  refine cnt_dep h n _ _ fun u hu => ?_
  unfold setV
  by_cases e : u = v
  · rw [e, hv] at hu; simp at hu
  · rw [if_neg e, if_neg e]
theorem cnt_and {f g : (Int → Bool) → Bool} {A B : Int → Bool} (hf : dep f A) (hg : dep g B) (hd : ∀ v, ¬ (A v = true ∧ B v = true)) : ∀ (n : Nat) (s : Int → Bool), cnt (fun s => f s && g s) n s * 2 ^ n = cnt f n s * cnt g n s
  | 0, s => by
    unfold cnt
    cases hf : f s <;> cases hg : g s <;> simp_all
  | n + 1, s => by
    unfold cnt
    have h0 := cnt_and hf hg hd n (setV s ((n : Int) + 1) false)
    have h1 := cnt_and hf hg hd n (setV s ((n : Int) + 1) true)
    rw [Nat.pow_succ]
    cases hA : A ((n : Int) + 1) with
    | false =>
      have e := cnt_off hf (n := n) (s := s) hA true false
      rw [e] at h1 ⊢
      generalize cnt f n (setV s ((n : Int) + 1) false) = a at *
      generalize cnt g n (setV s ((n : Int) + 1) false) = x at *
      generalize cnt g n (setV s ((n : Int) + 1) true) = y at *
      rw [← Nat.mul_assoc, Nat.add_mul, h0, h1, ← Nat.mul_add, show a + a = a * 2 by omega, Nat.mul_assoc, Nat.mul_assoc, Nat.mul_comm (x + y) 2]
    | true =>
      have hB : B ((n : Int) + 1) = false := by
        cases hB : B ((n : Int) + 1) with
        | false => rfl
        | true => exact absurd ⟨hA, hB⟩ (hd _)
      have e := cnt_off hg (n := n) (s := s) hB true false
      rw [e] at h1 ⊢
      generalize cnt g n (setV s ((n : Int) + 1) false) = b at *
      generalize cnt f n (setV s ((n : Int) + 1) false) = x at *
      generalize cnt f n (setV s ((n : Int) + 1) true) = y at *
      rw [← Nat.mul_assoc, Nat.add_mul, h0, h1, ← Nat.add_mul, show b + b = b * 2 by omega, Nat.mul_assoc]
theorem cnt_var (b : Bool) {v : Int} (h1 : 1 ≤ v) : ∀ (n : Nat) (s : Int → Bool), v ≤ n → cnt (fun s => s v == b) n s * 2 = 2 ^ n
  | 0, s, h => by omega
  | n + 1, s, h => by
    unfold cnt
    by_cases e : v = (n : Int) + 1
    · have key : ∀ c : Bool, cnt (fun s => s v == b) n (setV s ((n : Int) + 1) c) = if c = b then 2 ^ n else 0 := fun c => by
        rw [cnt_congr (g := fun _ => c == b) n _ fun s' hs => by
          have := hs v (by omega)
          simp only [this, setV, if_pos e]]
        by_cases hc : c = b
        · rw [if_pos hc, show (fun _ : Int → Bool => c == b) = fun _ => true by funext _; simp [hc]]; exact cnt_true n _
        · rw [if_neg hc, show (fun _ : Int → Bool => c == b) = fun _ => false by funext _; simp [hc]]; exact cnt_false n _
      rw [key, key, Nat.pow_succ]
      cases b <;> simp
    · have i1 := cnt_var b h1 n (setV s ((n : Int) + 1) false) (by omega)
      have i2 := cnt_var b h1 n (setV s ((n : Int) + 1) true) (by omega)
      rw [Nat.pow_succ]; omega

/-! Sets of variables. -/
def card (s : St) : Nat := (List.range 128).countP fun (j : Nat) => s.mem ((j : Int) + 1)
theorem countP_or {p q : Nat → Bool} (h : ∀ j, ¬ (p j = true ∧ q j = true)) (l : List Nat) : l.countP (fun j => p j || q j) = l.countP p + l.countP q := by
  induction l with
  | nil => rfl
  | cons x l ih =>
    simp only [List.countP_cons, ih]
    have := h x
    cases hp : p x <;> cases hq : q x <;> simp_all <;> omega
theorem card_union {s t : St} (h : ∀ v, ¬ (s.mem v = true ∧ t.mem v = true)) : card (s.union t) = card s + card t := by
  unfold card
  rw [← countP_or (fun j => h _)]
  congr 1
  funext j
  rw [St.mem_union]
theorem card_le {s : St} {n : Nat} (hn : n ≤ 128) (h : ∀ v : Int, 1 ≤ v → s.mem v = true → v ≤ n) : card s ≤ n := by
  unfold card
  have e : List.range 128 = List.range n ++ (List.range (128 - n)).map (n + ·) := by
    rw [← List.range_add]; congr 1; omega
  rw [e, List.countP_append]
  have h1 : (List.range n).countP (fun (j : Nat) => s.mem ((j : Int) + 1)) ≤ n := by
    have := List.countP_le_length (p := fun j => s.mem (((j : Nat) : Int) + 1)) (l := List.range n)
    simpa using this
  have h2 : ((List.range (128 - n)).map (n + ·)).countP (fun (j : Nat) => s.mem ((j : Int) + 1)) = 0 := by
    rw [List.countP_eq_zero]
    intro j hj
    simp only [List.mem_map, List.mem_range] at hj
    obtain ⟨i, _, rfl⟩ := hj
    intro hm
    have := h _ (by omega) hm
    omega
  omega
def minus (s t : St) : Nat := (List.range 128).countP fun (j : Nat) => s.mem ((j : Int) + 1) && !t.mem ((j : Int) + 1)
theorem card_minus {s t : St} (h : ∀ v, t.mem v = true → s.mem v = true) : card s = card t + minus s t := by
  unfold card minus
  rw [← countP_or (fun j => by
    rintro ⟨a, b⟩
    rw [a] at b; simp at b)]
  congr 1
  funext j
  cases ht : t.mem ((j : Int) + 1) with
  | false => simp
  | true => simp [h _ ht]

/-! The sums of the nodes. -/
def sumIn (S : Int → Nat) (d : Int → Nat) (k : Int) (ins : List Int) : Nat :=
  if k = 1 ∨ k = 3 then ins.foldl (fun x i => x * S i) 1 else ins.foldl (fun x i => x + S i * 2 ^ d i) 0
def sumNd (S : Int → Nat) (d : Int → Nat) (x : Nd) : Nat := if x.kind = 2 then 1 else sumIn S d x.kind x.ins
def sAt (ss : List Nat) (i : Int) : Nat := ss.getD i.toNat 0
def sums (own : Int → St) : List Nd → List Nat → List Nat
  | [], ss => ss
  | x :: l, ss => sums own l (ss ++ [sumNd (sAt ss) (fun k => minus (own ss.length) (own k)) x])
def sumsL (l : List Nd) : List Nat := sums (vm l) l []
def sumT (N : Nat) (l : List Nd) : Nat := sAt (sumsL l) ((l.length - 1 : Nat) : Int) * 2 ^ (N - card (vm l ((l.length - 1 : Nat) : Int)))
theorem sums_prefix (own : Int → St) (l : List Nd) : ∀ ss : List Nat, ∃ us, sums own l ss = ss ++ us ∧ us.length = l.length := by
  induction l with
  | nil => intro ss; exact ⟨[], by simp [sums], rfl⟩
  | cons x l ih =>
    intro ss
    obtain ⟨us, h, hl⟩ := ih (ss ++ [sumNd (sAt ss) (fun k => minus (own ss.length) (own k)) x])
    exact ⟨sumNd (sAt ss) (fun k => minus (own ss.length) (own k)) x :: us, by simp [sums, h], by simp [hl]⟩
theorem sums_append (own : Int → St) (l r : List Nd) : ∀ ss : List Nat, sums own (l ++ r) ss = sums own r (sums own l ss) := by
  induction l with
  | nil => intro ss; rfl
  | cons x l ih => intro ss; simp only [List.cons_append, sums]; exact ih _
theorem sumsL_length (l : List Nd) : (sumsL l).length = l.length := by
  obtain ⟨us, h, hl⟩ := sums_prefix (vm l) l []
  unfold sumsL; rw [h]; simpa using hl
theorem fold_mul_congr {S S' : Int → Nat} : ∀ (ins : List Int) (x : Nat), (∀ k ∈ ins, S k = S' k) → ins.foldl (fun x k => x * S k) x = ins.foldl (fun x k => x * S' k) x
  | [], _, _ => rfl
  | k :: ins, x, h => by simp only [List.foldl_cons]; rw [h k (by simp), fold_mul_congr ins _ fun j hj => h j (by simp [hj])]
theorem fold_add_congr {S S' d : Int → Nat} : ∀ (ins : List Int) (x : Nat), (∀ k ∈ ins, S k = S' k) → ins.foldl (fun x k => x + S k * 2 ^ d k) x = ins.foldl (fun x k => x + S' k * 2 ^ d k) x
  | [], _, _ => rfl
  | k :: ins, x, h => by simp only [List.foldl_cons]; rw [h k (by simp), fold_add_congr ins _ fun j hj => h j (by simp [hj])]
theorem sumNd_congr {S S' d : Int → Nat} {x : Nd} (h : ∀ k ∈ x.ins, S k = S' k) : sumNd S d x = sumNd S' d x := by
  unfold sumNd
  by_cases c2 : x.kind = 2
  · rw [if_pos c2, if_pos c2]
  · rw [if_neg c2, if_neg c2]
    unfold sumIn
    by_cases c3 : x.kind = 1 ∨ x.kind = 3
    · rw [if_pos c3, if_pos c3]; exact fold_mul_congr _ _ h
    · rw [if_neg c3, if_neg c3]; exact fold_add_congr _ _ h
/-- The sum of a node by the sums of its inputs. -/
theorem sumsL_eq {l : List Nd} {n : Int} (hL : ndsOk l n l.length) {i : Nat} (hi : i < l.length) : sAt (sumsL l) i = sumNd (sAt (sumsL l)) (fun k => minus (vm l i) (vm l k)) (nd l (i : Int)) := by
  have hins := ndOk_ins (nd_ok hL (i := (i : Int)) (by omega) (by omega))
  have e : nd l (i : Int) = l[i] := by rw [nd_get (by omega) (by omega)]; simp
  rw [e] at hins ⊢
  obtain ⟨us, h1, hl1⟩ := sums_prefix (vm l) (l.take i) []
  have hlen : (sums (vm l) (l.take i) []).length = i := by rw [h1]; simp [hl1]; omega
  have hs0 : sumsL l = sums (vm l) (l.take i ++ l.drop i) [] := by rw [List.take_append_drop]; rfl
  have hs : sumsL l = sums (vm l) (l.drop (i + 1)) (sums (vm l) (l.take i) [] ++ [sumNd (sAt (sums (vm l) (l.take i) [])) (fun k => minus (vm l i) (vm l k)) l[i]]) := by
    rw [hs0, sums_append, List.drop_eq_getElem_cons hi, sums, hlen]
  obtain ⟨vs, h2, _⟩ := sums_prefix (vm l) (l.drop (i + 1)) (sums (vm l) (l.take i) [] ++ [sumNd (sAt (sums (vm l) (l.take i) [])) (fun k => minus (vm l i) (vm l k)) l[i]])
  rw [hs, h2]
  generalize sums (vm l) (l.take i) [] = ss at *
  generalize hY : sumNd (sAt ss) (fun k => minus (vm l i) (vm l k)) l[i] = Y at *
  have hv : sAt (ss ++ [Y] ++ vs) i = Y := by
    unfold sAt
    simp only [List.getD_eq_getElem?_getD, Int.toNat_natCast]
    rw [List.getElem?_append_left (by simp; omega), List.getElem?_append_right (by omega)]
    simp [hlen]
  rw [hv, ← hY]
  refine sumNd_congr fun k hk => ?_
  have := hins k hk
  unfold sAt
  simp only [List.getD_eq_getElem?_getD, List.append_assoc]
  rw [List.getElem?_append_left (by omega)]
/-- At each Or at most one input is true. -/
def detL (l : List Nd) : Prop := ∀ (s : Int → Bool) (i : Nat), i < l.length → (nd l (i : Int)).kind = 4 → (nd l (i : Int)).ins.Pairwise fun j k => ¬ (T s l j = true ∧ T s l k = true)
end Cen
