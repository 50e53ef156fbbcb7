/- Part of the proofs that laws of censuslaw38 return true for every input, where the tables that the rows list are laid. Texts: Counter, QFns. -/
import Derived.Test.YtkaojolofaanfaaGreatDoorZA16
import Derived.Laws.EntriesVeiled

/- The walk of query.counter. -/
namespace Go.Proofs.YtkaojolofaanfaaGreatDoor
open Go.RowKit Cen
open Go.Maps (Keyed string_keyed int_keyed)
set_option maxHeartbeats 4000000
set_option maxRecDepth 100000
theorem try_any {n : Int} {bm bt bf mb B0 B1 : Nat} (hap : Apart B0 B1 bm bt bf mb) (hn : n ≤ 128) : ∀ (k : Nat), (k : Int) ≤ n →
    ∀ (a b : List Nd) (aa ab : Option Addr) (ca cb nm : Nat) (f : Lit → Option Lit) (F : St) (w : World), Pre n k a → Pre n k b → NdAbove B1 w aa a → NdAbove B1 w ab b → Env w bm bt bf mb nm f F → Sound n f → nm + costP n k a b ≤ 1000000000 →
      Lib.TabBelow Tryz.prog B0 w "internal/strconv.uint64pow10" .u64 Lib.pow10Tab → B1 ≤ w.heap.size →
      Calls Tryz.prog 168 #[.agg #[.int .i64 n, .slice aa a.length ca], .agg #[.int .i64 n, .slice ab b.length cb], .int .i64 (n - k + 1), .pointer (some ⟨bm, 0, none⟩), .pointer (some ⟨bt, 0, none⟩), .pointer (some ⟨bf, 0, none⟩)] w (TryPost n k a b bm bt bf mb nm F w) := by
  intro k
  induction k with
  | zero =>
    intro _ a b aa ab ca cb nm f F w pa pb ya yb hE hS _ _ _
    cases hs : stop a b with
    | true => exact try_stop hs pa.ok pb.ok ya.cells yb.cells hE hS
    | false => exact try_zero (by simp) hs pa.ok pb.ok ya.cells yb.cells hE hS
  | succ k ih =>
    intro hk a b aa ab ca cb nm f F w pa pb ya yb hE hS hc ht hB
    cases hs : stop a b with
    | true => exact try_stop hs pa.ok pb.ok ya.cells yb.cells hE hS
    | false =>
      cases hh : boolVal (f (.string (qkey [a, b]))) with
      | true => exact try_hit hh ((tryP_none_iff hk hn pa pb).2 (hS a b pa.ok pb.ok hh)) (by omega) (by omega) hs pa.ok pb.ok ya.cells yb.cells hE hS pa.small pb.small ht
      | false => exact try_go (ih (by omega)) pa pb hap hc hh (by omega) (by omega) hs pa.ok pb.ok ya.cells yb.cells hE hS pa.small pb.small ht ya yb hB
theorem counter_any (n : Int) (a b : List Nd) (aa ab : Option Addr) (ca cb : Nat) (w : World) (ha : netOk ⟨n, a⟩ = true) (hb : netOk ⟨n, b⟩ = true) (sa : Small a) (sb : Small b) (xa : NdCells w aa a) (xb : NdCells w ab b)
    (hc : costP n n.toNat (gvL n [] a) (gvL n [] b) ≤ 1000000000) (ht : Tab w) :
    Calls Tryz.prog 120 #[.agg #[.int .i64 n, .slice aa a.length ca], .agg #[.int .i64 n, .slice ab b.length cb]] w
      fun e w' => e = .returned (.tuple #[stv (foundOf St.zero (cntL n a b)), .bool (cntL n a b).isSome]) ∧ Below w.heap.size w w' := by
  have hmm := @run_makeMap Tryz.prog
  have hcf : ∀ (args : Array Value) (w : World), (callFunc 168 args).run Tryz.prog w = .ok (.enter 168 args) w := callable_try
  have HA := Lib.hid ha
  have HB := Lib.hid hb
  have SA := Lib.hid sa
  have SB := Lib.hid sb
  have XA := Lib.hid xa
  have XB := Lib.hid xb
  have HC := Lib.hid hc
  have HT0 := Lib.hid ht
  have HT : Hid (Lib.TabBelow Tryz.prog w.heap.size w "internal/strconv.uint64pow10" .u64 Lib.pow10Tab) := Lib.tabBelow_of_tabIs ht
  obtain ⟨hn0, hn1, _, _⟩ := netOk_head ha
  simp only at hn0 hn1
  have HN0 := Lib.hid hn0
  have HN1 := Lib.hid hn1
  have HB7 : Hid (Below w.heap.size w (((((((w.alloc (.cells #[.int .i64 n, .slice aa a.length ca] 24)).alloc (.cells #[.int .i64 n, .slice ab b.length cb] 24)).alloc (.cells #[.int .u64 0, .int .u64 0] 54)).alloc (.map #[] 0)).alloc (.cells #[.map (some (w.heap.size + 1 + 1 + 1))] 176)).alloc (.cells #[.int .u64 0, .int .u64 0] 54)).alloc (.cells #[.func (.func 168) #[] #[.pointer (some ⟨w.heap.size + 1 + 1 + 1 + 1, 0, none⟩), .pointer (some ⟨w.heap.size + 1 + 1 + 1 + 1 + 1 + 1, 0, none⟩), .pointer (some ⟨w.heap.size + 1 + 1 + 1 + 1 + 1, 0, none⟩)]] 177))) := ((((((((Below.refl w.heap.size w).alloc (by (try simp only [World.size_alloc]); omega) _).alloc (by (try simp only [World.size_alloc]); omega) _).alloc (by (try simp only [World.size_alloc]); omega) _).alloc (by (try simp only [World.size_alloc]); omega) _).alloc (by (try simp only [World.size_alloc]); omega) _).alloc (by (try simp only [World.size_alloc]); omega) _).alloc (by (try simp only [World.size_alloc]); omega) _)
  have B0 : Hid (Blk (((((((w.alloc (.cells #[.int .i64 n, .slice aa a.length ca] 24)).alloc (.cells #[.int .i64 n, .slice ab b.length cb] 24)).alloc (.cells #[.int .u64 0, .int .u64 0] 54)).alloc (.map #[] 0)).alloc (.cells #[.map (some (w.heap.size + 1 + 1 + 1))] 176)).alloc (.cells #[.int .u64 0, .int .u64 0] 54)).alloc (.cells #[.func (.func 168) #[] #[.pointer (some ⟨w.heap.size + 1 + 1 + 1 + 1, 0, none⟩), .pointer (some ⟨w.heap.size + 1 + 1 + 1 + 1 + 1 + 1, 0, none⟩), .pointer (some ⟨w.heap.size + 1 + 1 + 1 + 1 + 1, 0, none⟩)]] 177)) (w.heap.size) #[.int .i64 n, .slice aa a.length ca] 24) := (((((((Blk.new' w (rfl) #[.int .i64 n, .slice aa a.length ca] 24).alloc _).alloc _).alloc _).alloc _).alloc _).alloc _)
  have B1 : Hid (Blk (((((((w.alloc (.cells #[.int .i64 n, .slice aa a.length ca] 24)).alloc (.cells #[.int .i64 n, .slice ab b.length cb] 24)).alloc (.cells #[.int .u64 0, .int .u64 0] 54)).alloc (.map #[] 0)).alloc (.cells #[.map (some (w.heap.size + 1 + 1 + 1))] 176)).alloc (.cells #[.int .u64 0, .int .u64 0] 54)).alloc (.cells #[.func (.func 168) #[] #[.pointer (some ⟨w.heap.size + 1 + 1 + 1 + 1, 0, none⟩), .pointer (some ⟨w.heap.size + 1 + 1 + 1 + 1 + 1 + 1, 0, none⟩), .pointer (some ⟨w.heap.size + 1 + 1 + 1 + 1 + 1, 0, none⟩)]] 177)) (w.heap.size + 1) #[.int .i64 n, .slice ab b.length cb] 24) := ((((((Blk.new' (w.alloc (.cells #[.int .i64 n, .slice aa a.length ca] 24)) (by simp only [World.size_alloc]) #[.int .i64 n, .slice ab b.length cb] 24).alloc _).alloc _).alloc _).alloc _).alloc _)
  have B2 : Hid (Blk (((((((w.alloc (.cells #[.int .i64 n, .slice aa a.length ca] 24)).alloc (.cells #[.int .i64 n, .slice ab b.length cb] 24)).alloc (.cells #[.int .u64 0, .int .u64 0] 54)).alloc (.map #[] 0)).alloc (.cells #[.map (some (w.heap.size + 1 + 1 + 1))] 176)).alloc (.cells #[.int .u64 0, .int .u64 0] 54)).alloc (.cells #[.func (.func 168) #[] #[.pointer (some ⟨w.heap.size + 1 + 1 + 1 + 1, 0, none⟩), .pointer (some ⟨w.heap.size + 1 + 1 + 1 + 1 + 1 + 1, 0, none⟩), .pointer (some ⟨w.heap.size + 1 + 1 + 1 + 1 + 1, 0, none⟩)]] 177)) (w.heap.size + 1 + 1) #[.int .u64 0, .int .u64 0] 54) := (((((Blk.new' ((w.alloc (.cells #[.int .i64 n, .slice aa a.length ca] 24)).alloc (.cells #[.int .i64 n, .slice ab b.length cb] 24)) (by simp only [World.size_alloc]) #[.int .u64 0, .int .u64 0] 54).alloc _).alloc _).alloc _).alloc _)
  have B4 : Hid (Blk (((((((w.alloc (.cells #[.int .i64 n, .slice aa a.length ca] 24)).alloc (.cells #[.int .i64 n, .slice ab b.length cb] 24)).alloc (.cells #[.int .u64 0, .int .u64 0] 54)).alloc (.map #[] 0)).alloc (.cells #[.map (some (w.heap.size + 1 + 1 + 1))] 176)).alloc (.cells #[.int .u64 0, .int .u64 0] 54)).alloc (.cells #[.func (.func 168) #[] #[.pointer (some ⟨w.heap.size + 1 + 1 + 1 + 1, 0, none⟩), .pointer (some ⟨w.heap.size + 1 + 1 + 1 + 1 + 1 + 1, 0, none⟩), .pointer (some ⟨w.heap.size + 1 + 1 + 1 + 1 + 1, 0, none⟩)]] 177)) (w.heap.size + 1 + 1 + 1 + 1) #[.map (some (w.heap.size + 1 + 1 + 1))] 176) := (((Blk.new' ((((w.alloc (.cells #[.int .i64 n, .slice aa a.length ca] 24)).alloc (.cells #[.int .i64 n, .slice ab b.length cb] 24)).alloc (.cells #[.int .u64 0, .int .u64 0] 54)).alloc (.map #[] 0)) (by simp only [World.size_alloc]) #[.map (some (w.heap.size + 1 + 1 + 1))] 176).alloc _).alloc _)
  have B5 : Hid (Blk (((((((w.alloc (.cells #[.int .i64 n, .slice aa a.length ca] 24)).alloc (.cells #[.int .i64 n, .slice ab b.length cb] 24)).alloc (.cells #[.int .u64 0, .int .u64 0] 54)).alloc (.map #[] 0)).alloc (.cells #[.map (some (w.heap.size + 1 + 1 + 1))] 176)).alloc (.cells #[.int .u64 0, .int .u64 0] 54)).alloc (.cells #[.func (.func 168) #[] #[.pointer (some ⟨w.heap.size + 1 + 1 + 1 + 1, 0, none⟩), .pointer (some ⟨w.heap.size + 1 + 1 + 1 + 1 + 1 + 1, 0, none⟩), .pointer (some ⟨w.heap.size + 1 + 1 + 1 + 1 + 1, 0, none⟩)]] 177)) (w.heap.size + 1 + 1 + 1 + 1 + 1) #[.int .u64 0, .int .u64 0] 54) := ((Blk.new' (((((w.alloc (.cells #[.int .i64 n, .slice aa a.length ca] 24)).alloc (.cells #[.int .i64 n, .slice ab b.length cb] 24)).alloc (.cells #[.int .u64 0, .int .u64 0] 54)).alloc (.map #[] 0)).alloc (.cells #[.map (some (w.heap.size + 1 + 1 + 1))] 176)) (by simp only [World.size_alloc]) #[.int .u64 0, .int .u64 0] 54).alloc _)
  have B6 : Hid (Blk (((((((w.alloc (.cells #[.int .i64 n, .slice aa a.length ca] 24)).alloc (.cells #[.int .i64 n, .slice ab b.length cb] 24)).alloc (.cells #[.int .u64 0, .int .u64 0] 54)).alloc (.map #[] 0)).alloc (.cells #[.map (some (w.heap.size + 1 + 1 + 1))] 176)).alloc (.cells #[.int .u64 0, .int .u64 0] 54)).alloc (.cells #[.func (.func 168) #[] #[.pointer (some ⟨w.heap.size + 1 + 1 + 1 + 1, 0, none⟩), .pointer (some ⟨w.heap.size + 1 + 1 + 1 + 1 + 1 + 1, 0, none⟩), .pointer (some ⟨w.heap.size + 1 + 1 + 1 + 1 + 1, 0, none⟩)]] 177)) (w.heap.size + 1 + 1 + 1 + 1 + 1 + 1) #[.func (.func 168) #[] #[.pointer (some ⟨w.heap.size + 1 + 1 + 1 + 1, 0, none⟩), .pointer (some ⟨w.heap.size + 1 + 1 + 1 + 1 + 1 + 1, 0, none⟩), .pointer (some ⟨w.heap.size + 1 + 1 + 1 + 1 + 1, 0, none⟩)]] 177) := (Blk.new' ((((((w.alloc (.cells #[.int .i64 n, .slice aa a.length ca] 24)).alloc (.cells #[.int .i64 n, .slice ab b.length cb] 24)).alloc (.cells #[.int .u64 0, .int .u64 0] 54)).alloc (.map #[] 0)).alloc (.cells #[.map (some (w.heap.size + 1 + 1 + 1))] 176)).alloc (.cells #[.int .u64 0, .int .u64 0] 54)) (by simp only [World.size_alloc]) #[.func (.func 168) #[] #[.pointer (some ⟨w.heap.size + 1 + 1 + 1 + 1, 0, none⟩), .pointer (some ⟨w.heap.size + 1 + 1 + 1 + 1 + 1 + 1, 0, none⟩), .pointer (some ⟨w.heap.size + 1 + 1 + 1 + 1 + 1, 0, none⟩)]] 177)
  have BM : Hid (MapL 9 4 (((((((w.alloc (.cells #[.int .i64 n, .slice aa a.length ca] 24)).alloc (.cells #[.int .i64 n, .slice ab b.length cb] 24)).alloc (.cells #[.int .u64 0, .int .u64 0] 54)).alloc (.map #[] 0)).alloc (.cells #[.map (some (w.heap.size + 1 + 1 + 1))] 176)).alloc (.cells #[.int .u64 0, .int .u64 0] 54)).alloc (.cells #[.func (.func 168) #[] #[.pointer (some ⟨w.heap.size + 1 + 1 + 1 + 1, 0, none⟩), .pointer (some ⟨w.heap.size + 1 + 1 + 1 + 1 + 1 + 1, 0, none⟩), .pointer (some ⟨w.heap.size + 1 + 1 + 1 + 1 + 1, 0, none⟩)]] 177)) (w.heap.size + 1 + 1 + 1) 0 (fun _ => none)) := by
    have h0 := MapL.made (k := 9) (e := 4) (((w.alloc (.cells #[.int .i64 n, .slice aa a.length ca] 24)).alloc (.cells #[.int .i64 n, .slice ab b.length cb] 24)).alloc (.cells #[.int .u64 0, .int .u64 0] 54))
    simp only [World.size_alloc] at h0
    exact h0.later (((((Below.refl _ _).alloc (Nat.le_refl _) _).alloc (by simp only [World.size_alloc]; omega) _).alloc (by simp only [World.size_alloc]; omega) _))
  have HSZ : Hid ((((((((w.alloc (.cells #[.int .i64 n, .slice aa a.length ca] 24)).alloc (.cells #[.int .i64 n, .slice ab b.length cb] 24)).alloc (.cells #[.int .u64 0, .int .u64 0] 54)).alloc (.map #[] 0)).alloc (.cells #[.map (some (w.heap.size + 1 + 1 + 1))] 176)).alloc (.cells #[.int .u64 0, .int .u64 0] 54)).alloc (.cells #[.func (.func 168) #[] #[.pointer (some ⟨w.heap.size + 1 + 1 + 1 + 1, 0, none⟩), .pointer (some ⟨w.heap.size + 1 + 1 + 1 + 1 + 1 + 1, 0, none⟩), .pointer (some ⟨w.heap.size + 1 + 1 + 1 + 1 + 1, 0, none⟩)]] 177)).heap.size = w.heap.size + 1 + 1 + 1 + 1 + 1 + 1 + 1) := by show _ = _; simp only [World.size_alloc]
  clear ha hb sa sb xa xb hc ht hn0 hn1
  go_enter Tryz.func120, Tryz.ntmps120
  go_wp2_with fail
  generalize (((((((w.alloc (.cells #[.int .i64 n, .slice aa a.length ca] 24)).alloc (.cells #[.int .i64 n, .slice ab b.length cb] 24)).alloc (.cells #[.int .u64 0, .int .u64 0] 54)).alloc (.map #[] 0)).alloc (.cells #[.map (some (w.heap.size + 1 + 1 + 1))] 176)).alloc (.cells #[.int .u64 0, .int .u64 0] 54)).alloc (.cells #[.func (.func 168) #[] #[.pointer (some ⟨w.heap.size + 1 + 1 + 1 + 1, 0, none⟩), .pointer (some ⟨w.heap.size + 1 + 1 + 1 + 1 + 1 + 1, 0, none⟩), .pointer (some ⟨w.heap.size + 1 + 1 + 1 + 1 + 1, 0, none⟩)]] 177)) = W at *
  have HE : Hid (Env W (w.heap.size + 1 + 1 + 1 + 1) (w.heap.size + 1 + 1 + 1 + 1 + 1 + 1) (w.heap.size + 1 + 1 + 1 + 1 + 1) (w.heap.size + 1 + 1 + 1) 0 (fun _ => none) St.zero) := ⟨B4.out, B6.out, B5.out, BM.out, St.zero_ok⟩
  have HSO : Hid (Sound n (fun _ => none)) := fun a b _ _ h => by simp [boolVal] at h
  have HAP : Hid (Apart w.heap.size (w.heap.size + 1 + 1 + 1 + 1 + 1 + 1 + 1) (w.heap.size + 1 + 1 + 1 + 1) (w.heap.size + 1 + 1 + 1 + 1 + 1 + 1) (w.heap.size + 1 + 1 + 1 + 1 + 1) (w.heap.size + 1 + 1 + 1)) := ⟨by omega, by omega, by omega⟩
  have HTW := Lib.hid (HT.out.on HB7.out)
  have kt : W.cell? ⟨w.heap.size + 1 + 1 + 1 + 1 + 1 + 1, 0, none⟩ = some (.func (.func 168) #[] #[.pointer (some ⟨w.heap.size + 1 + 1 + 1 + 1, 0, none⟩), .pointer (some ⟨w.heap.size + 1 + 1 + 1 + 1 + 1 + 1, 0, none⟩), .pointer (some ⟨w.heap.size + 1 + 1 + 1 + 1 + 1, 0, none⟩)]) := B6.out.cell 0
  have k0 : W.cell? ⟨w.heap.size, 0, none⟩ = some (.int .i64 n) := B0.out.cell 0
  have k1 : W.cell? ⟨w.heap.size, 1, none⟩ = some (.slice aa a.length ca) := B0.out.cell 1
  have k2 : W.cell? ⟨w.heap.size + 1, 0, none⟩ = some (.int .i64 n) := B1.out.cell 0
  have k3 : W.cell? ⟨w.heap.size + 1, 1, none⟩ = some (.slice ab b.length cb) := B1.out.cell 1
  have HKS : Hid (∀ w' : World, Below W.heap.size W w' → w'.cell? ⟨w.heap.size + 1 + 1 + 1 + 1 + 1 + 1, 0, none⟩ = some (.func (.func 168) #[] #[.pointer (some ⟨w.heap.size + 1 + 1 + 1 + 1, 0, none⟩), .pointer (some ⟨w.heap.size + 1 + 1 + 1 + 1 + 1 + 1, 0, none⟩), .pointer (some ⟨w.heap.size + 1 + 1 + 1 + 1 + 1, 0, none⟩)]) ∧ w'.cell? ⟨w.heap.size, 0, none⟩ = some (.int .i64 n) ∧ w'.cell? ⟨w.heap.size, 1, none⟩ = some (.slice aa a.length ca) ∧ w'.cell? ⟨w.heap.size + 1, 0, none⟩ = some (.int .i64 n) ∧ w'.cell? ⟨w.heap.size + 1, 1, none⟩ = some (.slice ab b.length cb)) := Lib.hid fun w' hb => ⟨cell_keep hb kt, cell_keep hb k0, cell_keep hb k1, cell_keep hb k2, cell_keep hb k3⟩
  have HKS2 : Hid (∀ w6 w' : World, Below W.heap.size W w6 → Kp (fun y => y = w.heap.size + 1 + 1 + 1 + 1 + 1 ∨ y = w.heap.size + 1 + 1 + 1) w6 w' → w'.cell? ⟨w.heap.size + 1 + 1 + 1 + 1 + 1 + 1, 0, none⟩ = some (.func (.func 168) #[] #[.pointer (some ⟨w.heap.size + 1 + 1 + 1 + 1, 0, none⟩), .pointer (some ⟨w.heap.size + 1 + 1 + 1 + 1 + 1 + 1, 0, none⟩), .pointer (some ⟨w.heap.size + 1 + 1 + 1 + 1 + 1, 0, none⟩)]) ∧ w'.cell? ⟨w.heap.size, 0, none⟩ = some (.int .i64 n) ∧ w'.cell? ⟨w.heap.size, 1, none⟩ = some (.slice aa a.length ca) ∧ w'.cell? ⟨w.heap.size + 1, 0, none⟩ = some (.int .i64 n) ∧ w'.cell? ⟨w.heap.size + 1, 1, none⟩ = some (.slice ab b.length cb)) := Lib.hid fun w6 w' hb hk => by
    obtain ⟨z0, z1, z2, z3, z4⟩ := HKS.out w6 hb
    exact ⟨hk.cell z0 (by dsimp only; omega), hk.cell z1 (by dsimp only; omega), hk.cell z2 (by dsimp only; omega), hk.cell z3 (by dsimp only; omega), hk.cell z4 (by dsimp only; omega)⟩
  have HGA : Hid (∀ (V : World), Below W.heap.size W V → Calls Tryz.prog 69 #[.agg #[.int .i64 n, .slice aa a.length ca], .slice none 0 0] V
      fun e w' => ∃ a' cap', e = .returned (.agg #[.int .i64 n, .slice a' (gvL n [] a).length cap']) ∧ NdAbove V.heap.size w' a' (gvL n [] a) ∧ Below V.heap.size V w') := Lib.hid fun V hb =>
    given_fine n aa ca a none 0 [] V HA.out SA.out ((XA.out.keep HB7.out).keep hb) (IntCells.nil _ _) (by simp) (HTW.out.here.keep' hb)
  have HGB : Hid (∀ (V : World), Below W.heap.size W V → Calls Tryz.prog 69 #[.agg #[.int .i64 n, .slice ab b.length cb], .slice none 0 0] V
      fun e w' => ∃ a' cap', e = .returned (.agg #[.int .i64 n, .slice a' (gvL n [] b).length cap']) ∧ NdAbove V.heap.size w' a' (gvL n [] b) ∧ Below V.heap.size V w') := Lib.hid fun V hb =>
    given_fine n ab cb b none 0 [] V HB.out SB.out ((XB.out.keep HB7.out).keep hb) (IntCells.nil _ _) (by simp) (HTW.out.here.keep' hb)
  have HGO : Hid (∀ (a1 a2 : Option Addr) (c1 c2 : Nat) (w6 : World), NdAbove W.heap.size w6 a1 (gvL n [] a) → NdAbove W.heap.size w6 a2 (gvL n [] b) → Below W.heap.size W w6 →
      Calls Tryz.prog 168 #[.agg #[.int .i64 n, .slice a1 (gvL n [] a).length c1], .agg #[.int .i64 n, .slice a2 (gvL n [] b).length c2], .int .i64 1, .pointer (some ⟨w.heap.size + 1 + 1 + 1 + 1, 0, none⟩), .pointer (some ⟨w.heap.size + 1 + 1 + 1 + 1 + 1 + 1, 0, none⟩), .pointer (some ⟨w.heap.size + 1 + 1 + 1 + 1 + 1, 0, none⟩)] w6 (TryPost n n.toNat (gvL n [] a) (gvL n [] b) (w.heap.size + 1 + 1 + 1 + 1) (w.heap.size + 1 + 1 + 1 + 1 + 1 + 1) (w.heap.size + 1 + 1 + 1 + 1 + 1) (w.heap.size + 1 + 1 + 1) 0 St.zero w6)) := Lib.hid fun a1 a2 c1 c2 w6 n1 n2 hb => by
    have hnn : ((n.toNat : Nat) : Int) = n := Int.toNat_of_nonneg HN0.out
    have hs := HSZ.out
    have h := try_any HAP.out HN1.out n.toNat (by omega) (gvL n [] a) (gvL n [] b) a1 a2 c1 c2 0 (fun _ => none) St.zero w6 (Pre.start HA.out SA.out) (Pre.start HB.out SB.out) (n1.lower (by omega)) (n2.lower (by omega)) (HE.out.later hb) HSO.out (by have := HC.out; omega) (HTW.out.on (hb.mono (by omega))) (by have := hb.size; omega)
    rw [hnn, show n - n + 1 = (1 : Int) by omega] at h; exact h
  go_region_held3 (fun w' => w'.cell? ⟨w.heap.size + 1 + 1 + 1 + 1 + 1 + 1, 0, none⟩ = some (.func (.func 168) #[] #[.pointer (some ⟨w.heap.size + 1 + 1 + 1 + 1, 0, none⟩), .pointer (some ⟨w.heap.size + 1 + 1 + 1 + 1 + 1 + 1, 0, none⟩), .pointer (some ⟨w.heap.size + 1 + 1 + 1 + 1 + 1, 0, none⟩)]) ∧ w'.cell? ⟨w.heap.size, 0, none⟩ = some (.int .i64 n) ∧ w'.cell? ⟨w.heap.size, 1, none⟩ = some (.slice aa a.length ca) ∧ w'.cell? ⟨w.heap.size + 1, 0, none⟩ = some (.int .i64 n) ∧ w'.cell? ⟨w.heap.size + 1, 1, none⟩ = some (.slice ab b.length cb))
    (first | exact HKS2.out _ _ hw6 hkp7 | exact HKS.out _ (by with_reducible exact hw6) | exact HKS.out _ (by first | (with_reducible exact (Below.refl _ _).drew) | (with_reducible exact hw5)))
    (first
      | (go_at_call_of 69 (Value.slice aa a.length ca)
         refine (HGA.out _ ?_).mono ?_
         · exact (by first | (with_reducible exact (Below.refl _ _).drew) | (with_reducible exact hw5))
         rintro e w5 ⟨a1, c1, rfl, hn1, hb5⟩
         have hbw : Below W.heap.size W w5 := Below.trans (B := W.heap.size) (by first | (with_reducible exact (Below.refl _ _).drew) | (with_reducible exact hw5)) (hb5.mono (Below.size (B := W.heap.size) (w := W) (by first | (with_reducible exact (Below.refl _ _).drew) | (with_reducible exact hw5))))
         have hn5 : NdAbove W.heap.size w5 a1 (gvL n [] a) := hn1.lower (Below.size (B := W.heap.size) (w := W) (by first | (with_reducible exact (Below.refl _ _).drew) | (with_reducible exact hw5)))
         have hw5 := hbw
         clear hbw)
      | (go_at_call_of 69 (Value.slice ab b.length cb)
         refine (HGB.out _ ?_).mono ?_
         · exact (by first | (with_reducible exact (Below.refl _ _).drew) | (with_reducible exact hw5))
         rintro e w6 ⟨a2, c2, rfl, hn2, hb6⟩
         have hw6 : Below W.heap.size W w6 := Below.trans (B := W.heap.size) (by first | (with_reducible exact (Below.refl _ _).drew) | (with_reducible exact hw5)) (hb6.mono (Below.size (B := W.heap.size) (w := W) (by first | (with_reducible exact (Below.refl _ _).drew) | (with_reducible exact hw5))))
         have hn6 : NdAbove W.heap.size w6 a2 (gvL n [] b) := hn2.lower (Below.size (B := W.heap.size) (w := W) (by first | (with_reducible exact (Below.refl _ _).drew) | (with_reducible exact hw5)))
         have hn56 : NdAbove W.heap.size w6 a1 (gvL n [] a) := hn5.later hb6)
      | (go_at_call 168
         refine (HGO.out a1 a2 c1 c2 _ hn56 hn6 hw6).mono ?_
         rintro e w7 hpost
         have hkp7 := hpost.2.choose_spec.choose_spec.2.2.2
         have HPOST := Lib.hid hpost
         have hp1 := hpost.1
         clear hpost
         subst hp1))
  have HK7 : Hid (Kp (fun y => y = w.heap.size + 1 + 1 + 1 + 1 + 1 ∨ y = w.heap.size + 1 + 1 + 1) W w7) := (Kp.below hw6).trans hkp7
  obtain ⟨nm7, f7, hE7, _⟩ := HPOST.out.2
  have HE7 : Hid (Env w7 (w.heap.size + 1 + 1 + 1 + 1) (w.heap.size + 1 + 1 + 1 + 1 + 1 + 1) (w.heap.size + 1 + 1 + 1 + 1 + 1) (w.heap.size + 1 + 1 + 1) nm7 f7 (foundOf St.zero (cntL n a b))) := hE7
  have HCN : Hid (tryP n n.toNat (gvL n [] a) (gvL n [] b) = cntL n a b) := rfl
  have HB7' : Hid (Below w.heap.size w w7) := HB7.out.trans (HK7.out.toBelow HB7.out.size (by intro y hy; omega))
  have D2 := Lib.hid (B2.out.kept HK7.out (by omega))
  rw [HCN.out]
  clear hE7 hkp7 hw6 hn56 hn6 hn5 hn1 hn2 hb5 hb6 hw5 HPOST kt k0 k1 k2 k3 hmm hcf
  obtain ⟨F, hF⟩ : ∃ F, F = foundOf St.zero (cntL n a b) := ⟨_, rfl⟩
  rw [← hF] at HE7
  have HF := Lib.hid hF
  clear hF
  have f0 : w7.cell? ⟨w.heap.size + 1 + 1 + 1 + 1 + 1, 0, none⟩ = some (.int .u64 (F.a : Int)) := HE7.out.found.cell 0
  have f1 : w7.cell? ⟨w.heap.size + 1 + 1 + 1 + 1 + 1, 1, none⟩ = some (.int .u64 (F.b : Int)) := HE7.out.found.cell 1
  have d0 := D2.out.fr 0
  have d1 := D2.out.fr 1
  have d2 : w7.cell? ⟨w.heap.size + 1 + 1, 0, none⟩ = some (.int .u64 0) := D2.out.cell 0
  have d3 : w7.cell? ⟨w.heap.size + 1 + 1, 1, none⟩ = some (.int .u64 0) := D2.out.cell 1
  have hz : w.heap.size + 1 + 1 < w7.heap.size := D2.out.lt
  go_wp2
  have hbr := (D2.out.set 0 (.int .u64 (F.a : Int))).set 1 (.int .u64 (F.b : Int))
  have e0 : ((w7.setCell ⟨w.heap.size + 1 + 1, 0, none⟩ (.int .u64 (F.a : Int))).setCell ⟨w.heap.size + 1 + 1, 1, none⟩ (.int .u64 (F.b : Int))).cell? ⟨w.heap.size + 1 + 1, 0, none⟩ = some (.int .u64 (F.a : Int)) := hbr.cell 0
  have e1 : ((w7.setCell ⟨w.heap.size + 1 + 1, 0, none⟩ (.int .u64 (F.a : Int))).setCell ⟨w.heap.size + 1 + 1, 1, none⟩ (.int .u64 (F.b : Int))).cell? ⟨w.heap.size + 1 + 1, 1, none⟩ = some (.int .u64 (F.b : Int)) := hbr.cell 1
  exact bodyPost_ret (v := .tuple #[stv F, .bool (cntL n a b).isSome]) (by simp [results, Tryz.results120, go_sem, e0, e1]) rfl ⟨by rw [HF.out], (HB7'.out.setCell (show w.heap.size ≤ (⟨w.heap.size + 1 + 1, 0, none⟩ : Addr).block by simp; omega) _).setCell (show w.heap.size ≤ (⟨w.heap.size + 1 + 1, 1, none⟩ : Addr).block by simp; omega) _⟩
end Go.Proofs.YtkaojolofaanfaaGreatDoor

/- The walks of query's exported functions. -/
namespace Go.Proofs.YtkaojolofaanfaaGreatDoor
open Go.RowKit Cen
set_option maxHeartbeats 4000000
set_option maxRecDepth 100000

/-- The error of a net with literals; of two nets. -/
def chkR (xs : List Int) (t : Nt) : Int :=
  if netOk t = false then 1 else if (xs.all fun x => litOk x t.n) = false then 1 else if decL t.l = false then 210 else 0
def chk2 (s t : Nt) : Int :=
  if (netOk s && netOk t) = false then 1 else if s.n ≠ t.n then 1 else if (decL s.l && decL t.l) = false then 210 else 0
theorem chkQ_one (xs : List Int) (t : Nt) : chkQ xs [t] = chkR xs t := by
  unfold chkQ chkR; simp
theorem chkQ_two (s t : Nt) : chkQ [] [s, t] = chk2 s t := by
  unfold chkQ chk2
  simp
  by_cases h1 : netOk s = true <;> by_cases h2 : netOk t = true <;> simp [h1, h2]
  by_cases h3 : s.n = t.n
  · simp [h3]
  · rw [if_neg (fun e => h3 e.symm), if_neg h3]
theorem chkR_ok {xs : List Int} {t : Nt} (h : chkR xs t = 0) : netOk t = true ∧ (xs.all fun x => litOk x t.n) = true ∧ decL t.l = true := by
  unfold chkR at h
  cases h1 : netOk t <;> cases h2 : (xs.all fun x => litOk x t.n) <;> cases h3 : decL t.l <;> simp [h1, h2, h3] at h ⊢
theorem chk2_ok {s t : Nt} (h : chk2 s t = 0) : netOk s = true ∧ netOk t = true ∧ s.n = t.n ∧ decL s.l = true ∧ decL t.l = true := by
  unfold chk2 at h
  cases h1 : netOk s <;> cases h2 : netOk t <;> simp [h1, h2] at h ⊢
  by_cases h3 : s.n = t.n
  · rw [if_pos h3] at h
    cases h4 : decL s.l <;> cases h5 : decL t.l <;> simp [h4, h5, h3] at h ⊢
  · rw [if_neg h3] at h; simp at h
theorem nets_one {w : World} {b : Nat} {n : Int} {aa : Option Addr} {la : List Nd} {ca : Nat} (h : Blk w b #[.int .i64 n, .slice aa la.length ca] 24)
    (ha : NdCells w aa la) (la1 : la.length ≤ 1073741824) : NetCells w (some ⟨b, 0, none⟩) [⟨n, la⟩] := by
  intro i hi
  have : i = 0 := by simpa using hi
  subst this
  exact ⟨b, 0, rfl, h.cell 0, aa, ca, h.cell 1, ha, la1⟩
theorem nets_two' {w : World} {b : Nat} {n m : Int} {aa ab : Option Addr} {la lb : List Nd} {ca cb : Nat} (h : Blk w b #[.int .i64 n, .slice aa la.length ca, .int .i64 m, .slice ab lb.length cb] 24)
    (ha : NdCells w aa la) (hb : NdCells w ab lb) (la1 : la.length ≤ 1073741824) (lb1 : lb.length ≤ 1073741824) : NetCells w (some ⟨b, 0, none⟩) [⟨n, la⟩, ⟨m, lb⟩] := by
  intro i hi
  have : i = 0 ∨ i = 1 := by simp at hi; omega
  rcases this with rfl | rfl
  · exact ⟨b, 0, rfl, h.cell 0, aa, ca, h.cell 1, ha, la1⟩
  · exact ⟨b, 0, rfl, h.cell 2, ab, cb, h.cell 3, hb, lb1⟩
theorem check1_any (b : Option Addr) (cap2 : Nat) (xs : List Int) (c : Nat) (n : Int) (a : Option Addr) (cap : Nat) (l : List Nd) (w : World) (hxs : IntCells w b xs) (hxl : xs.length ≤ 1073741824) (hk : Blk w c #[.int .i64 n, .slice a l.length cap] 24) (hx : NdCells w a l) (hl : l.length ≤ 1073741824) :
    Calls Tryz.prog 67 #[.slice b xs.length cap2, .slice (some ⟨c, 0, none⟩) 1 1] w fun e w' => e = .returned (.int .i64 (chkR xs ⟨n, l⟩)) ∧ Below w.heap.size w w' := by
  have := qcheck_any b cap2 xs (some ⟨c, 0, none⟩) 1 [⟨n, l⟩] w hxs hxl (nets_one hk hx hl) (by simp) (by simp)
  rw [chkQ_one] at this; exact this
theorem check2_any (c : Nat) (n m : Int) (aa ab : Option Addr) (ca cb : Nat) (la lb : List Nd) (w : World) (hk : Blk w c #[.int .i64 n, .slice aa la.length ca, .int .i64 m, .slice ab lb.length cb] 24) (ha : NdCells w aa la) (hb : NdCells w ab lb) (hl : la.length ≤ 1073741824) (hl2 : lb.length ≤ 1073741824) :
    Calls Tryz.prog 67 #[.slice none 0 0, .slice (some ⟨c, 0, none⟩) 2 2] w fun e w' => e = .returned (.int .i64 (chk2 ⟨n, la⟩ ⟨m, lb⟩)) ∧ Below w.heap.size w w' := by
  have := qcheck_any none 0 [] (some ⟨c, 0, none⟩) 2 [⟨n, la⟩, ⟨m, lb⟩] w (IntCells.nil _ _) (by simp) (nets_two' hk ha hb hl hl2) (by simp) (by simp)
  rw [chkQ_two] at this; exact this
/-- What the functions answer. -/
def consR (t : Nt) : Bool := decide (chkR [] t = 0) && decide (rootK (gvL t.n [] t.l) ≠ 0)
def entR (t : Nt) (xs : List Int) : Bool := decide (chkR xs t = 0) && (clash xs || decide (rootK (gvL t.n (xs.map fun x => -x) t.l) = 0))
def impR (t : Nt) (xs : List Int) : Bool := decide (chkR xs t = 0) && (clash xs || (cntL t.n [⟨1, 0, []⟩] (gvL t.n xs t.l)).isNone)
def impCost (t : Nt) (xs : List Int) : Prop := chkR xs t = 0 → clash xs = false → costP t.n t.n.toNat (gvL t.n [] [⟨1, 0, []⟩]) (gvL t.n [] (gvL t.n xs t.l)) ≤ 1000000000
def cntCost (s t : Nt) : Prop := chk2 s t = 0 → costP s.n s.n.toNat (gvL s.n [] s.l) (gvL s.n [] t.l) ≤ 1000000000
def cntR (s t : Nt) : Option (List Int) := if chk2 s t = 0 then cntL s.n s.l t.l else none
def sameR (s t : Nt) : Bool := decide (chk2 s t = 0) && ((cntL s.n s.l t.l).isNone && (cntL s.n t.l s.l).isNone)

theorem consistent_any (n : Int) (a : Option Addr) (cap : Nat) (l : List Nd) (w : World) (hx : NdCells w a l) (hl : l.length ≤ 1073741824) (hs : netOk ⟨n, l⟩ = true → Small l) (ht : Tab w) :
    Calls Tryz.prog 20 #[.agg #[.int .i64 n, .slice a l.length cap]] w fun e w' => e = .returned (.tuple #[.bool (consR ⟨n, l⟩), .int .i64 (chkR [] ⟨n, l⟩)]) ∧ Below w.heap.size w w' := by
  have HX := Lib.hid hx
  have hb0 : Below w.heap.size w ((w.alloc (.cells #[.int .i64 n, .slice a l.length cap] 24)).alloc (.cells #[.int .i64 n, .slice a l.length cap] 24)) := ((Below.refl _ _).alloc (Nat.le_refl _) _).alloc (by simp) _
  have HB0 := Lib.hid hb0
  have HCK := Lib.hid (check1_any none 0 [] (w.heap.size + 1) n a cap l _ (IntCells.nil _ _) (by simp) (Blk.new' (w.alloc (.cells #[.int .i64 n, .slice a l.length cap] 24)) (World.size_alloc _ _) #[.int .i64 n, .slice a l.length cap] 24) (hx.keep hb0) hl)
  have q0 := Lib.hid ((Blk.new w #[.int .i64 n, .slice a l.length cap] 24).alloc (.cells #[.int .i64 n, .slice a l.length cap] 24))
  have HT := Lib.hid ht
  have HS := Lib.hid hs
  clear hx hb0 ht hs
  by_cases hc : chkR [] ⟨n, l⟩ = 0
  · obtain ⟨h1, _, h3⟩ := chkR_ok hc
    have HOK := Lib.hid h1
    have HR : Hid (consR ⟨n, l⟩ = !decide (rootK (gvL n [] l) = 0)) := by show _ = _; unfold consR; rw [decide_eq_true hc]; simp
    have HC := Lib.hid hc
    rw [hc] at HCK
    clear hc h1 h3
    go_enter Tryz.func20, Tryz.ntmps20
    go_wp2_with fail
    refine HCK.out.mono ?_
    rintro e w1 ⟨rfl, hb1⟩
    have HB1 := Lib.hid (HB0.out.trans (hb1.mono HB0.out.size))
    have q1 := q0.out.later hb1
    have k0 : w1.cell? ⟨w.heap.size, 0, none⟩ = some (.int .i64 n) := q1.cell 0
    have k1 : w1.cell? ⟨w.heap.size, 1, none⟩ = some (.slice a l.length cap) := q1.cell 1
    have HG := Lib.hid (given_fine n a cap l none 0 [] w1 HOK.out (HS.out HOK.out) (HX.out.keep HB1.out) (IntCells.nil _ _) (by simp) (HT.out.keep HB1.out))
    clear hb1 q1
    go_wp2_with fail
    refine HG.out.mono ?_
    rintro e w2 ⟨a2, c2, rfl, hn2, hb2⟩
    have HB2 := Lib.hid (HB1.out.trans (hb2.mono HB1.out.size))
    have HI := Lib.hid (isK_any n a2 c2 (gvL n [] l) 0 w2 (gvL_fine HOK.out (HS.out HOK.out)).1 hn2.cells)
    clear hn2 hb2
    go_wp2_with fail
    refine HI.out.mono ?_
    rintro e w3 ⟨rfl, hb3⟩
    have HB3 := Lib.hid (HB2.out.trans (hb3.mono HB2.out.size))
    clear hb3
    go_wp2
    go_ret2
    exact ⟨by rw [HR.out, HC.out]; rfl, HB3.out⟩
  · have HR : Hid (consR ⟨n, l⟩ = false) := by show _ = _; unfold consR; rw [decide_eq_false hc]; rfl
    have hcb : (chkR [] ⟨n, l⟩ != 0) = true := by simpa using hc
    clear hc
    go_enter Tryz.func20, Tryz.ntmps20
    go_wp2_with fail
    refine HCK.out.mono ?_
    rintro e w1 ⟨rfl, hb1⟩
    have HB1 := Lib.hid (HB0.out.trans (hb1.mono HB0.out.size))
    clear hb1
    go_wp2
    go_ret2
    exact ⟨by rw [HR.out]; rfl, HB1.out⟩

theorem entails_any (n : Int) (a : Option Addr) (cap : Nat) (l : List Nd) (b : Option Addr) (cap2 : Nat) (xs : List Int) (w : World) (hx : NdCells w a l) (hl : l.length ≤ 1073741824) (hxs : IntCells w b xs) (hxl : xs.length ≤ 1073741824) (hs : netOk ⟨n, l⟩ = true → Small l) (ht : Tab w) :
    Calls Tryz.prog 56 #[.agg #[.int .i64 n, .slice a l.length cap], .slice b xs.length cap2] w fun e w' => e = .returned (.tuple #[.bool (entR ⟨n, l⟩ xs), .int .i64 (chkR xs ⟨n, l⟩)]) ∧ Below w.heap.size w w' := by
  have HX := Lib.hid hx
  have hb0 : Below w.heap.size w ((w.alloc (.cells #[.int .i64 n, .slice a l.length cap] 24)).alloc (.cells #[.int .i64 n, .slice a l.length cap] 24)) := ((Below.refl _ _).alloc (Nat.le_refl _) _).alloc (by simp) _
  have HB0 := Lib.hid hb0
  have HCK := Lib.hid (check1_any b cap2 xs (w.heap.size + 1) n a cap l _ (hxs.keep hb0) hxl (Blk.new' (w.alloc (.cells #[.int .i64 n, .slice a l.length cap] 24)) (World.size_alloc _ _) #[.int .i64 n, .slice a l.length cap] 24) (hx.keep hb0) hl)
  have q0 := Lib.hid ((Blk.new w #[.int .i64 n, .slice a l.length cap] 24).alloc (.cells #[.int .i64 n, .slice a l.length cap] 24))
  have HT := Lib.hid ht
  have HS := Lib.hid hs
  have HXS := Lib.hid hxs
  clear hx hb0 ht hs hxs
  by_cases hc : chkR xs ⟨n, l⟩ = 0
  · obtain ⟨h1, h2, h3⟩ := chkR_ok hc
    have HOK := Lib.hid h1
    have HLT : Hid (∀ x ∈ xs, -128 ≤ x ∧ x ≤ 128) := fun x hx => by
      have := List.all_eq_true.1 h2 x hx
      simp only [litOk, Bool.and_eq_true, decide_eq_true_eq] at this
      have := litVar_ne this.1
      omega
    have HC := Lib.hid hc
    obtain ⟨ys, hys⟩ : ∃ ys, ys = xs.map fun x => -x := ⟨_, rfl⟩
    have hyl : ys.length ≤ 1073741824 := by rw [hys]; simpa using hxl
    have HR : Hid (entR ⟨n, l⟩ xs = (clash xs || decide (rootK (gvL n ys l) = 0))) := by show _ = _; unfold entR; rw [decide_eq_true hc, hys]; rfl
    have HYS := Lib.hid hys
    clear hys
    rw [hc] at HCK
    clear hc h1 h2 h3
    cases hcl : clash xs
    · have HCL := Lib.hid hcl
      clear hcl
      go_enter Tryz.func56, Tryz.ntmps56
      go_wp2_with fail
      refine HCK.out.mono ?_
      rintro e w1 ⟨rfl, hb1⟩
      have HB1 := Lib.hid (HB0.out.trans (hb1.mono HB0.out.size))
      have HQ1 := Lib.hid (q0.out.later hb1)
      have HOP := Lib.hid (opposites_any b cap2 xs w1 hxl (HXS.out.keep HB1.out) HLT.out)
      rw [HCL.out, ← HYS.out] at HOP
      clear hb1
      go_wp2_with fail
      refine HOP.out.mono ?_
      rintro e w2 ⟨v2, rfl, ho2, hb2⟩
      have HB2 := Lib.hid (HB1.out.trans (hb2.mono HB1.out.size))
      have q1 := HQ1.out.later hb2
      have k0 : w2.cell? ⟨w.heap.size, 0, none⟩ = some (.int .i64 n) := q1.cell 0
      have k1 : w2.cell? ⟨w.heap.size, 1, none⟩ = some (.slice a l.length cap) := q1.cell 1
      obtain ⟨a3, c3, rfl, hi3, _⟩ := ho2.cells
      have HG := Lib.hid (given_fine n a cap l a3 c3 ys w2 HOK.out (HS.out HOK.out) (HX.out.keep HB2.out) hi3 hyl (HT.out.keep HB2.out))
      clear hb2 q1 ho2 hi3
      go_wp2_with fail
      refine HG.out.mono ?_
      rintro e w4 ⟨a4, c4, rfl, hn4, hb4⟩
      have HB4 := Lib.hid (HB2.out.trans (hb4.mono HB2.out.size))
      have HI := Lib.hid (isK_any n a4 c4 (gvL n ys l) 0 w4 (gvL_fine HOK.out (HS.out HOK.out)).1 hn4.cells)
      clear hn4 hb4
      go_wp2_with fail
      refine HI.out.mono ?_
      rintro e w5 ⟨rfl, hb5⟩
      have HB5 := Lib.hid (HB4.out.trans (hb5.mono HB4.out.size))
      clear hb5
      go_wp2
      go_ret2
      exact ⟨by rw [HR.out, HC.out, HCL.out]; rfl, HB5.out⟩
    · have HCL := Lib.hid hcl
      clear hcl
      go_enter Tryz.func56, Tryz.ntmps56
      go_wp2_with fail
      refine HCK.out.mono ?_
      rintro e w1 ⟨rfl, hb1⟩
      have HB1 := Lib.hid (HB0.out.trans (hb1.mono HB0.out.size))
      have HOP := Lib.hid (opposites_any b cap2 xs w1 hxl (HXS.out.keep HB1.out) HLT.out)
      rw [HCL.out, ← HYS.out] at HOP
      clear hb1
      go_wp2_with fail
      refine HOP.out.mono ?_
      rintro e w2 ⟨v2, rfl, ho2, hb2⟩
      have HB2 := Lib.hid (HB1.out.trans (hb2.mono HB1.out.size))
      clear hb2 ho2
      go_wp2
      go_ret2
      exact ⟨by rw [HR.out, HC.out, HCL.out]; rfl, HB2.out⟩
  · have HR : Hid (entR ⟨n, l⟩ xs = false) := by show _ = _; unfold entR; rw [decide_eq_false hc]; rfl
    have hcb : (chkR xs ⟨n, l⟩ != 0) = true := by simpa using hc
    clear hc
    go_enter Tryz.func56, Tryz.ntmps56
    go_wp2_with fail
    refine HCK.out.mono ?_
    rintro e w1 ⟨rfl, hb1⟩
    have HB1 := Lib.hid (HB0.out.trans (hb1.mono HB0.out.size))
    clear hb1
    go_wp2
    go_ret2
    exact ⟨by rw [HR.out]; rfl, HB1.out⟩
end Go.Proofs.YtkaojolofaanfaaGreatDoor
