/- Part of the proofs that laws of censuslaw38 return true for every input, where the tables that the rows list are laid. Texts: CntC. -/
import Derived.Test.YtkaojolofaanfaaGreatDoorZA15

/- The search for a counterexample: the ways through the search. -/
namespace Go.Proofs.YtkaojolofaanfaaGreatDoor
open Go.RowKit Cen
open Go.Maps (Keyed string_keyed int_keyed)
set_option maxHeartbeats 4000000
set_option maxRecDepth 100000
section
variable {n : Int} {k : Nat} {a b : List Nd} {aa ab : Option Addr} {ca cb : Nat} {v : Int} {bm bt bf mb nm B0 B1 : Nat} {f : Lit → Option Lit} {F : St} {w : World}
/-- Behind a call of the search, the literal x given. -/
def Mid (n : Int) (k : Nat) (a b : List Nd) (bm bt bf mb nm : Nat) (F : St) (x : Int) (w4 : World) (s : Value) (wx : World) : Prop :=
  s = .bool (tryP n k (gvL n [x] a) (gvL n [x] b)).isSome ∧ ∃ nm' f', Env wx bm bt bf mb nm' f' (foundOf F (tryP n k (gvL n [x] a) (gvL n [x] b))) ∧ Sound n f' ∧ nm' ≤ nm + costP n k (gvL n [x] a) (gvL n [x] b) ∧ Kp (fun y => y = bf ∨ y = mb) w4 wx
theorem Mid.of {x : Int} {w4 w6 w7 : World} {e : Ending} (h : TryPost n k (gvL n [x] a) (gvL n [x] b) bm bt bf mb nm F w6 e w7) (hb : Below w4.heap.size w4 w6) :
    e = .returned (.bool (tryP n k (gvL n [x] a) (gvL n [x] b)).isSome) ∧ Mid n k a b bm bt bf mb nm F x w4 (.bool (tryP n k (gvL n [x] a) (gvL n [x] b)).isSome) w7 := by
  obtain ⟨h1, nm', f', h2, h3, h4, h5⟩ := h
  exact ⟨h1, rfl, nm', f', h2, h3, h4, (Kp.below hb).trans h5⟩
theorem tryP_left {n : Int} {k : Nat} {a b : List Nd} {m : List Int} (hs : stop a b = false) (h : tryP n k (gvL n [-(n - k)] a) (gvL n [-(n - k)] b) = some m) : tryP n (k + 1) a b = some m := by
  rw [tryP, hs]; simp [h]
theorem tryP_right {n : Int} {k : Nat} {a b : List Nd} (hs : stop a b = false) (h : tryP n k (gvL n [-(n - k)] a) (gvL n [-(n - k)] b) = none) : tryP n (k + 1) a b = match tryP n k (gvL n [n - k] a) (gvL n [n - k] b) with | some m => some (m ++ [n - k]) | none => none := by
  rw [tryP, hs]; simp [h]; cases tryP n k (gvL n [n - k] a) (gvL n [n - k] b) <;> rfl
theorem costP_left {n : Int} {k : Nat} {a b : List Nd} (hs : stop a b = false) : costP n k (gvL n [-(n - k)] a) (gvL n [-(n - k)] b) ≤ costP n (k + 1) a b := by
  rw [costP, hs]; simp
theorem costP_right {n : Int} {k : Nat} {a b : List Nd} (hs : stop a b = false) (h : tryP n k (gvL n [-(n - k)] a) (gvL n [-(n - k)] b) = none) : costP n (k + 1) a b = 1 + costP n k (gvL n [-(n - k)] a) (gvL n [-(n - k)] b) + costP n k (gvL n [n - k] a) (gvL n [n - k] b) := by
  rw [costP, hs, h]; simp; omega
theorem callable_try : Callable 168 := fun _ _ => by kernel_rfl
theorem _root_.Go.Lib.TabIs.keep' {w w' : World} (h : Lib.TabIs Tryz.prog w "internal/strconv.uint64pow10" .u64 Lib.pow10Tab) (hb : Below w.heap.size w w') : Tab w' := Tab.keep h hb
theorem try_go (IH : ∀ (a b : List Nd) (aa ab : Option Addr) (ca cb nm : Nat) (f : Lit → Option Lit) (F : St) (w : World), Pre n k a → Pre n k b → NdAbove B1 w aa a → NdAbove B1 w ab b → Env w bm bt bf mb nm f F → Sound n f → nm + costP n k a b ≤ 1000000000 →
      Lib.TabBelow Tryz.prog B0 w "internal/strconv.uint64pow10" .u64 Lib.pow10Tab → B1 ≤ w.heap.size →
      Calls Tryz.prog 168 #[.agg #[.int .i64 n, .slice aa a.length ca], .agg #[.int .i64 n, .slice ab b.length cb], .int .i64 (n - k + 1), .pointer (some ⟨bm, 0, none⟩), .pointer (some ⟨bt, 0, none⟩), .pointer (some ⟨bf, 0, none⟩)] w (TryPost n k a b bm bt bf mb nm F w))
    (pa : Pre n (k + 1) a) (pb : Pre n (k + 1) b) (hap : Apart B0 B1 bm bt bf mb) (hcost : nm + costP n (k + 1) a b ≤ 1000000000)
    (hhit : boolVal (f (.string (qkey [a, b]))) = false) (hk : (k : Int) < n) (hv : v = n - k) (hs : stop a b = false) (ha : netOk ⟨n, a⟩ = true) (hb : netOk ⟨n, b⟩ = true) (xa : NdCells w aa a) (xb : NdCells w ab b) (hE : Env w bm bt bf mb nm f F) (hS : Sound n f) (sa : Small a) (sb : Small b) (ht : Lib.TabBelow Tryz.prog B0 w "internal/strconv.uint64pow10" .u64 Lib.pow10Tab) (ya : NdAbove B1 w aa a) (yb : NdAbove B1 w ab b) (hB1 : B1 ≤ w.heap.size) :
    Calls Tryz.prog 168 #[.agg #[.int .i64 n, .slice aa a.length ca], .agg #[.int .i64 n, .slice ab b.length cb], .int .i64 v, .pointer (some ⟨bm, 0, none⟩), .pointer (some ⟨bt, 0, none⟩), .pointer (some ⟨bf, 0, none⟩)] w (TryPost n (k + 1) a b bm bt bf mb nm F w) := by
  have HIH := Lib.hid IH
  have PA := Lib.hid pa
  have PB := Lib.hid pb
  have HAP := Lib.hid hap
  have HC := Lib.hid hcost
  have HH := Lib.hid hhit
  have HS0 := Lib.hid hs
  have HBB := Lib.hid hB1
  have YA := Lib.hid ya
  have YB := Lib.hid yb
  have HB01 : Hid (B0 ≤ B1) := by show _ ≤ _; have h1 := hap.lo; have h2 := hap.hi; omega
  clear hhit IH pa pb hap hcost hB1 ya yb
  have HE := Lib.hid hE
  have HS := Lib.hid hS
  have SA := Lib.hid sa
  have SB := Lib.hid sb
  have HT := Lib.hid ht
  have hvn : ¬ n < v := by omega
  have HV := Lib.hid hv
  clear hE hS sa sb ht hv
  have hb0 : Below w.heap.size w ((w.alloc (.cells #[.int .i64 n, .slice aa a.length ca] 24)).alloc (.cells #[.int .i64 n, .slice ab b.length cb] 24)) := ((Below.refl _ _).alloc (Nat.le_refl _) _).alloc (by simp) _
  have HA := Lib.hid ha
  have HB := Lib.hid hb
  have XA := Lib.hid xa
  have XB := Lib.hid xb
  have HB0 := Lib.hid hb0
  have H1 := Lib.hid (isK_any n aa ca a 0 _ ha (xa.keep hb0))
  have q0 := Lib.hid ((Blk.new w #[.int .i64 n, .slice aa a.length ca] 24).alloc (.cells #[.int .i64 n, .slice ab b.length cb] 24))
  have q1 := Lib.hid (Blk.new (w.alloc (.cells #[.int .i64 n, .slice aa a.length ca] 24)) #[.int .i64 n, .slice ab b.length cb] 24)
  have hl1 : a.length ≤ 1073741824 := by have := (netOk_head ha).2.2.2; simp only at this; omega
  have hl2 : b.length ≤ 1073741824 := by have := (netOk_head hb).2.2.2; simp only at this; omega
  obtain ⟨hn0, hn1, _, _⟩ := netOk_head ha
  simp only at hn0 hn1
  simp only [stop, Bool.or_eq_false_iff] at hs
  obtain ⟨⟨e1, e2⟩, e3⟩ := hs
  rw [e1] at H1
  have E2 := Lib.hid e2
  have E3 := Lib.hid e3
  clear ha hb xa xb hb0 e1 e2 e3
  go_enter Tryz.func168, Tryz.ntmps168
  go_wp2_with fail
  refine H1.out.mono ?_
  rintro e w1 ⟨rfl, hb1⟩
  have HB1 := Lib.hid (HB0.out.trans (hb1.mono HB0.out.size))
  have r0 := q0.out.later hb1
  have r1 := q1.out.later hb1
  rw [World.size_alloc] at r1
  have k0 : w1.cell? ⟨w.heap.size + 1, 0, none⟩ = some (.int .i64 n) := r1.cell 0
  have k1 : w1.cell? ⟨w.heap.size + 1, 1, none⟩ = some (.slice ab b.length cb) := r1.cell 1
  have H2 := Lib.hid (isK_any n ab cb b 1 w1 HB.out (XB.out.keep HB1.out))
  rw [E2.out] at H2
  have R0 := Lib.hid r0
  have R1 := Lib.hid r1
  clear hb1 r1 r0
  go_wp2_with fail
  refine H2.out.mono ?_
  rintro e w2 ⟨rfl, hb2⟩
  have HB2 := Lib.hid (HB1.out.trans (hb2.mono HB1.out.size))
  have r0 := R0.out.later hb2
  have r1 := R1.out.later hb2
  clear k0 k1
  have k0 : w2.cell? ⟨w.heap.size, 0, none⟩ = some (.int .i64 n) := r0.cell 0
  have k1 : w2.cell? ⟨w.heap.size, 1, none⟩ = some (.slice aa a.length ca) := r0.cell 1
  have k2 : w2.cell? ⟨w.heap.size + 1, 0, none⟩ = some (.int .i64 n) := r1.cell 0
  have k3 : w2.cell? ⟨w.heap.size + 1, 1, none⟩ = some (.slice ab b.length cb) := r1.cell 1
  have H3 := Lib.hid (sameN_any n aa ca a ab cb b w2 hl1 hl2 (XA.out.keep HB2.out) (XB.out.keep HB2.out))
  rw [E3.out] at H3
  have Q0 := Lib.hid r0
  have Q1 := Lib.hid r1
  clear hb2 r1 r0
  go_wp2_with fail
  refine H3.out.mono ?_
  rintro e w3 ⟨rfl, hb3⟩
  have HB3 := Lib.hid (HB2.out.trans (hb3.mono HB2.out.size))
  have P0 := Lib.hid (Q0.out.later hb3)
  have P1 := Lib.hid (Q1.out.later hb3)
  clear k0 k1 k2 k3 hb3
  have k0 : w3.cell? ⟨w.heap.size, 0, none⟩ = some (.int .i64 n) := P0.out.cell 0
  have k1 : w3.cell? ⟨w.heap.size, 1, none⟩ = some (.slice aa a.length ca) := P0.out.cell 1
  have k2 : w3.cell? ⟨w.heap.size + 1, 0, none⟩ = some (.int .i64 n) := P1.out.cell 0
  have k3 : w3.cell? ⟨w.heap.size + 1, 1, none⟩ = some (.slice ab b.length cb) := P1.out.cell 1
  have HE3 := Lib.hid (HE.out.later HB3.out)
  have HNC : Hid (NetCells (w3.alloc (.cells #[.int .i64 n, .slice aa a.length ca, .int .i64 n, .slice ab b.length cb] 24)) (some ⟨w3.heap.size, 0, none⟩) [⟨n, a⟩, ⟨n, b⟩]) := by
    have hb4 : Below w.heap.size w (w3.alloc (.cells #[.int .i64 n, .slice aa a.length ca, .int .i64 n, .slice ab b.length cb] 24)) := HB3.out.alloc HB3.out.size _
    exact nets_two (Blk.new _ _ _) (XA.out.keep hb4) (XB.out.keep hb4) SA.out.1 SB.out.1
  have HKY := Lib.hid (qkey2_any n n w3.heap.size 2 a b (w3.alloc (.cells #[.int .i64 n, .slice aa a.length ca, .int .i64 n, .slice ab b.length cb] 24)) HA.out HB.out SA.out SB.out HNC.out (Tab.keep HT.out.here (HB3.out.alloc HB3.out.size _)))
  have hzw3 : w.heap.size + 1 < w3.heap.size := P1.out.lt
  go_wp2_with fail
  refine HKY.out.mono ?_
  rintro e w4 ⟨rfl, hb4⟩
  have HB34 : Hid (Below w3.heap.size w3 w4) := ((Below.refl _ _).alloc (Nat.le_refl _) _).trans (hb4.mono (by simp))
  have HB4 := Lib.hid (HB3.out.trans (HB34.out.mono HB3.out.size))
  have HE4 := Lib.hid (HE3.out.later HB34.out)
  have HKL := Lib.hid (qkey_len HA.out HB.out SA.out SB.out)
  have hlk := HE4.out.map.look_bool keyed_str Tryz.underlying176 Tryz.underlying4 zero_bool (keyOf_bytes (l := qkey [a, b]) (by have := HKL.out; omega))
  have kk : w4.cell? ⟨bm, 0, none⟩ = some (.map (some mb)) := HE4.out.none_.cell 0
  rw [HH.out] at hlk
  have p0 := P0.out.later HB34.out
  have p1 := P1.out.later HB34.out
  clear hb4 k0 k1 k2 k3
  have k0 : w4.cell? ⟨w.heap.size, 0, none⟩ = some (.int .i64 n) := p0.cell 0
  have k1 : w4.cell? ⟨w.heap.size, 1, none⟩ = some (.slice aa a.length ca) := p0.cell 1
  have k2 : w4.cell? ⟨w.heap.size + 1, 0, none⟩ = some (.int .i64 n) := p1.cell 0
  have k3 : w4.cell? ⟨w.heap.size + 1, 1, none⟩ = some (.slice ab b.length cb) := p1.cell 1
  have kt : w4.cell? ⟨bt, 0, none⟩ = some (.func (.func 168) #[] #[.pointer (some ⟨bm, 0, none⟩), .pointer (some ⟨bt, 0, none⟩), .pointer (some ⟨bf, 0, none⟩)]) := HE4.out.try_.cell 0
  have V0 := Lib.hid p0
  have V1 := Lib.hid p1
  have XA4 := Lib.hid (XA.out.keep HB4.out)
  have XB4 := Lib.hid (XB.out.keep HB4.out)
  have YA4 := Lib.hid (YA.out.later HB4.out)
  have YB4 := Lib.hid (YB.out.later HB4.out)
  have HT4 := Lib.hid (HT.out.on (HB4.out.mono (Nat.le_trans HB01.out HBB.out)))
  have HB14 := Lib.hid (Nat.le_trans HBB.out HB4.out.size)
  have HW4 : Hid (Kp (fun y => y = bf ∨ y = mb) w w4) := Kp.below HB4.out
  have HCE := Lib.hid (costP_left (k := k) (n := n) HS0.out)
  rw [← HV.out] at HCE
  clear p0 p1
  have hv1 : -128 ≤ v := by have := HV.out; omega
  have hv2 : v ≤ 128 := by have := HV.out; omega
  have hcf : ∀ (args : Array Value) (w : World), (callFunc 168 args).run Tryz.prog w = .ok (.enter 168 args) w := callable_try
  go_upto_region 8 with fail
  clear hlk kk
  have HHB : Hid (B1 ≤ w.heap.size) := HBB
  generalize w.heap.size = H at *
  go_cut [46] (fun s46 wx => Mid n k a b bm bt bf mb nm F (-v) w4 s46 wx)
  case first =>
    have HKS : Hid (∀ w' : World, Below w4.heap.size w4 w' → w'.cell? ⟨bt, 0, none⟩ = some (.func (.func 168) #[] #[.pointer (some ⟨bm, 0, none⟩), .pointer (some ⟨bt, 0, none⟩), .pointer (some ⟨bf, 0, none⟩)]) ∧ w'.cell? ⟨H, 0, none⟩ = some (.int .i64 n) ∧ w'.cell? ⟨H, 1, none⟩ = some (.slice aa a.length ca) ∧ w'.cell? ⟨H + 1, 0, none⟩ = some (.int .i64 n) ∧ w'.cell? ⟨H + 1, 1, none⟩ = some (.slice ab b.length cb)) := Lib.hid fun w' hb => ⟨cell_keep hb kt, cell_keep hb k0, cell_keep hb k1, cell_keep hb k2, cell_keep hb k3⟩
    have HKS2 : Hid (∀ w6 w' : World, Below w4.heap.size w4 w6 → Kp (fun y => y = bf ∨ y = mb) w6 w' → w'.cell? ⟨bt, 0, none⟩ = some (.func (.func 168) #[] #[.pointer (some ⟨bm, 0, none⟩), .pointer (some ⟨bt, 0, none⟩), .pointer (some ⟨bf, 0, none⟩)]) ∧ w'.cell? ⟨H, 0, none⟩ = some (.int .i64 n) ∧ w'.cell? ⟨H, 1, none⟩ = some (.slice aa a.length ca) ∧ w'.cell? ⟨H + 1, 0, none⟩ = some (.int .i64 n) ∧ w'.cell? ⟨H + 1, 1, none⟩ = some (.slice ab b.length cb)) := Lib.hid fun w6 w' hb hk => by
      obtain ⟨z0, z1, z2, z3, z4⟩ := HKS.out w6 hb
      have ne := HAP.out.ne
      have hi := HAP.out.hi
      have hh := HHB.out
      exact ⟨hk.cell z0 (by simp; omega), hk.cell z1 (by simp; omega), hk.cell z2 (by simp; omega), hk.cell z3 (by simp; omega), hk.cell z4 (by simp; omega)⟩
    have HGO : Hid (∀ (a1 a2 : Option Addr) (c1 c2 : Nat) (w6 : World), NdAbove B1 w6 a1 (gvL n [-v] a) → NdAbove B1 w6 a2 (gvL n [-v] b) → Below w4.heap.size w4 w6 →
        Calls Tryz.prog 168 #[.agg #[.int .i64 n, .slice a1 (gvL n [-v] a).length c1], .agg #[.int .i64 n, .slice a2 (gvL n [-v] b).length c2], .int .i64 (v + 1), .pointer (some ⟨bm, 0, none⟩), .pointer (some ⟨bt, 0, none⟩), .pointer (some ⟨bf, 0, none⟩)] w6 (TryPost n k (gvL n [-v] a) (gvL n [-v] b) bm bt bf mb nm F w6)) := Lib.hid fun a1 a2 c1 c2 w6 n1 n2 hb => by
      have h := HIH.out (gvL n [-v] a) (gvL n [-v] b) a1 a2 c1 c2 nm f F w6 (PA.out.next (x := -v) (by have := HV.out; omega)) (PB.out.next (x := -v) (by have := HV.out; omega)) n1 n2 (HE4.out.later hb) HS.out (by have h1 := HC.out; have h2 := HCE.out; omega) (HT4.out.on (hb.mono (Nat.le_trans HB01.out HB14.out))) (Nat.le_trans HB14.out hb.size)
      rw [← HV.out] at h; exact h
    have HGA : Hid (∀ (W : World) (c : Nat), Below w4.heap.size w4 W → Blk W c #[.int .i64 (-v)] 3 → Calls Tryz.prog 69 #[.agg #[.int .i64 n, .slice aa a.length ca], .slice (some ⟨c, 0, none⟩) 1 1] W
        fun e w' => ∃ a' cap', e = .returned (.agg #[.int .i64 n, .slice a' (gvL n [-v] a).length cap']) ∧ NdAbove W.heap.size w' a' (gvL n [-v] a) ∧ Below W.heap.size W w') := Lib.hid fun W c hb hk =>
      given_fine n aa ca a (some ⟨c, 0, none⟩) 1 [-v] W HA.out SA.out (XA4.out.keep hb) (IntCells.one hk) (by simp) (HT4.out.here.keep' hb)
    have HGB : Hid (∀ (W : World) (c : Nat), Below w4.heap.size w4 W → Blk W c #[.int .i64 (-v)] 3 → Calls Tryz.prog 69 #[.agg #[.int .i64 n, .slice ab b.length cb], .slice (some ⟨c, 0, none⟩) 1 1] W
        fun e w' => ∃ a' cap', e = .returned (.agg #[.int .i64 n, .slice a' (gvL n [-v] b).length cap']) ∧ NdAbove W.heap.size w' a' (gvL n [-v] b) ∧ Below W.heap.size W w') := Lib.hid fun W c hb hk =>
      given_fine n ab cb b (some ⟨c, 0, none⟩) 1 [-v] W HB.out SB.out (XB4.out.keep hb) (IntCells.one hk) (by simp) (HT4.out.here.keep' hb)
    have hwn : IntKind.i64.wrap (-v) = -v := IntWalk.i64_in _ (by omega)
    have hwp : IntKind.i64.wrap (v + 1) = v + 1 := IntWalk.i64_in _ (by omega)
    go_region_held3 (fun w' => w'.cell? ⟨bt, 0, none⟩ = some (.func (.func 168) #[] #[.pointer (some ⟨bm, 0, none⟩), .pointer (some ⟨bt, 0, none⟩), .pointer (some ⟨bf, 0, none⟩)]) ∧ w'.cell? ⟨H, 0, none⟩ = some (.int .i64 n) ∧ w'.cell? ⟨H, 1, none⟩ = some (.slice aa a.length ca) ∧ w'.cell? ⟨H + 1, 0, none⟩ = some (.int .i64 n) ∧ w'.cell? ⟨H + 1, 1, none⟩ = some (.slice ab b.length cb))
      (first | exact HKS2.out _ _ hw6 hkp7 | exact HKS.out _ (by with_reducible exact hw6) | exact HKS.out _ (by first | (with_reducible exact (Below.refl _ _).drew) | (with_reducible exact hw5) | (with_reducible exact (hw5.alloc hw5.size _)) | (with_reducible exact (((Below.refl _ _).alloc (Nat.le_refl _) _).drew)) | exact ((((Below.refl _ _).alloc (Nat.le_refl _) _).alloc (by simp) _).drew)))
      (first
        | (go_at_call_of 69 (Value.slice aa a.length ca)
           refine (HGA.out _ _ ?_ ?_).mono ?_
           · exact (by first | (with_reducible exact (Below.refl _ _).drew) | (with_reducible exact hw5) | (with_reducible exact (hw5.alloc hw5.size _)) | (with_reducible exact (((Below.refl _ _).alloc (Nat.le_refl _) _).drew)) | exact ((((Below.refl _ _).alloc (Nat.le_refl _) _).alloc (by simp) _).drew))
           · (first | (with_reducible exact Blk.drew (Blk.new _ _ _)) | (with_reducible exact Blk.drew (Blk.new' _ (World.size_alloc _ _) _ _)) | (with_reducible exact Blk.drew ((Blk.new _ _ _).alloc _)))
           rintro e w5 ⟨a1, c1, rfl, hn1, hb5⟩
           have hbw : Below w4.heap.size w4 w5 := Below.trans (B := w4.heap.size) (by first | (with_reducible exact (Below.refl _ _).drew) | (with_reducible exact hw5) | (with_reducible exact (hw5.alloc hw5.size _)) | (with_reducible exact (((Below.refl _ _).alloc (Nat.le_refl _) _).drew)) | exact ((((Below.refl _ _).alloc (Nat.le_refl _) _).alloc (by simp) _).drew)) (hb5.mono (Below.size (B := w4.heap.size) (w := w4) (by first | (with_reducible exact (Below.refl _ _).drew) | (with_reducible exact hw5) | (with_reducible exact (hw5.alloc hw5.size _)) | (with_reducible exact (((Below.refl _ _).alloc (Nat.le_refl _) _).drew)) | exact ((((Below.refl _ _).alloc (Nat.le_refl _) _).alloc (by simp) _).drew))))
           have hn5 : NdAbove B1 w5 a1 (gvL n [-v] a) := hn1.lower (Nat.le_trans HB14.out (Below.size (B := w4.heap.size) (w := w4) (by first | (with_reducible exact (Below.refl _ _).drew) | (with_reducible exact hw5) | (with_reducible exact (hw5.alloc hw5.size _)) | (with_reducible exact (((Below.refl _ _).alloc (Nat.le_refl _) _).drew)) | exact ((((Below.refl _ _).alloc (Nat.le_refl _) _).alloc (by simp) _).drew))))
           have hkp5 := Lib.hid (fun c cs t (h : Blk _ c cs t) => h.later hb5)
           have hw5 := hbw
           clear hbw)
        | (go_at_call_of 69 (Value.slice ab b.length cb)
           refine (HGB.out _ _ ?_ ?_).mono ?_
           · exact (by first | (with_reducible exact (Below.refl _ _).drew) | (with_reducible exact hw5) | (with_reducible exact (hw5.alloc hw5.size _)) | (with_reducible exact (((Below.refl _ _).alloc (Nat.le_refl _) _).drew)) | exact ((((Below.refl _ _).alloc (Nat.le_refl _) _).alloc (by simp) _).drew))
           · (first | (with_reducible exact Blk.new _ _ _) | (with_reducible exact hkp5.out _ _ _ (Blk.drew (Blk.new _ _ _))) | (with_reducible exact hkp5.out _ _ _ (Blk.drew (Blk.new' _ (World.size_alloc _ _) _ _))) | (with_reducible exact hkp5.out _ _ _ (Blk.drew ((Blk.new _ _ _).alloc _))))
           rintro e w6 ⟨a2, c2, rfl, hn2, hb6⟩
           have hw6 : Below w4.heap.size w4 w6 := Below.trans (B := w4.heap.size) (by first | (with_reducible exact (Below.refl _ _).drew) | (with_reducible exact hw5) | (with_reducible exact (hw5.alloc hw5.size _)) | (with_reducible exact (((Below.refl _ _).alloc (Nat.le_refl _) _).drew)) | exact ((((Below.refl _ _).alloc (Nat.le_refl _) _).alloc (by simp) _).drew)) (hb6.mono (Below.size (B := w4.heap.size) (w := w4) (by first | (with_reducible exact (Below.refl _ _).drew) | (with_reducible exact hw5) | (with_reducible exact (hw5.alloc hw5.size _)) | (with_reducible exact (((Below.refl _ _).alloc (Nat.le_refl _) _).drew)) | exact ((((Below.refl _ _).alloc (Nat.le_refl _) _).alloc (by simp) _).drew))))
           have hn6 : NdAbove B1 w6 a2 (gvL n [-v] b) := hn2.lower (Nat.le_trans HB14.out (Below.size (B := w4.heap.size) (w := w4) (by first | (with_reducible exact (Below.refl _ _).drew) | (with_reducible exact hw5) | (with_reducible exact (hw5.alloc hw5.size _)) | (with_reducible exact (((Below.refl _ _).alloc (Nat.le_refl _) _).drew)) | exact ((((Below.refl _ _).alloc (Nat.le_refl _) _).alloc (by simp) _).drew))))
           have hn56 : NdAbove B1 w6 a1 (gvL n [-v] a) := (by first | exact hn5.later hb6 | exact hn5.later (((Below.refl _ _).alloc (Nat.le_refl _) _).trans (hb6.mono (by simp)))))
        | (go_at_call 168
           refine (HGO.out a1 a2 c1 c2 _ hn56 hn6 hw6).mono ?_
           rintro e w7 hpost
           obtain ⟨rfl, hmid⟩ := Mid.of hpost hw6
           have hkp7 := hpost.2.choose_spec.choose_spec.2.2.2
           have HMID := Lib.hid hmid
           clear hpost hmid))
    all_goals (go_wp2_with fail; go_meet; exact HMID.out)
  case rest =>
    clear kt k0 k1 k2 k3 hcf
    obtain ⟨rfl, nm8, f8, hE8, hS8, hn8, hk8⟩ := hcut
    obtain ⟨w8, rfl⟩ : ∃ w8 : World, w8 = wc := ⟨_, rfl⟩
    have HN8 := Lib.hid hn8
    have HK8 := Lib.hid hk8
    have HS8 := Lib.hid hS8
    clear hn8 hk8 hS8
    cases h1 : tryP n k (gvL n [-v] a) (gvL n [-v] b) with
    | some m =>
      have HP : Hid (TryPost n (k + 1) a b bm bt bf mb nm F w (.returned (.bool true)) w8) := by
        have e : tryP n (k + 1) a b = some m := tryP_left HS0.out (by rw [← HV.out]; exact h1)
        rw [h1] at hE8
        refine ⟨by rw [e]; rfl, nm8, f8, by rw [e]; exact hE8, HS8.out, by have h3 := HCE.out; have h4 := HN8.out; omega, HW4.out.trans HK8.out⟩
      clear hE8 h1
      go_wp2
      go_ret
      exact HP.out
    | none =>
      rw [h1] at hE8
      have HE8 : Hid (Env w8 bm bt bf mb nm8 f8 F) := hE8
      have HH1 := Lib.hid h1
      clear HCE
      have HCE := Lib.hid (costP_right (k := k) (n := n) HS0.out (by rw [← HV.out]; exact HH1.out))
      rw [← HV.out] at HCE
      have hKB : Below B0 w4 w8 := HK8.out.toBelow (Nat.le_trans HB01.out HB14.out) (by have h3 := HAP.out.lo; intro y hy; omega)
      have HT8 := Lib.hid (HT4.out.on hKB)
      have hM8 : ∀ y, (y = bf ∨ y = mb) → y < B1 := by have h3 := HAP.out.hi; intro y hy; omega
      have XA8 := Lib.hid (YA4.out.kept HK8.out hM8).cells
      have XB8 := Lib.hid (YB4.out.kept HK8.out hM8).cells
      have HB18 := Lib.hid (Nat.le_trans HB14.out HK8.out.size)
      have hne := HAP.out.ne
      have hhi := HAP.out.hi
      have hhb := HHB.out
      have U0 := Lib.hid (V0.out.kept HK8.out (by omega))
      have U1 := Lib.hid (V1.out.kept HK8.out (by omega))
      have k0 : w8.cell? ⟨H, 0, none⟩ = some (.int .i64 n) := U0.out.cell 0
      have k1 : w8.cell? ⟨H, 1, none⟩ = some (.slice aa a.length ca) := U0.out.cell 1
      have k2 : w8.cell? ⟨H + 1, 0, none⟩ = some (.int .i64 n) := U1.out.cell 0
      have k3 : w8.cell? ⟨H + 1, 1, none⟩ = some (.slice ab b.length cb) := U1.out.cell 1
      have kt : w8.cell? ⟨bt, 0, none⟩ = some (.func (.func 168) #[] #[.pointer (some ⟨bm, 0, none⟩), .pointer (some ⟨bt, 0, none⟩), .pointer (some ⟨bf, 0, none⟩)]) := HE8.out.try_.cell 0
      have hcf : ∀ (args : Array Value) (w : World), (callFunc 168 args).run Tryz.prog w = .ok (.enter 168 args) w := callable_try
      clear hE8 h1 hKB hM8 hne hhi hhb
      go_upto_region 10 with fail
      go_cut [58] (fun s58 wx => Mid n k a b bm bt bf mb nm8 F v w8 s58 wx)
      case first =>
        have HKS : Hid (∀ w' : World, Below w8.heap.size w8 w' → w'.cell? ⟨bt, 0, none⟩ = some (.func (.func 168) #[] #[.pointer (some ⟨bm, 0, none⟩), .pointer (some ⟨bt, 0, none⟩), .pointer (some ⟨bf, 0, none⟩)]) ∧ w'.cell? ⟨H, 0, none⟩ = some (.int .i64 n) ∧ w'.cell? ⟨H, 1, none⟩ = some (.slice aa a.length ca) ∧ w'.cell? ⟨H + 1, 0, none⟩ = some (.int .i64 n) ∧ w'.cell? ⟨H + 1, 1, none⟩ = some (.slice ab b.length cb)) := Lib.hid fun w' hb => ⟨cell_keep hb kt, cell_keep hb k0, cell_keep hb k1, cell_keep hb k2, cell_keep hb k3⟩
        have HKS2 : Hid (∀ w6 w' : World, Below w8.heap.size w8 w6 → Kp (fun y => y = bf ∨ y = mb) w6 w' → w'.cell? ⟨bt, 0, none⟩ = some (.func (.func 168) #[] #[.pointer (some ⟨bm, 0, none⟩), .pointer (some ⟨bt, 0, none⟩), .pointer (some ⟨bf, 0, none⟩)]) ∧ w'.cell? ⟨H, 0, none⟩ = some (.int .i64 n) ∧ w'.cell? ⟨H, 1, none⟩ = some (.slice aa a.length ca) ∧ w'.cell? ⟨H + 1, 0, none⟩ = some (.int .i64 n) ∧ w'.cell? ⟨H + 1, 1, none⟩ = some (.slice ab b.length cb)) := Lib.hid fun w6 w' hb hk => by
          obtain ⟨z0, z1, z2, z3, z4⟩ := HKS.out w6 hb
          have ne := HAP.out.ne
          have hi := HAP.out.hi
          have hh := HHB.out
          exact ⟨hk.cell z0 (by simp; omega), hk.cell z1 (by simp; omega), hk.cell z2 (by simp; omega), hk.cell z3 (by simp; omega), hk.cell z4 (by simp; omega)⟩
        have HGO : Hid (∀ (a1 a2 : Option Addr) (c1 c2 : Nat) (w6 : World), NdAbove B1 w6 a1 (gvL n [v] a) → NdAbove B1 w6 a2 (gvL n [v] b) → Below w8.heap.size w8 w6 →
            Calls Tryz.prog 168 #[.agg #[.int .i64 n, .slice a1 (gvL n [v] a).length c1], .agg #[.int .i64 n, .slice a2 (gvL n [v] b).length c2], .int .i64 (v + 1), .pointer (some ⟨bm, 0, none⟩), .pointer (some ⟨bt, 0, none⟩), .pointer (some ⟨bf, 0, none⟩)] w6 (TryPost n k (gvL n [v] a) (gvL n [v] b) bm bt bf mb nm8 F w6)) := Lib.hid fun a1 a2 c1 c2 w6 n1 n2 hb => by
          have h := HIH.out (gvL n [v] a) (gvL n [v] b) a1 a2 c1 c2 nm8 f8 F w6 (PA.out.next (x := v) (by have := HV.out; omega)) (PB.out.next (x := v) (by have := HV.out; omega)) n1 n2 (HE8.out.later hb) HS8.out (by have h1 := HC.out; have h2 := HCE.out; have h3 := HN8.out; omega) (HT8.out.on (hb.mono (Nat.le_trans HB01.out HB18.out))) (Nat.le_trans HB18.out hb.size)
          rw [← HV.out] at h; exact h
        have HGA : Hid (∀ (W : World) (c : Nat), Below w8.heap.size w8 W → Blk W c #[.int .i64 (v)] 3 → Calls Tryz.prog 69 #[.agg #[.int .i64 n, .slice aa a.length ca], .slice (some ⟨c, 0, none⟩) 1 1] W
            fun e w' => ∃ a' cap', e = .returned (.agg #[.int .i64 n, .slice a' (gvL n [v] a).length cap']) ∧ NdAbove W.heap.size w' a' (gvL n [v] a) ∧ Below W.heap.size W w') := Lib.hid fun W c hb hk =>
          given_fine n aa ca a (some ⟨c, 0, none⟩) 1 [v] W HA.out SA.out (XA8.out.keep hb) (IntCells.one hk) (by simp) (HT8.out.here.keep' hb)
        have HGB : Hid (∀ (W : World) (c : Nat), Below w8.heap.size w8 W → Blk W c #[.int .i64 (v)] 3 → Calls Tryz.prog 69 #[.agg #[.int .i64 n, .slice ab b.length cb], .slice (some ⟨c, 0, none⟩) 1 1] W
            fun e w' => ∃ a' cap', e = .returned (.agg #[.int .i64 n, .slice a' (gvL n [v] b).length cap']) ∧ NdAbove W.heap.size w' a' (gvL n [v] b) ∧ Below W.heap.size W w') := Lib.hid fun W c hb hk =>
          given_fine n ab cb b (some ⟨c, 0, none⟩) 1 [v] W HB.out SB.out (XB8.out.keep hb) (IntCells.one hk) (by simp) (HT8.out.here.keep' hb)
        have hwn : IntKind.i64.wrap (v) = v := IntWalk.i64_in _ (by omega)
        have hwp : IntKind.i64.wrap (v + 1) = v + 1 := IntWalk.i64_in _ (by omega)
        go_region_held3 (fun w' => w'.cell? ⟨bt, 0, none⟩ = some (.func (.func 168) #[] #[.pointer (some ⟨bm, 0, none⟩), .pointer (some ⟨bt, 0, none⟩), .pointer (some ⟨bf, 0, none⟩)]) ∧ w'.cell? ⟨H, 0, none⟩ = some (.int .i64 n) ∧ w'.cell? ⟨H, 1, none⟩ = some (.slice aa a.length ca) ∧ w'.cell? ⟨H + 1, 0, none⟩ = some (.int .i64 n) ∧ w'.cell? ⟨H + 1, 1, none⟩ = some (.slice ab b.length cb))
          (first | exact HKS2.out _ _ hw6 hkp7 | exact HKS.out _ (by with_reducible exact hw6) | exact HKS.out _ (by first | (with_reducible exact (Below.refl _ _).drew) | (with_reducible exact hw5) | (with_reducible exact (hw5.alloc hw5.size _)) | (with_reducible exact (((Below.refl _ _).alloc (Nat.le_refl _) _).drew)) | exact ((((Below.refl _ _).alloc (Nat.le_refl _) _).alloc (by simp) _).drew)))
          (first
            | (go_at_call_of 69 (Value.slice aa a.length ca)
               refine (HGA.out _ _ ?_ ?_).mono ?_
               · exact (by first | (with_reducible exact (Below.refl _ _).drew) | (with_reducible exact hw5) | (with_reducible exact (hw5.alloc hw5.size _)) | (with_reducible exact (((Below.refl _ _).alloc (Nat.le_refl _) _).drew)) | exact ((((Below.refl _ _).alloc (Nat.le_refl _) _).alloc (by simp) _).drew))
               · (first | (with_reducible exact Blk.drew (Blk.new _ _ _)) | (with_reducible exact Blk.drew (Blk.new' _ (World.size_alloc _ _) _ _)) | (with_reducible exact Blk.drew ((Blk.new _ _ _).alloc _)))
               rintro e w5 ⟨a1, c1, rfl, hn1, hb5⟩
               have hbw : Below w8.heap.size w8 w5 := Below.trans (B := w8.heap.size) (by first | (with_reducible exact (Below.refl _ _).drew) | (with_reducible exact hw5) | (with_reducible exact (hw5.alloc hw5.size _)) | (with_reducible exact (((Below.refl _ _).alloc (Nat.le_refl _) _).drew)) | exact ((((Below.refl _ _).alloc (Nat.le_refl _) _).alloc (by simp) _).drew)) (hb5.mono (Below.size (B := w8.heap.size) (w := w8) (by first | (with_reducible exact (Below.refl _ _).drew) | (with_reducible exact hw5) | (with_reducible exact (hw5.alloc hw5.size _)) | (with_reducible exact (((Below.refl _ _).alloc (Nat.le_refl _) _).drew)) | exact ((((Below.refl _ _).alloc (Nat.le_refl _) _).alloc (by simp) _).drew))))
               have hn5 : NdAbove B1 w5 a1 (gvL n [v] a) := hn1.lower (Nat.le_trans HB18.out (Below.size (B := w8.heap.size) (w := w8) (by first | (with_reducible exact (Below.refl _ _).drew) | (with_reducible exact hw5) | (with_reducible exact (hw5.alloc hw5.size _)) | (with_reducible exact (((Below.refl _ _).alloc (Nat.le_refl _) _).drew)) | exact ((((Below.refl _ _).alloc (Nat.le_refl _) _).alloc (by simp) _).drew))))
               have hkp5 := Lib.hid (fun c cs t (h : Blk _ c cs t) => h.later hb5)
               have hw5 := hbw
               clear hbw)
            | (go_at_call_of 69 (Value.slice ab b.length cb)
               refine (HGB.out _ _ ?_ ?_).mono ?_
               · exact (by first | (with_reducible exact (Below.refl _ _).drew) | (with_reducible exact hw5) | (with_reducible exact (hw5.alloc hw5.size _)) | (with_reducible exact (((Below.refl _ _).alloc (Nat.le_refl _) _).drew)) | exact ((((Below.refl _ _).alloc (Nat.le_refl _) _).alloc (by simp) _).drew))
               · (first | (with_reducible exact Blk.new _ _ _) | (with_reducible exact hkp5.out _ _ _ (Blk.drew (Blk.new _ _ _))) | (with_reducible exact hkp5.out _ _ _ (Blk.drew (Blk.new' _ (World.size_alloc _ _) _ _))) | (with_reducible exact hkp5.out _ _ _ (Blk.drew ((Blk.new _ _ _).alloc _))))
               rintro e w6 ⟨a2, c2, rfl, hn2, hb6⟩
               have hw6 : Below w8.heap.size w8 w6 := Below.trans (B := w8.heap.size) (by first | (with_reducible exact (Below.refl _ _).drew) | (with_reducible exact hw5) | (with_reducible exact (hw5.alloc hw5.size _)) | (with_reducible exact (((Below.refl _ _).alloc (Nat.le_refl _) _).drew)) | exact ((((Below.refl _ _).alloc (Nat.le_refl _) _).alloc (by simp) _).drew)) (hb6.mono (Below.size (B := w8.heap.size) (w := w8) (by first | (with_reducible exact (Below.refl _ _).drew) | (with_reducible exact hw5) | (with_reducible exact (hw5.alloc hw5.size _)) | (with_reducible exact (((Below.refl _ _).alloc (Nat.le_refl _) _).drew)) | exact ((((Below.refl _ _).alloc (Nat.le_refl _) _).alloc (by simp) _).drew))))
               have hn6 : NdAbove B1 w6 a2 (gvL n [v] b) := hn2.lower (Nat.le_trans HB18.out (Below.size (B := w8.heap.size) (w := w8) (by first | (with_reducible exact (Below.refl _ _).drew) | (with_reducible exact hw5) | (with_reducible exact (hw5.alloc hw5.size _)) | (with_reducible exact (((Below.refl _ _).alloc (Nat.le_refl _) _).drew)) | exact ((((Below.refl _ _).alloc (Nat.le_refl _) _).alloc (by simp) _).drew))))
               have hn56 : NdAbove B1 w6 a1 (gvL n [v] a) := (by first | exact hn5.later hb6 | exact hn5.later (((Below.refl _ _).alloc (Nat.le_refl _) _).trans (hb6.mono (by simp)))))
            | (go_at_call 168
               refine (HGO.out a1 a2 c1 c2 _ hn56 hn6 hw6).mono ?_
               rintro e w7 hpost
               obtain ⟨rfl, hmid⟩ := Mid.of hpost hw6
               have hkp7 := hpost.2.choose_spec.choose_spec.2.2.2
               have HMID := Lib.hid hmid
               clear hpost hmid))
        all_goals (go_wp2_with fail; go_meet; exact HMID.out)
      case rest =>
        clear kt k0 k1 k2 k3 hcf
        obtain ⟨rfl, nm9, f9, hE9, hS9, hn9, hk9⟩ := hcut
        obtain ⟨w9, rfl⟩ : ∃ w9 : World, w9 = wc := ⟨_, rfl⟩
        have HN9 := Lib.hid hn9
        have HKK : Hid (Kp (fun y => y = bf ∨ y = mb) w w9) := (HW4.out.trans HK8.out).trans hk9
        have HS9 := Lib.hid hS9
        clear hn9 hk9 hS9
        cases h2 : tryP n k (gvL n [v] a) (gvL n [v] b) with
        | some m =>
          rw [h2] at hE9
          have HE9 := Lib.hid hE9
          have HTP : Hid (tryP n (k + 1) a b = some (m ++ [v])) := by
            show _ = _; rw [tryP_right HS0.out (by rw [← HV.out]; exact HH1.out), ← HV.out, h2]
          clear hE9 h2
          generalize hF9 : foundOf F (some m) = F9 at *
          have HF9 := Lib.hid hF9
          have k0 : w9.cell? ⟨bf, 0, none⟩ = some (.int .u64 (F9.a : Int)) := HE9.out.found.cell 0
          have k1 : w9.cell? ⟨bf, 1, none⟩ = some (.int .u64 (F9.b : Int)) := HE9.out.found.cell 1
          have HWT := Lib.hid (with_any F9 v w9 HE9.out.ok)
          clear hF9
          go_wp2_with fail
          refine HWT.out.mono ?_
          rintro e w10 ⟨rfl, hb10⟩
          have HE10 := Lib.hid (HE9.out.later hb10)
          have HK10 : Hid (Kp (fun y => y = bf ∨ y = mb) w w10) := HKK.out.trans (Kp.below hb10)
          have hz : bf < w10.heap.size := HE10.out.found.lt
          have fr0 := HE10.out.found.fr 0
          have fr1 := HE10.out.found.fr 1
          have c0 : w10.cell? ⟨bf, 0, none⟩ = some (.int .u64 (F9.a : Int)) := HE10.out.found.cell 0
          have c1 : w10.cell? ⟨bf, 1, none⟩ = some (.int .u64 (F9.b : Int)) := HE10.out.found.cell 1
          clear hb10 k0 k1
          go_wp2
          go_ret
          have ne := HAP.out.ne
          have hne1 : bf ≠ bm := fun e => ne.1 e.symm
          have hne2 : bf ≠ bt := fun e => ne.2.2.1 e.symm
          refine ⟨by rw [HTP.out]; rfl, nm9, f9, ?_, HS9.out, by have h3 := HCE.out; have h4 := HN8.out; have h5 := HN9.out; omega, ((HK10.out.trans (Kp.setCell _ _ _ (.inl rfl))).trans (Kp.setCell _ _ _ (.inl rfl)))⟩
          rw [HTP.out, foundOf_snoc, HF9.out]
          refine ⟨(HE10.out.none_.other _ _ hne1).other _ _ hne1, (HE10.out.try_.other _ _ hne2).other _ _ hne2, (HE10.out.found.set 0 _).set 1 _, ?_, St.add_ok HE10.out.ok v⟩
          exact (HE10.out.map.kept (Kp.setCell (M := fun y => y = bf) _ _ _ rfl) (fun e => ne.2.2.2.2 e.symm)).kept (Kp.setCell (M := fun y => y = bf) _ _ _ rfl) (fun e => ne.2.2.2.2 e.symm)
        | none =>
          rw [h2] at hE9
          have HE9 : Hid (Env w9 bm bt bf mb nm9 f9 F) := hE9
          have HTP : Hid (tryP n (k + 1) a b = none) := by
            show _ = _; rw [tryP_right HS0.out (by rw [← HV.out]; exact HH1.out), ← HV.out, h2]
          have HNO : Hid (∀ s, ¬ cex n a b s) := (tryP_none_iff (by omega) hn1 PA.out PB.out).1 HTP.out
          clear hE9 h2
          have kk : w9.cell? ⟨bm, 0, none⟩ = some (.map (some mb)) := HE9.out.none_.cell 0
          have HM9 := Lib.hid HE9.out.map
          have HKF := Lib.hid (keyOf_bytes (l := qkey [a, b]) (by have := HKL.out; omega))
          have HNB : Hid (nm9 ≤ 1073741824) := by show _ ≤ _; have h3 := HCE.out; have h4 := HN8.out; have h5 := HN9.out; have h6 := HC.out; omega
          have HPL : Hid (plainElem (H := Unit) Tryz.prog 4 (.bool true) = some (.lit (.bool true), [])) := plainElem_bool Tryz.underlying4 true
          go_wp2_with (at_mapUpdate; (refine store_lit rfl _ _ _ rfl keyed_str Tryz.underlying176 rfl HM9.out HNB.out (.string ⟨(qkey [a, b]).toArray⟩) (.bool true) (.string (qkey [a, b])) (.bool true) rfl rfl HKF.out trivial HPL.out ?_))
          intro w10 hm10 hg10
          have HP : Hid (TryPost n (k + 1) a b bm bt bf mb nm F w (.returned (.bool false)) w10) := by
            have ne := HAP.out.ne
            have hkp : Kp (fun y => y = mb) w9 w10 := Kp.grown hg10 (fun y hy => (Option.some.inj hy).symm)
            refine ⟨by rw [HTP.out]; rfl, nm9 + 1, _, ?_, HS9.out.put HNO.out, by have h3 := HCE.out; have h4 := HN8.out; have h5 := HN9.out; omega, HKK.out.trans (hkp.mono fun y _ h => .inr h)⟩
            rw [HTP.out]
            exact ⟨HE9.out.none_.kept hkp ne.2.1, HE9.out.try_.kept hkp ne.2.2.2.1, HE9.out.found.kept hkp ne.2.2.2.2, hm10, HE9.out.ok⟩
          clear hm10 hg10 kk
          go_wp2
          go_ret
          exact HP.out
end
end Go.Proofs.YtkaojolofaanfaaGreatDoor
