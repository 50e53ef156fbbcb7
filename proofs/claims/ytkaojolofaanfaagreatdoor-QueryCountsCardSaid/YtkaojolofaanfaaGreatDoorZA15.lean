/- Part of the proofs that laws of censuslaw38 return true for every input, where the tables that the rows list are laid. Texts: CntE, CntA, CntB. -/
import Derived.Test.YtkaojolofaanfaaGreatDoorZA5
import Derived.Test.YtkaojolofaanfaaGreatDoorZA12
import Derived.Test.YtkaojolofaanfaaGreatDoorZA14
import Derived.Test.YtkaojolofaanfaaGreatDoorZA3
import Derived.Deep.RegionHeld3
import Derived.Deep.DeepCutAuto
import Derived.Outline

/- The search for a counterexample in memory: what its variables hold. -/
namespace Go.Proofs.YtkaojolofaanfaaGreatDoor
open Go.RowKit Cen
open Go.Maps (Keyed string_keyed int_keyed)
set_option maxHeartbeats 2000000
set_option maxRecDepth 100000

theorem Blk.drew {w : World} {b : Nat} {cs : Array Value} {t : TypeId} (h : Blk w b cs t) : Blk w.drew b cs t := h
theorem NdAbove.later {B : Nat} {w w' : World} {a : Option Addr} {l : List Nd} (h : NdAbove B w a l) (hb : Below w.heap.size w w') : NdAbove B w' a l := h.kept (Kp.below (M := fun _ => False) hb) (fun _ h => h.elim)
theorem IntCells.one {w : World} {b : Nat} {x : Int} (h : Blk w b #[.int .i64 x] 3) : IntCells w (some ⟨b, 0, none⟩) [x] := by
  intro i hi
  have : i = 0 := by simpa using hi
  subst this
  exact ⟨b, 0, rfl, h.cell 0⟩
theorem nets_two {w : World} {b : Nat} {n m : Int} {aa ab : Option Addr} {la lb : List Nd} {ca cb : Nat} (h : Blk w b #[.int .i64 n, .slice aa la.length ca, .int .i64 m, .slice ab lb.length cb] 24)
    (ha : NdCells w aa la) (hb : NdCells w ab lb) (la1 : la.length ≤ 1000) (lb1 : lb.length ≤ 1000) : NetCells w (some ⟨b, 0, none⟩) [⟨n, la⟩, ⟨m, lb⟩] := by
  intro i hi
  have : i = 0 ∨ i = 1 := by simp at hi; omega
  rcases this with rfl | rfl
  · exact ⟨b, 0, rfl, h.cell 0, aa, ca, h.cell 1, ha, by show la.length ≤ _; omega⟩
  · exact ⟨b, 0, rfl, h.cell 2, ab, cb, h.cell 3, hb, by show lb.length ≤ _; omega⟩
/-- given, of a small net. -/
theorem given_fine (n : Int) (a : Option Addr) (cap : Nat) (l : List Nd) (b : Option Addr) (cap2 : Nat) (xs : List Int) (w : World) (hok : netOk ⟨n, l⟩ = true) (hs : Small l) (hx : NdCells w a l) (hxs : IntCells w b xs) (hxl : xs.length ≤ 1073741824) (ht : Tab w) :
    Calls Tryz.prog 69 #[.agg #[.int .i64 n, .slice a l.length cap], .slice b xs.length cap2] w
      fun e w' => ∃ a' cap', e = .returned (.agg #[.int .i64 n, .slice a' (gvL n xs l).length cap']) ∧ NdAbove w.heap.size w' a' (gvL n xs l) ∧ Below w.heap.size w w' :=
  given_any n a cap l b cap2 xs w hok hx hxs hxl (fun x hx => Nat.le_trans (hs.2 x hx) (by omega)) (small_flat (gvL_ok hok) (gv_small hs)) ht
theorem netOk_small {n : Int} {l : List Nd} (h : netOk ⟨n, l⟩ = true) : ∀ x ∈ l, small x.kind ∧ small x.lit ∧ ∀ i ∈ x.ins, small i := by
  intro x hx
  obtain ⟨k, hk, rfl⟩ := List.getElem_of_mem hx
  have h2 := (netOk_head h).2.2.2
  simp only at h2
  exact ndOk_small (netOk_nd h hk) (by omega)
theorem qkNds_len (l : List Nd) (M : Nat) (h : ∀ x ∈ l, (small x.kind ∧ small x.lit ∧ ∀ i ∈ x.ins, small i) ∧ x.ins.length ≤ M) : (l.flatMap qkNd).length ≤ l.length * (21 * M + 42) := by
  induction l with
  | nil => simp
  | cons x l ih =>
    obtain ⟨⟨h1, h2, h3⟩, h4⟩ := h x (by simp)
    have a1 := itoa_len x.kind h1.1 h1.2
    have a2 := itoa_len x.lit h2.1 h2.2
    have a3 := qkIns_len x.ins h3
    have a4 := ih fun y hy => h y (by simp [hy])
    have e : ((x :: l).flatMap qkNd).length = 1 + (Lib.itoa x.kind).length + (1 + (Lib.itoa x.lit).length + (qkIns x.ins).length) + (l.flatMap qkNd).length := by simp [qkNd]; omega
    rw [e, List.length_cons, Nat.succ_mul]
    have : 21 * x.ins.length ≤ 21 * M := Nat.mul_le_mul_left _ h4
    omega
theorem qkey_len {n m : Int} {a b : List Nd} (ha : netOk ⟨n, a⟩ = true) (hb : netOk ⟨m, b⟩ = true) (sa : Small a) (sb : Small b) : (qkey [a, b]).length ≤ 1073741000 := by
  have h1 := qkNds_len a 1000 fun x hx => ⟨netOk_small ha x hx, sa.2 x hx⟩
  have h2 := qkNds_len b 1000 fun x hx => ⟨netOk_small hb x hx, sb.2 x hx⟩
  have e : (qkey [a, b]).length = (a.flatMap qkNd).length + 1 + ((b.flatMap qkNd).length + 1) := by simp [qkey, qkL]; omega
  have h3 : a.length * (21 * 1000 + 42) ≤ 1000 * (21 * 1000 + 42) := Nat.mul_le_mul_right _ sa.1
  have h4 : b.length * (21 * 1000 + 42) ≤ 1000 * (21 * 1000 + 42) := Nat.mul_le_mul_right _ sb.1
  omega
/-- The key of two nets. -/
theorem qkey2_any (n m : Int) (a b : Nat) (la lb : List Nd) (w : World) (ha : netOk ⟨n, la⟩ = true) (hb : netOk ⟨m, lb⟩ = true) (sa : Small la) (sb : Small lb) (h : NetCells w (some ⟨a, 0, none⟩) [⟨n, la⟩, ⟨m, lb⟩]) (ht : Tab w) :
    Calls Tryz.prog 170 #[.slice (some ⟨a, 0, none⟩) 2 b] w fun e w' => e = .returned (.string ⟨(qkey [la, lb]).toArray⟩) ∧ Below w.heap.size w w' :=
  qkey_any (some ⟨a, 0, none⟩) b [⟨n, la⟩, ⟨m, lb⟩] w h (by simp) (by simp) (by
    intro t ht
    simp at ht
    rcases ht with rfl | rfl
    · exact netOk_small ha
    · exact netOk_small hb) (qkey_len ha hb sa sb) ht
theorem keyOf_bytes {l : List UInt8} (h : l.length ≤ 1073741824) : keyOf Tryz.prog 9 (.string ⟨l.toArray⟩) = some (.string l) := by
  have := Go.WideMaps.keyOf_string_mk (P := Tryz.prog) Tryz.underlying9 (s := ⟨l.toArray⟩) (by show l.toArray.size ≤ maxLen; unfold maxLen; simp; omega)
  simpa using this

/-- The variables of the search. -/
structure Env (w : World) (bm bt bf mb nm : Nat) (f : Lit → Option Lit) (F : St) : Prop where
  none_ : Blk w bm #[.map (some mb)] 176
  try_ : Blk w bt #[.func (.func 168) #[] #[.pointer (some ⟨bm, 0, none⟩), .pointer (some ⟨bt, 0, none⟩), .pointer (some ⟨bf, 0, none⟩)]] 177
  found : Blk w bf #[.int .u64 (F.a : Int), .int .u64 (F.b : Int)] 54
  map : MapL 9 4 w mb nm f
  ok : F.ok
structure Apart (B0 B1 bm bt bf mb : Nat) : Prop where
  lo : B0 ≤ bm ∧ B0 ≤ bt ∧ B0 ≤ bf ∧ B0 ≤ mb
  hi : bm < B1 ∧ bt < B1 ∧ bf < B1 ∧ mb < B1
  ne : bm ≠ bf ∧ bm ≠ mb ∧ bt ≠ bf ∧ bt ≠ mb ∧ bf ≠ mb
theorem Env.later {w w' : World} {bm bt bf mb nm : Nat} {f : Lit → Option Lit} {F : St} (h : Env w bm bt bf mb nm f F) (hb : Below w.heap.size w w') : Env w' bm bt bf mb nm f F :=
  ⟨h.none_.later hb, h.try_.later hb, h.found.later hb, h.map.later hb, h.ok⟩
/-- What is noted as none is none. -/
def Sound (n : Int) (f : Lit → Option Lit) : Prop :=
  ∀ a b : List Nd, netOk ⟨n, a⟩ = true → netOk ⟨n, b⟩ = true → boolVal (f (.string (qkey [a, b]))) = true → ∀ s, ¬ cex n a b s
theorem Sound.put {n : Int} {f : Lit → Option Lit} (h : Sound n f) {a b : List Nd} (hab : ∀ s, ¬ cex n a b s) : Sound n (fun x => if x.sameKey (.string (qkey [a, b])) then some (.bool true) else f x) := by
  intro a' b' ha hb hv
  by_cases e : qkey [a', b'] = qkey [a, b]
  · obtain ⟨rfl, rfl⟩ := qkey_inj e; exact hab
  · refine h a' b' ha hb ?_
    have : (Lit.string (qkey [a', b'])).sameKey (.string (qkey [a, b])) = false := Maps.sameKey_ne (by intro h; injection h with h; exact e h)
    simp only [this] at hv
    simpa using hv
/-- How many pairs may be noted. -/
def costP (n : Int) : Nat → List Nd → List Nd → Nat
  | 0, _, _ => 0
  | k + 1, a, b => if stop a b then 0 else costP n k (gvL n [-(n - k)] a) (gvL n [-(n - k)] b) + if (tryP n k (gvL n [-(n - k)] a) (gvL n [-(n - k)] b)).isSome then 0 else 1 + costP n k (gvL n [n - k] a) (gvL n [n - k] b)
theorem costP_le (n : Int) : ∀ (k : Nat) (a b : List Nd), costP n k a b + 1 ≤ 2 ^ k := by
  intro k
  induction k with
  | zero => intro a b; simp [costP]
  | succ k ih =>
    intro a b
    rw [costP]
    have h1 := ih (gvL n [-(n - k)] a) (gvL n [-(n - k)] b)
    have h2 := ih (gvL n [n - k] a) (gvL n [n - k] b)
    have h3 : 2 ^ (k + 1) = 2 ^ k + 2 ^ k := by rw [Nat.pow_succ]; omega
    split
    · omega
    · split <;> omega
/-- What has been found. -/
def foundOf (F : St) : Option (List Int) → St
  | none => F
  | some m => m.foldl St.add F
theorem foundOf_snoc (F : St) (m : List Int) (v : Int) : foundOf F (some (m ++ [v])) = (foundOf F (some m)).add v := by simp [foundOf]
/-- What a call of the search comes to. -/
def TryPost (n : Int) (k : Nat) (a b : List Nd) (bm bt bf mb nm : Nat) (F : St) (w : World) (e : Ending) (w' : World) : Prop :=
  e = .returned (.bool (tryP n k a b).isSome) ∧ ∃ nm' f', Env w' bm bt bf mb nm' f' (foundOf F (tryP n k a b)) ∧ Sound n f' ∧ nm' ≤ nm + costP n k a b ∧ Kp (fun x => x = bf ∨ x = mb) w w'
theorem TryPost.still {n : Int} {k : Nat} {a b : List Nd} {bm bt bf mb nm : Nat} {F : St} {f : Lit → Option Lit} {w w' : World} (h : tryP n k a b = none) (hE : Env w bm bt bf mb nm f F) (hS : Sound n f) (hb : Below w.heap.size w w') :
    TryPost n k a b bm bt bf mb nm F w (.returned (.bool false)) w' := by
  refine ⟨by rw [h]; rfl, nm, f, ?_, hS, by omega, Kp.below hb⟩
  rw [h]; exact hE.later hb
end Go.Proofs.YtkaojolofaanfaaGreatDoor

/- The search for a counterexample: the ways that end at once. -/
namespace Go.Proofs.YtkaojolofaanfaaGreatDoor
open Go.RowKit Cen
open Go.Maps (Keyed string_keyed int_keyed)
set_option maxHeartbeats 2000000
set_option maxRecDepth 100000

theorem isK_any (n : Int) (a : Option Addr) (cap : Nat) (l : List Nd) (kind : Int) (w : World) (hok : netOk ⟨n, l⟩ = true) (hx : NdCells w a l) :
    Calls Tryz.prog 68 #[.agg #[.int .i64 n, .slice a l.length cap], .int .i64 kind] w fun e w' => e = .returned (.bool (decide (rootK l = kind))) ∧ Below w.heap.size w w' := by
  obtain ⟨_, _, h1, h2⟩ := netOk_head hok
  simp only at h1 h2
  refine (is_any n a cap l kind w (by omega) h1 hx).mono ?_
  rintro e w' ⟨rfl, hb⟩
  exact ⟨by rw [rootK, show ((l.getD (l.length - 1) default).kind == kind) = decide ((l.getD (l.length - 1) default).kind = kind) from rfl], hb⟩
theorem sameN_any (n : Int) (a : Option Addr) (cap : Nat) (xs : List Nd) (b : Option Addr) (cap2 : Nat) (ys : List Nd) (w : World) (hl : xs.length ≤ 1073741824) (hl2 : ys.length ≤ 1073741824) (hx : NdCells w a xs) (hy : NdCells w b ys) :
    Calls Tryz.prog 169 #[.agg #[.int .i64 n, .slice a xs.length cap], .agg #[.int .i64 n, .slice b ys.length cap2]] w fun e w' => e = .returned (.bool (decide (xs = ys))) ∧ Below w.heap.size w w' := by
  refine (same_any n a cap xs n b cap2 ys w hl hl2 hx hy).mono ?_
  rintro e w' ⟨rfl, hb⟩
  exact ⟨ret_bool (by simp), hb⟩
theorem tryP_stop {n : Int} {k : Nat} {a b : List Nd} (h : stop a b = true) : tryP n k a b = none := by
  cases k <;> rw [tryP, h] <;> rfl
section
variable {n : Int} {k : Nat} {a b : List Nd} {aa ab : Option Addr} {ca cb : Nat} {v : Int} {bm bt bf mb nm : Nat} {f : Lit → Option Lit} {F : St} {w : World}
theorem try_stop (hs : stop a b = true) (ha : netOk ⟨n, a⟩ = true) (hb : netOk ⟨n, b⟩ = true) (xa : NdCells w aa a) (xb : NdCells w ab b) (hE : Env w bm bt bf mb nm f F) (hS : Sound n f) :
    Calls Tryz.prog 168 #[.agg #[.int .i64 n, .slice aa a.length ca], .agg #[.int .i64 n, .slice ab b.length cb], .int .i64 v, .pointer (some ⟨bm, 0, none⟩), .pointer (some ⟨bt, 0, none⟩), .pointer (some ⟨bf, 0, none⟩)] w (TryPost n k a b bm bt bf mb nm F w) := by
  have HP : Hid (∀ w', Below w.heap.size w w' → TryPost n k a b bm bt bf mb nm F w (.returned (.bool false)) w') := fun w' hb => TryPost.still (tryP_stop hs) hE hS hb
  have hb0 : Below w.heap.size w ((w.alloc (.cells #[.int .i64 n, .slice aa a.length ca] 24)).alloc (.cells #[.int .i64 n, .slice ab b.length cb] 24)) := ((Below.refl _ _).alloc (Nat.le_refl _) _).alloc (by simp) _
  have HA := Lib.hid ha
  have HB := Lib.hid hb
  have XA := Lib.hid xa
  have XB := Lib.hid xb
  have HB0 := Lib.hid hb0
  have H1 := Lib.hid (isK_any n aa ca a 0 _ ha (xa.keep hb0))
  have q0 := Lib.hid ((Blk.new w #[.int .i64 n, .slice aa a.length ca] 24).alloc (.cells #[.int .i64 n, .slice ab b.length cb] 24))
  have q1 := Lib.hid (Blk.new (w.alloc (.cells #[.int .i64 n, .slice aa a.length ca] 24)) #[.int .i64 n, .slice ab b.length cb] 24)
  have hl1 : a.length ≤ 1073741824 := by have := (netOk_head ha).2.2.2; simp only at this; omega
  have hl2 : b.length ≤ 1073741824 := by have := (netOk_head hb).2.2.2; simp only at this; omega
  simp only [stop, Bool.or_eq_true, decide_eq_true_eq] at hs
  clear ha hb xa xb hE hS hb0
  by_cases c1 : rootK a = 0
  · have e1 : decide (rootK a = 0) = true := by simpa using c1
    rw [e1] at H1
    clear hs c1 e1
    go_enter Tryz.func168, Tryz.ntmps168
    go_wp2_with fail
    refine H1.out.mono ?_
    rintro e w1 ⟨rfl, hb1⟩
    have HB1 := Lib.hid (HB0.out.trans (hb1.mono HB0.out.size))
    clear hb1
    go_wp2
    go_ret
    exact HP.out _ HB1.out
  · have e1 : decide (rootK a = 0) = false := by simpa using c1
    rw [e1] at H1
    have hs' : rootK b = 1 ∨ a = b := by
      rcases hs with (h | h) | h
      · exact absurd h c1
      · exact .inl h
      · exact .inr h
    clear hs c1 e1
    by_cases c2 : rootK b = 1
    · have e2 : decide (rootK b = 1) = true := by simpa using c2
      have E2 := Lib.hid e2
      clear hs' c2 e2
      go_enter Tryz.func168, Tryz.ntmps168
      go_wp2_with fail
      refine H1.out.mono ?_
      rintro e w1 ⟨rfl, hb1⟩
      have HB1 := Lib.hid (HB0.out.trans (hb1.mono HB0.out.size))
      have r1 := q1.out.later hb1
      rw [World.size_alloc] at r1
      have k0 : w1.cell? ⟨w.heap.size + 1, 0, none⟩ = some (.int .i64 n) := r1.cell 0
      have k1 : w1.cell? ⟨w.heap.size + 1, 1, none⟩ = some (.slice ab b.length cb) := r1.cell 1
      have H2 := Lib.hid (isK_any n ab cb b 1 w1 HB.out (XB.out.keep HB1.out))
      rw [E2.out] at H2
      clear hb1 r1
      go_wp2_with fail
      refine H2.out.mono ?_
      rintro e w2 ⟨rfl, hb2⟩
      have HB2 := Lib.hid (HB1.out.trans (hb2.mono HB1.out.size))
      clear hb2
      go_wp2
      go_ret
      exact HP.out _ HB2.out
    · have e2 : decide (rootK b = 1) = false := by simpa using c2
      have E2 := Lib.hid e2
      have e3 : decide (a = b) = true := by
        rcases hs' with h | h
        · exact absurd h c2
        · simpa using h
      have E3 := Lib.hid e3
      clear hs' c2 e2 e3
      go_enter Tryz.func168, Tryz.ntmps168
      go_wp2_with fail
      refine H1.out.mono ?_
      rintro e w1 ⟨rfl, hb1⟩
      have HB1 := Lib.hid (HB0.out.trans (hb1.mono HB0.out.size))
      have r0 := q0.out.later hb1
      have r1 := q1.out.later hb1
      rw [World.size_alloc] at r1
      have k0 : w1.cell? ⟨w.heap.size + 1, 0, none⟩ = some (.int .i64 n) := r1.cell 0
      have k1 : w1.cell? ⟨w.heap.size + 1, 1, none⟩ = some (.slice ab b.length cb) := r1.cell 1
      have H2 := Lib.hid (isK_any n ab cb b 1 w1 HB.out (XB.out.keep HB1.out))
      rw [E2.out] at H2
      have R0 := Lib.hid r0
      have R1 := Lib.hid r1
      clear hb1 r1 r0
      go_wp2_with fail
      refine H2.out.mono ?_
      rintro e w2 ⟨rfl, hb2⟩
      have HB2 := Lib.hid (HB1.out.trans (hb2.mono HB1.out.size))
      have r0 := R0.out.later hb2
      have r1 := R1.out.later hb2
      have k0 : w2.cell? ⟨w.heap.size, 0, none⟩ = some (.int .i64 n) := r0.cell 0
      have k1 : w2.cell? ⟨w.heap.size, 1, none⟩ = some (.slice aa a.length ca) := r0.cell 1
      have k2 : w2.cell? ⟨w.heap.size + 1, 0, none⟩ = some (.int .i64 n) := r1.cell 0
      have k3 : w2.cell? ⟨w.heap.size + 1, 1, none⟩ = some (.slice ab b.length cb) := r1.cell 1
      have H3 := Lib.hid (sameN_any n aa ca a ab cb b w2 hl1 hl2 (XA.out.keep HB2.out) (XB.out.keep HB2.out))
      rw [E3.out] at H3
      clear hb2 r1 r0
      go_wp2_with fail
      refine H3.out.mono ?_
      rintro e w3 ⟨rfl, hb3⟩
      have HB3 := Lib.hid (HB2.out.trans (hb3.mono HB2.out.size))
      clear hb3
      go_wp2
      go_ret
      exact HP.out _ HB3.out
end
end Go.Proofs.YtkaojolofaanfaaGreatDoor

/- The search for a counterexample: the ways through the search. -/
namespace Go.Proofs.YtkaojolofaanfaaGreatDoor
open Go.RowKit Cen
open Go.Maps (Keyed string_keyed int_keyed)
set_option maxHeartbeats 4000000
set_option maxRecDepth 100000
section
variable {n : Int} {k : Nat} {a b : List Nd} {aa ab : Option Addr} {ca cb : Nat} {v : Int} {bm bt bf mb nm B0 B1 : Nat} {f : Lit → Option Lit} {F : St} {w : World}
theorem try_zero (hv : v = n + 1) (hs : stop a b = false) (ha : netOk ⟨n, a⟩ = true) (hb : netOk ⟨n, b⟩ = true) (xa : NdCells w aa a) (xb : NdCells w ab b) (hE : Env w bm bt bf mb nm f F) (hS : Sound n f) :
    Calls Tryz.prog 168 #[.agg #[.int .i64 n, .slice aa a.length ca], .agg #[.int .i64 n, .slice ab b.length cb], .int .i64 v, .pointer (some ⟨bm, 0, none⟩), .pointer (some ⟨bt, 0, none⟩), .pointer (some ⟨bf, 0, none⟩)] w (TryPost n 0 a b bm bt bf mb nm F w) := by
  have HP : Hid (∀ w', Below w.heap.size w w' → TryPost n 0 a b bm bt bf mb nm F w (.returned (.bool true)) w') := fun w' hb => by
    have e : tryP n 0 a b = some [] := by rw [tryP, hs]; rfl
    refine ⟨by rw [e]; rfl, nm, f, ?_, hS, by omega, Kp.below hb⟩
    rw [e]; exact hE.later hb
  have hvn : n < v := by omega
  clear hE hS hv
  have hb0 : Below w.heap.size w ((w.alloc (.cells #[.int .i64 n, .slice aa a.length ca] 24)).alloc (.cells #[.int .i64 n, .slice ab b.length cb] 24)) := ((Below.refl _ _).alloc (Nat.le_refl _) _).alloc (by simp) _
  have HA := Lib.hid ha
  have HB := Lib.hid hb
  have XA := Lib.hid xa
  have XB := Lib.hid xb
  have HB0 := Lib.hid hb0
  have H1 := Lib.hid (isK_any n aa ca a 0 _ ha (xa.keep hb0))
  have q0 := Lib.hid ((Blk.new w #[.int .i64 n, .slice aa a.length ca] 24).alloc (.cells #[.int .i64 n, .slice ab b.length cb] 24))
  have q1 := Lib.hid (Blk.new (w.alloc (.cells #[.int .i64 n, .slice aa a.length ca] 24)) #[.int .i64 n, .slice ab b.length cb] 24)
  have hl1 : a.length ≤ 1073741824 := by have := (netOk_head ha).2.2.2; simp only at this; omega
  have hl2 : b.length ≤ 1073741824 := by have := (netOk_head hb).2.2.2; simp only at this; omega
  obtain ⟨hn0, hn1, _, _⟩ := netOk_head ha
  simp only at hn0 hn1
  simp only [stop, Bool.or_eq_false_iff] at hs
  obtain ⟨⟨e1, e2⟩, e3⟩ := hs
  rw [e1] at H1
  have E2 := Lib.hid e2
  have E3 := Lib.hid e3
  clear ha hb xa xb hb0 e1 e2 e3
  go_enter Tryz.func168, Tryz.ntmps168
  go_wp2_with fail
  refine H1.out.mono ?_
  rintro e w1 ⟨rfl, hb1⟩
  have HB1 := Lib.hid (HB0.out.trans (hb1.mono HB0.out.size))
  have r0 := q0.out.later hb1
  have r1 := q1.out.later hb1
  rw [World.size_alloc] at r1
  have k0 : w1.cell? ⟨w.heap.size + 1, 0, none⟩ = some (.int .i64 n) := r1.cell 0
  have k1 : w1.cell? ⟨w.heap.size + 1, 1, none⟩ = some (.slice ab b.length cb) := r1.cell 1
  have H2 := Lib.hid (isK_any n ab cb b 1 w1 HB.out (XB.out.keep HB1.out))
  rw [E2.out] at H2
  have R0 := Lib.hid r0
  have R1 := Lib.hid r1
  clear hb1 r1 r0
  go_wp2_with fail
  refine H2.out.mono ?_
  rintro e w2 ⟨rfl, hb2⟩
  have HB2 := Lib.hid (HB1.out.trans (hb2.mono HB1.out.size))
  have r0 := R0.out.later hb2
  have r1 := R1.out.later hb2
  clear k0 k1
  have k0 : w2.cell? ⟨w.heap.size, 0, none⟩ = some (.int .i64 n) := r0.cell 0
  have k1 : w2.cell? ⟨w.heap.size, 1, none⟩ = some (.slice aa a.length ca) := r0.cell 1
  have k2 : w2.cell? ⟨w.heap.size + 1, 0, none⟩ = some (.int .i64 n) := r1.cell 0
  have k3 : w2.cell? ⟨w.heap.size + 1, 1, none⟩ = some (.slice ab b.length cb) := r1.cell 1
  have H3 := Lib.hid (sameN_any n aa ca a ab cb b w2 hl1 hl2 (XA.out.keep HB2.out) (XB.out.keep HB2.out))
  rw [E3.out] at H3
  have Q0 := Lib.hid r0
  have Q1 := Lib.hid r1
  clear hb2 r1 r0
  go_wp2_with fail
  refine H3.out.mono ?_
  rintro e w3 ⟨rfl, hb3⟩
  have HB3 := Lib.hid (HB2.out.trans (hb3.mono HB2.out.size))
  have P0 := Lib.hid (Q0.out.later hb3)
  have P1 := Lib.hid (Q1.out.later hb3)
  clear k0 k1 k2 k3 hb3
  have k0 : w3.cell? ⟨w.heap.size, 0, none⟩ = some (.int .i64 n) := P0.out.cell 0
  have k1 : w3.cell? ⟨w.heap.size, 1, none⟩ = some (.slice aa a.length ca) := P0.out.cell 1
  have k2 : w3.cell? ⟨w.heap.size + 1, 0, none⟩ = some (.int .i64 n) := P1.out.cell 0
  have k3 : w3.cell? ⟨w.heap.size + 1, 1, none⟩ = some (.slice ab b.length cb) := P1.out.cell 1
  go_wp2
  go_ret
  exact HP.out _ HB3.out
theorem try_hit (hhit : boolVal (f (.string (qkey [a, b]))) = true) (hnone : tryP n (k + 1) a b = none) (_hk : (k : Int) < n) (hv : v = n - k) (hs : stop a b = false) (ha : netOk ⟨n, a⟩ = true) (hb : netOk ⟨n, b⟩ = true) (xa : NdCells w aa a) (xb : NdCells w ab b) (hE : Env w bm bt bf mb nm f F) (hS : Sound n f) (sa : Small a) (sb : Small b) (ht : Lib.TabBelow Tryz.prog B0 w "internal/strconv.uint64pow10" .u64 Lib.pow10Tab) :
    Calls Tryz.prog 168 #[.agg #[.int .i64 n, .slice aa a.length ca], .agg #[.int .i64 n, .slice ab b.length cb], .int .i64 v, .pointer (some ⟨bm, 0, none⟩), .pointer (some ⟨bt, 0, none⟩), .pointer (some ⟨bf, 0, none⟩)] w (TryPost n (k + 1) a b bm bt bf mb nm F w) := by
  have HP : Hid (∀ w', Below w.heap.size w w' → TryPost n (k + 1) a b bm bt bf mb nm F w (.returned (.bool false)) w') := fun w' hb => TryPost.still hnone hE hS hb
  have HH := Lib.hid hhit
  clear hhit hnone
  have HE := Lib.hid hE
  have HS := Lib.hid hS
  have SA := Lib.hid sa
  have SB := Lib.hid sb
  have HT := Lib.hid ht
  have hvn : ¬ n < v := by omega
  have HV := Lib.hid hv
  clear hE hS sa sb ht hv
  have hb0 : Below w.heap.size w ((w.alloc (.cells #[.int .i64 n, .slice aa a.length ca] 24)).alloc (.cells #[.int .i64 n, .slice ab b.length cb] 24)) := ((Below.refl _ _).alloc (Nat.le_refl _) _).alloc (by simp) _
  have HA := Lib.hid ha
  have HB := Lib.hid hb
  have XA := Lib.hid xa
  have XB := Lib.hid xb
  have HB0 := Lib.hid hb0
  have H1 := Lib.hid (isK_any n aa ca a 0 _ ha (xa.keep hb0))
  have q0 := Lib.hid ((Blk.new w #[.int .i64 n, .slice aa a.length ca] 24).alloc (.cells #[.int .i64 n, .slice ab b.length cb] 24))
  have q1 := Lib.hid (Blk.new (w.alloc (.cells #[.int .i64 n, .slice aa a.length ca] 24)) #[.int .i64 n, .slice ab b.length cb] 24)
  have hl1 : a.length ≤ 1073741824 := by have := (netOk_head ha).2.2.2; simp only at this; omega
  have hl2 : b.length ≤ 1073741824 := by have := (netOk_head hb).2.2.2; simp only at this; omega
  obtain ⟨hn0, hn1, _, _⟩ := netOk_head ha
  simp only at hn0 hn1
  simp only [stop, Bool.or_eq_false_iff] at hs
  obtain ⟨⟨e1, e2⟩, e3⟩ := hs
  rw [e1] at H1
  have E2 := Lib.hid e2
  have E3 := Lib.hid e3
  clear ha hb xa xb hb0 e1 e2 e3
  go_enter Tryz.func168, Tryz.ntmps168
  go_wp2_with fail
  refine H1.out.mono ?_
  rintro e w1 ⟨rfl, hb1⟩
  have HB1 := Lib.hid (HB0.out.trans (hb1.mono HB0.out.size))
  have r0 := q0.out.later hb1
  have r1 := q1.out.later hb1
  rw [World.size_alloc] at r1
  have k0 : w1.cell? ⟨w.heap.size + 1, 0, none⟩ = some (.int .i64 n) := r1.cell 0
  have k1 : w1.cell? ⟨w.heap.size + 1, 1, none⟩ = some (.slice ab b.length cb) := r1.cell 1
  have H2 := Lib.hid (isK_any n ab cb b 1 w1 HB.out (XB.out.keep HB1.out))
  rw [E2.out] at H2
  have R0 := Lib.hid r0
  have R1 := Lib.hid r1
  clear hb1 r1 r0
  go_wp2_with fail
  refine H2.out.mono ?_
  rintro e w2 ⟨rfl, hb2⟩
  have HB2 := Lib.hid (HB1.out.trans (hb2.mono HB1.out.size))
  have r0 := R0.out.later hb2
  have r1 := R1.out.later hb2
  clear k0 k1
  have k0 : w2.cell? ⟨w.heap.size, 0, none⟩ = some (.int .i64 n) := r0.cell 0
  have k1 : w2.cell? ⟨w.heap.size, 1, none⟩ = some (.slice aa a.length ca) := r0.cell 1
  have k2 : w2.cell? ⟨w.heap.size + 1, 0, none⟩ = some (.int .i64 n) := r1.cell 0
  have k3 : w2.cell? ⟨w.heap.size + 1, 1, none⟩ = some (.slice ab b.length cb) := r1.cell 1
  have H3 := Lib.hid (sameN_any n aa ca a ab cb b w2 hl1 hl2 (XA.out.keep HB2.out) (XB.out.keep HB2.out))
  rw [E3.out] at H3
  have Q0 := Lib.hid r0
  have Q1 := Lib.hid r1
  clear hb2 r1 r0
  go_wp2_with fail
  refine H3.out.mono ?_
  rintro e w3 ⟨rfl, hb3⟩
  have HB3 := Lib.hid (HB2.out.trans (hb3.mono HB2.out.size))
  have P0 := Lib.hid (Q0.out.later hb3)
  have P1 := Lib.hid (Q1.out.later hb3)
  clear k0 k1 k2 k3 hb3
  have k0 : w3.cell? ⟨w.heap.size, 0, none⟩ = some (.int .i64 n) := P0.out.cell 0
  have k1 : w3.cell? ⟨w.heap.size, 1, none⟩ = some (.slice aa a.length ca) := P0.out.cell 1
  have k2 : w3.cell? ⟨w.heap.size + 1, 0, none⟩ = some (.int .i64 n) := P1.out.cell 0
  have k3 : w3.cell? ⟨w.heap.size + 1, 1, none⟩ = some (.slice ab b.length cb) := P1.out.cell 1
  have HE3 := Lib.hid (HE.out.later HB3.out)
  have HNC : Hid (NetCells (w3.alloc (.cells #[.int .i64 n, .slice aa a.length ca, .int .i64 n, .slice ab b.length cb] 24)) (some ⟨w3.heap.size, 0, none⟩) [⟨n, a⟩, ⟨n, b⟩]) := by
    have hb4 : Below w.heap.size w (w3.alloc (.cells #[.int .i64 n, .slice aa a.length ca, .int .i64 n, .slice ab b.length cb] 24)) := HB3.out.alloc HB3.out.size _
    exact nets_two (Blk.new _ _ _) (XA.out.keep hb4) (XB.out.keep hb4) SA.out.1 SB.out.1
  have HKY := Lib.hid (qkey2_any n n w3.heap.size 2 a b (w3.alloc (.cells #[.int .i64 n, .slice aa a.length ca, .int .i64 n, .slice ab b.length cb] 24)) HA.out HB.out SA.out SB.out HNC.out (Tab.keep HT.out.here (HB3.out.alloc HB3.out.size _)))
  have hzw3 : w.heap.size + 1 < w3.heap.size := P1.out.lt
  go_wp2_with fail
  refine HKY.out.mono ?_
  rintro e w4 ⟨rfl, hb4⟩
  have HB34 : Hid (Below w3.heap.size w3 w4) := ((Below.refl _ _).alloc (Nat.le_refl _) _).trans (hb4.mono (by simp))
  have HB4 := Lib.hid (HB3.out.trans (HB34.out.mono HB3.out.size))
  have HE4 := Lib.hid (HE3.out.later HB34.out)
  have HKL := Lib.hid (qkey_len HA.out HB.out SA.out SB.out)
  have hlk := HE4.out.map.look_bool keyed_str Tryz.underlying176 Tryz.underlying4 zero_bool (keyOf_bytes (l := qkey [a, b]) (by have := HKL.out; omega))
  have kk : w4.cell? ⟨bm, 0, none⟩ = some (.map (some mb)) := HE4.out.none_.cell 0
  rw [HH.out] at hlk
  clear hb4 k0 k1 k2 k3
  go_wp2
  go_ret
  exact HP.out _ HB4.out
end
end Go.Proofs.YtkaojolofaanfaaGreatDoor
