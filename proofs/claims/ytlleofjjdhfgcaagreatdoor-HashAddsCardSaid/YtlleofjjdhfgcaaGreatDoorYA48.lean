/- Parts of the proofs of laws. Texts: Fk, Pn1, Jb. -/
import Derived.Test.YtlleofjjdhfgcaaGreatDoorYA47
set_option maxHeartbeats 8000000
set_option maxRecDepth 100000
set_option linter.all false
namespace Go.Proofs.YtlleofjjdhfgcaaGreatDoor
open Go.RowKit Cen
theorem zkh (a : Option Addr) (cap : Nat) (xs : List Int) (g : FuncId) (cs : Array Value) (p : Int -> Bool) (w : World) (hl : xs.length <= 1073741824)
 (hx : IntCells w a xs) (hp : ∀ x W, x ∈ xs -> Below w.heap.size w W -> Calls Tryz.prog g (#[.int .i64 x] ++ cs) W fun e w' => e = .returned (.bool (p x)) /\ Below W.heap.size W w') (hcf0 : za8 g) :
 Calls Tryz.prog 132 #[.slice a xs.length cap, .func (.func g) #[] cs] w fun e w' => e = .returned (.int .i64 (idx p xs)) /\ Below w.heap.size w w' := by
 have HX := lh hx;have HP := lh hp;have hcf : ∀ (args : Array Value) (w : World), (callFunc g args).run Tryz.prog w = .ok (.enter g args) w := hcf0;clear hx hp hcf0;go_enter Tryz.func132, Tryz.ntmps132;go_wp2
 go_loopw [5, 8] (fun v i wr => ∃ k : Nat, k <= xs.length /\ i = .int .i64 k /\ (∀ j, j < k -> p (xs.getD j 0) = false) /\ Below w.heap.size w wr) (fun _ i _ => xs.length - (intOf i).toNat)
 case atStart => exact ⟨0, Nat.zero_le _, rfl, fun j h => absurd h (Nat.not_lt_zero _), Below.refl _ _⟩
 obtain ⟨k, hk, rfl, hno, hb⟩ := hrel;have HN := lh hno;have HB := lh hb;have HXR := lh (HX.o.keep hb);clear hno hb
 by_cases hlt : k < xs.length
 ·obtain ⟨b, off, rfl, hc⟩ := HXR.o k hlt
  cases hpk : p xs[k]
  ·have HK := lh hpk;clear hpk;go_wp2_with fail;refine (HP.o xs[k] _ (List.getElem_mem hlt) HB.o).mono ?_;rw [HK.o];rintro e w1 ⟨rfl, hb1⟩;have HB1 := bt HB hb1;clear hb1;go_wp2;go_roundw
   case rel => exact ⟨k + 1, by omega, by go_num, fun j hj => by
    by_cases e : j = k
    ·subst e; simpa [List.getD_eq_getElem?_getD, hlt] using HK.o
    exact HN.o j (by omega), HB1.o⟩
   case measure => simp [intOf]; omega
  have HK := lh hpk;clear hpk;go_wp2_with fail;refine (HP.o xs[k] _ (List.getElem_mem hlt) HB.o).mono ?_;rw [HK.o];rintro e w1 ⟨rfl, hb1⟩;have HB1 := bt HB hb1;clear hb1;go_wp2;go_ret;exact ⟨zbu (zpt p xs k hlt HN.o HK.o).symm, HB1.o⟩
 have : k = xs.length := by omega
 subst this;go_wp2;go_ret;exact ⟨zbu (zmi p xs HN.o).symm, HB.o⟩
theorem zg1 (a : Option Addr) (cap : Nat) (xs : List Int) (g : FuncId) (cs : Array Value) (p : Int -> Bool) (w : World) (hl : xs.length <= 1073741824)
 (hx : IntCells w a xs) (hp : ∀ x W, x ∈ xs -> Below w.heap.size w W -> Calls Tryz.prog g (#[.int .i64 x] ++ cs) W fun e w' => e = .returned (.bool (p x)) /\ Below W.heap.size W w') (hcf0 : za8 g) :
 Calls Tryz.prog 100 #[.slice a xs.length cap, .func (.func g) #[] cs] w fun e w' => e = .returned (.bool (xs.any p)) /\ Below w.heap.size w w' := by
 have HI := lh (zkh a cap xs g cs p w hl hx hp hcf0);clear hx hp hcf0;go_enter Tryz.func100, Tryz.ntmps100;go_wp2_with fail;refine HI.o.mono ?_;rintro e w1 ⟨rfl, hb1⟩;have HB1 := lh hb1;clear hb1;go_wp2;go_ret;exact ⟨zbg (zps p xs), HB1.o⟩
theorem zwo (s : St) (x : Int) (b : Nat) (w : World) (hs : s.ok) (h : Blk w b #[.int .u64 (s.a : Int), .int .u64 (s.b : Int)] 40) :
 Calls Tryz.prog 101 #[.int .i64 x, .pointer (some ⟨b, 0, none⟩)] w fun e w' => e = .returned (.bool (zcj s.mem x)) /\ Below w.heap.size w w' := by
 have c0 := h.cell 0;have c1 := h.cell 1;have HH := lh (zss s x w hs);clear h;go_enter Tryz.func101, Tryz.ntmps101;go_wp2_with fail;refine HH.o.mono ?_;rintro e w1 ⟨rfl, hb1⟩;have HB1 := lh hb1;clear hb1;go_wp2;go_ret;exact ⟨rfl, HB1.o⟩
theorem zl0 : za8 101 := fun _ _ => by kernel_rfl
theorem zso (s : St) (a : Option Addr) (cap : Nat) (xs : Cl) (w : World) (hs : s.ok) (hl : xs.length <= 1073741824) (hx : IntCells w a xs) :
 Calls Tryz.prog 63 #[stv s, .slice a xs.length cap] w fun e w' => e = .returned (.bool (evC s.mem xs)) /\ Below w.heap.size w w' := by
 have hb0 : Below w.heap.size w (w.alloc (.cells #[.int .u64 (s.a : Int), .int .u64 (s.b : Int)] 40)) := ba _ _
 have hmf : ∀ (w : World), (Instr.makeFunc (.func 101) #[] #[.pointer (some ⟨w.heap.size, 0, none⟩)]).run Tryz.prog w = .ok (.func (.func 101) #[] #[.pointer (some ⟨w.heap.size, 0, none⟩)]) w := fun _ => rfl
 have HB0 := lh hb0;have q0 := Blk.new w #[.int .u64 (s.a : Int), .int .u64 (s.b : Int)] 40;have HC := lh (zg1 a cap xs 101 #[.pointer (some ⟨w.heap.size, 0, none⟩)] (zcj s.mem) _ hl (hx.keep hb0) (fun x W _ hW => zwo s x w.heap.size W hs (q0.later hW)) zl0);clear hb0 hx q0 hmf;go_enter Tryz.func63, Tryz.ntmps63;go_wp2_with fail;refine HC.o.mono ?_;rintro e w1 ⟨rfl, hb1⟩;have HB1 := bt HB0 hb1;clear hb1;go_wp2;go_ret;exact ⟨rfl, HB1.o⟩
theorem ybs {s : St} (hs : s.ok) {n : Int} (h : ∀ v : Int, n < v -> s.mem v = false) : decide (St.minus s (zbq n) = St.zero) = true := by
 rw [decide_eq_true_iff]
 apply St.ext (St.minus_ok hs) St.zero_ok
 intro v h1 h2;rw [St.mem_minus (zdo n), zdc, St.mem_zero, decide_eq_true h1, decide_eq_true h2]
 by_cases h3 : v <= n
 ·rw [decide_eq_true h3]; simp
 rw [h v (by omega)]; simp
theorem zyx (n : Nat) (hn : n <= 128) (a : Option Addr) (cap : Nat) (t : List Cl) (s : St) (w : World) (ht : tOk n t) (hx : LsCells w a t) (hs : s.ok) (hsn : ∀ v : Int, (n : Int) < v -> s.mem v = false) :
 Calls Tryz.prog 29 #[.agg #[.int .i64 n, .slice a t.length cap], stv s] w fun e w' => e = .returned (.bool (evL s.mem t)) /\ Below w.heap.size w w' := by
 obtain ⟨w0, hw0⟩ := nm ((w.alloc (.cells #[.int .i64 n, .slice a t.length cap] 24)).alloc (.cells #[.int .u64 (s.a : Int), .int .u64 (s.b : Int)] 40))
 have hb0 : Below w.heap.size w w0 := by rw [hw0]; exact (ba _ _).alloc (by simp) _
 have q0 : Blk w0 w.heap.size #[.int .i64 n, .slice a t.length cap] 24 := by rw [hw0]; exact (Blk.new w _ _).alloc _
 have q1 : Blk w0 (w.heap.size + 1) #[.int .u64 (s.a : Int), .int .u64 (s.b : Int)] 40 := by rw [hw0]; exact Blk.new' _ (by simp) _ _
 have htle := ht.len;have HX := lh (hx.keep hb0)
 have HC : Hid (∀ W, Below w0.heap.size w0 W -> Calls Tryz.prog 32 #[.agg #[.int .i64 n, .slice a t.length cap]] W fun e w' => e = .returned (.int .i64 0) /\ Below W.heap.size W w') := fun W hW => by
  have := zbj n a cap t W (by omega) (fun c hc => by have := (ht.cl c hc).1; omega) (HX.o.keep hW)
  rwa [(zng hn).2 ht] at this
 have HAL := lh (fun W => zlw (n : Int) W)
 have HSB : Hid (∀ W, Calls Tryz.prog 35 #[stv s, stv (zbq n)] W fun e w' => e = .returned (.bool true) /\ Below W.heap.size W w') := fun W => by
  have := zv6 s (zbq n) W hs (zdo n)
  rwa [ybs hs hsn] at this
 have HAN := lh (fun a cap xs W hl hx => zso s a cap xs W hs hl hx);have HB0 := lh hb0;have Q0 := lh q0;have Q1 := lh q1;have HT := lh ht;have HE0 : Hid (evL s.mem t = evL s.mem (t.drop 0)) := rfl;generalize zbq (n : Int) = al at *;have c0 := q0.cell 0;have c1 := q0.cell 1;have d0 := q1.cell 0;have d1 := q1.cell 1
 have HKS : Hid (∀ w' : World, Below w0.heap.size w0 w' -> w'.cell? ⟨w.heap.size, 0, none⟩ = some (.int .i64 (n : Int)) /\ w'.cell? ⟨w.heap.size, 1, none⟩ = some (.slice a t.length cap) /\ w'.cell? ⟨w.heap.size + 1, 0, none⟩ = some (.int .u64 (s.a : Int)) /\ w'.cell? ⟨w.heap.size + 1, 1, none⟩ = some (.int .u64 (s.b : Int)) /\ Below w0.heap.size w0 w') := lh fun w' hb => ⟨zab hb c0, zab hb c1, zab hb d0, zab hb d1, hb⟩
 clear hx hb0 q0 q1 ht hsn;generalize evL s.mem t = R at *;go_enter Tryz.func29, Tryz.ntmps29;go_wp2_with fail;rw [<- hw0];clear hw0
 refine wp_region_held_drew (S := (fun w' => w'.cell? ⟨w.heap.size, 0, none⟩ = some (.int .i64 (n : Int)) /\ w'.cell? ⟨w.heap.size, 1, none⟩ = some (.slice a t.length cap) /\ w'.cell? ⟨w.heap.size + 1, 0, none⟩ = some (.int .u64 (s.a : Int)) /\ w'.cell? ⟨w.heap.size + 1, 1, none⟩ = some (.int .u64 (s.b : Int)) /\ Below w0.heap.size w0 w')) (by kernel_rfl) (by exact HKS.o _ (Below.refl _ _).drew) fun hH => ?_
 refine tkV 0 7 rfl rfl ?_; try simp only [tkS]
 refine tkR 1 (.cons rfl (fun K hK => ?_) .nil);go_simp;go_at_call 32;refine (HC.o _ (zpx (by assumption))).mono ?_;rintro e w2 ⟨rfl, hb2⟩;have hw2 : Below w0.heap.size w0 w2 := Below.trans (zpx (by assumption)) (hb2.mono (Below.size (B := w0.heap.size) (w := w0) (zpx (by assumption))));go_wp2_with fail
 refine hK.out _ _ (by exact HKS.o _ hw2) fun hH => ?_
 clear hK K
 try simp only [tkS]
 refine tkV 2 9 rfl rfl ?_; try simp only [tkS]
 refine tkV 3 10 rfl rfl ?_; try simp only [tkS]
 refine tkV 4 11 rfl rfl ?_; try simp only [tkS]
 refine tkV 5 12 rfl rfl ?_; try simp only [tkS]
 refine tkV 6 13 rfl rfl ?_; try simp only [tkS]
 refine tkR 7 (.cons rfl (fun K hK => ?_) .nil);go_simp;go_at_call 36;refine (HAL.o _).mono ?_;rintro e w3 ⟨rfl, hb3⟩;have hw3 : Below w0.heap.size w0 w3 := Below.trans (zpx (by assumption)) (hb3.mono (Below.size (B := w0.heap.size) (w := w0) (zpx (by assumption))));go_wp2_with fail
 refine hK.out _ _ (by exact HKS.o _ hw3) fun hH => ?_
 clear hK K
 try simp only [tkS]
 refine tkR 8 (.cons rfl (fun K hK => ?_) .nil);go_simp;go_at_call 35;refine (HSB.o _).mono ?_;rintro e w4 ⟨rfl, hb4⟩;have hw4 : Below w0.heap.size w0 w4 := Below.trans (zpx (by assumption)) (hb4.mono (Below.size (B := w0.heap.size) (w := w0) (zpx (by assumption))));go_wp2_with fail
 refine hK.out _ _ (by exact HKS.o _ hw4) fun hH => ?_
 clear hK K
 try simp only [tkS]
 refine tkV 9 16 rfl rfl ?_; try simp only [tkS]
 refine tkV 10 17 rfl rfl ?_; try simp only [tkS]
 refine wpAnyH_done (by kernel_rfl) ?_ _;have HB2 := lh hw4;clear c0 c1 d0 d1;have c1 := (Q0.o.later hw4).cell 1;have z0 := (Q0.o.later hw4).lt;go_wp2_with fail;clear c1 z0
 go_loopw [21] (fun i wr => ∃ k : Nat, k <= t.length /\ i = .int .i64 k /\ Below w0.heap.size w0 wr /\ R = evL s.mem (t.drop k)) (fun i _ => t.length - (intOf i).toNat)
 case atStart => exact ⟨0, Nat.zero_le _, rfl, HB2.o, HE0.o⟩
 obtain ⟨k, hk, rfl, hbr, hch⟩ := hrel;have HCH := lh hch;have HBR := lh hbr;have HBW := bt HB0 hbr;have HXR := lh (HX.o.keep hbr);have P1 := lh (Q1.o.later hbr);have k0 := P1.o.cell 0;have k1 := P1.o.cell 1;have y0 := P1.o.lt;clear hch hbr
 by_cases hlt : k < t.length
 ·obtain ⟨b1, off1, ai, ci, rfl, hc1, hi⟩ := HXR.o k hlt
  have hmem : t.getD k [] ∈ t := by rw [List.getD_eq_getElem?_getD, List.getElem?_eq_getElem hlt]; exact List.getElem_mem hlt
  obtain ⟨hcl, hcr⟩ := HT.o.cl _ hmem;have HD := lh (zxb (s := s.mem) hlt)
  have hki : (k : Int) < (t.length : Int) := by omega
  have HANK := lh (HAN.o ai ci _ wr (by omega) hi);generalize t.getD k [] = c at *;clear hmem hcr hi
  cases he : evC s.mem c with
  | true =>
    rw [he] at HANK HD
    have HN : Hid (R = evL s.mem (t.drop (k + 1))) := by show _ = _; rw [HCH.o, HD.o, Bool.true_and]
    clear he;go_wp2_with fail;refine HANK.o.mono ?_;rintro e w5 ⟨rfl, hb5⟩;have HB5 := bt HBR hb5;clear hb5;go_wp2;go_roundw
    case rel => exact ⟨k + 1, by omega, by go_num, HB5.o, HN.o⟩
    case measure => simp [intOf]; omega
  | false =>
    rw [he] at HANK HD
    have HN : Hid (R = false) := by show _ = _; rw [HCH.o, HD.o, Bool.false_and]
    clear he;go_wp2_with fail;refine HANK.o.mono ?_;rintro e w5 ⟨rfl, hb5⟩;have HB5 := bt HBW hb5;clear hb5;go_wp2;go_ret;exact ⟨by rw [HN.o]; rfl, HB5.o⟩
 have hke : k = t.length := by omega
 subst hke
 have HN : Hid (R = true) := by show _ = _; rw [HCH.o, List.drop_length]; rfl
 go_wp2;go_ret;exact ⟨by rw [HN.o]; rfl, HBW.o⟩
def asg (n : Nat) (z : Int -> Bool) (k : Nat) (v : Int) : Bool := if 1 <= v /\ v <= n then k.testBit (v.toNat - 1) else z v
theorem yab {n k : Nat} (hk : k < 2 ^ n) (z : Int -> Bool) : asg (n + 1) z k = asg n (setV z ((n : Int) + 1) false) k := by
 funext v
 unfold asg setV
 by_cases h : 1 <= v /\ v <= (n : Int)
 ·rw [if_pos h, if_pos (show 1 <= v /\ v <= ((n + 1 : Nat) : Int) by omega)]
 rw [if_neg h]
 by_cases e : v = (n : Int) + 1
 ·rw [if_pos e, if_pos (show 1 <= v /\ v <= ((n + 1 : Nat) : Int) by omega), show v.toNat - 1 = n by omega, Nat.testBit_lt_two_pow hk]
 rw [if_neg e, if_neg (show ¬ (1 <= v /\ v <= ((n + 1 : Nat) : Int)) by omega)]
theorem zwq {n k : Nat} (hk : k < 2 ^ n) (z : Int -> Bool) : asg (n + 1) z (2 ^ n + k) = asg n (setV z ((n : Int) + 1) true) k := by
 funext v
 unfold asg setV
 by_cases h : 1 <= v /\ v <= (n : Int)
 ·rw [if_pos h, if_pos (show 1 <= v /\ v <= ((n + 1 : Nat) : Int) by omega)];exact Nat.testBit_two_pow_add_gt (show v.toNat - 1 < n by omega) k
 rw [if_neg h]
 by_cases e : v = (n : Int) + 1
 ·rw [if_pos e, if_pos (show 1 <= v /\ v <= ((n + 1 : Nat) : Int) by omega), show v.toNat - 1 = n by omega, Nat.testBit_two_pow_add_eq, Nat.testBit_lt_two_pow hk]; rfl
 rw [if_neg e, if_neg (show ¬ (1 <= v /\ v <= ((n + 1 : Nat) : Int)) by omega)]
theorem zo9 (f : (Int -> Bool) -> Bool) : ∀ (n : Nat) (z : Int -> Bool), cnt f n z = sumE (fun k => if f (asg n z k) then 1 else 0) (2 ^ n)
 | 0, z => by
   have e : asg 0 z 0 = z := by funext v; unfold asg; rw [if_neg (by omega)]
   show _ = 0 + (if f (asg 0 z 0) then 1 else 0)
   rw [e, cnt]; omega
 | n + 1, z => by
   rw [cnt, zo9 f n, zo9 f n, show 2 ^ (n + 1) = 2 ^ n + 2 ^ n by rw [Nat.pow_succ]; omega, zfb]
   congr 1
   ·exact za3 _ fun k hk => by rw [yab hk]
   exact za3 _ fun k hk => by rw [zwq hk]
theorem ztv {n k : Nat} (hn : n <= 64) (hk : k < 2 ^ n) : asg n (fun _ => false) k = St.mem ⟨k, 0⟩ := by
 funext v
 unfold asg St.mem
 by_cases h : 1 <= v /\ v <= (n : Int)
 ·rw [if_pos h, if_pos (by omega), show (v - 1).toNat = v.toNat - 1 by omega]
 rw [if_neg h]
 by_cases h2 : 1 <= v /\ v <= 64
 ·rw [if_pos h2];have : k < 2 ^ (v - 1).toNat := Nat.lt_of_lt_of_le hk (Nat.pow_le_pow_right (by omega) (by omega));rw [Nat.testBit_lt_two_pow this]
 rw [if_neg h2]; split <;> simp
theorem yai {n : Nat} (hn : n <= 64) (f : (Int -> Bool) -> Bool) : cnt f n (fun _ => false) = sumE (fun k => if f (St.mem ⟨k, 0⟩) then 1 else 0) (2 ^ n) := by
 rw [zo9]
 exact za3 _ fun k hk => by rw [ztv hn hk]
theorem zsr (n : Nat) (hn : n <= 8) (a : Option Addr) (cap : Nat) (t : List Cl) (w : World) (ht : tOk n t) (hx : LsCells w a t) :
 Calls Tryz.prog 12 #[.agg #[.int .i64 (n : Int), .slice a t.length cap]] w fun e w' => e = .returned (.int .u64 (cnt (fun x => evL x t) n (fun _ => false) : Int)) /\ Below w.heap.size w w' := by
 obtain ⟨w0, hw0⟩ := nm (w.alloc (.cells #[.int .i64 (n : Int), .slice a t.length cap] 24))
 have hb0 : Below w.heap.size w w0 := by rw [hw0]; exact ba _ _
 have q0 : Blk w0 w.heap.size #[.int .i64 (n : Int), .slice a t.length cap] 24 := by rw [hw0]; exact Blk.new _ _ _
 obtain ⟨P, hP⟩ : ∃ P : Nat, P = 2 ^ n := ⟨_, rfl⟩
 have HEV := lh (fun V (hV : Below w.heap.size w V) (k : Nat) (hk : k < P) => zyx n (by omega) a cap t ⟨k, 0⟩ V ht (hx.keep hV) ⟨by
  have h1 : 2 ^ n <= 2 ^ 8 := Nat.pow_le_pow_right (by omega) hn
  show k < U64
  rw [zek]; omega, by show 0 < U64; decide⟩ (fun v hv => by
  rw [<- ztv (show n <= 64 by omega) (show k < 2 ^ n by omega)]
  unfold asg; rw [if_neg (by omega)]))
 have HCN : Hid (cnt (fun x => evL x t) n (fun _ => false) = sumE (fun k => if evL (St.mem ⟨k, 0⟩) t then 1 else 0) P) := by show _ = _; rw [hP]; exact yai (by omega) fun x => evL x t
 have HSS : Hid (∀ k, sumE (fun k => if evL (St.mem ⟨k, 0⟩) t then 1 else 0) k <= k) := fun k => by
  induction k with
  | zero => exact Nat.le_refl _
  | succ k ih => rw [sumE]; split <;> omega
 have hP256 : P <= 256 := by rw [hP]; exact Nat.le_trans (Nat.pow_le_pow_right (by omega) hn) (by decide : 2 ^ 8 <= 256)
 have hshl : IntKind.u64.wrap ((2 : Int) ^ n) = (P : Int) := by
  rw [show ((2 : Int) ^ n) = ((2 ^ n : Nat) : Int) by push_cast; rfl, <- hP]
  simp [IntKind.wrap, IntKind.bits, IntKind.signed]; omega
 have HB0 := lh hb0;have HQ0 := lh q0;have k0 := q0.cell 0;have kz := q0.lt
 have hn64 : (n : Int) < 64 := by omega
 clear hb0 q0 hx ht hP;go_enter Tryz.func12, Tryz.ntmps12;go_wp2_with fail;rw [<- hw0];clear hw0 k0 kz;generalize hF : (fun k => if evL (St.mem ⟨k, 0⟩) t then 1 else 0) = F at HCN HSS
 have HF : Hid (∀ k, F k = if evL (St.mem ⟨k, 0⟩) t then 1 else 0) := fun k => by rw [<- hF]
 clear hF
 obtain ⟨wq, rfl⟩ : ∃ wq : World, wq = w0 := ⟨_, rfl⟩
 go_loopw [3, 9] (fun s i wr => ∃ k : Nat, k <= P /\ i = .int .u64 k /\ s = .int .u64 (sumE F k : Int) /\ Below wq.heap.size wq wr) (fun _ i _ => P - (intOf i).toNat)
 case atStart => exact ⟨0, Nat.zero_le _, rfl, rfl, Below.refl _ _⟩
 obtain ⟨k, hk, rfl, rfl, hbr⟩ := hrel;have HB1 := bt HB0 hbr;have HQ1 := lh (HQ0.o.later hbr);have HBR := lh hbr;clear hbr
 by_cases hlt2 : k < P
 ·have hki : (k : Int) < (P : Int) := by omega
  have k0 := HQ1.o.cell 0;have k1 := HQ1.o.cell 1;have kz := HQ1.o.lt;have HSK : Hid (sumE F (k + 1) = sumE F k + F k) := rfl;have HSB := lh (HSS.o k);have HFK := lh (HF.o k);generalize sumE F k = S at *;generalize F k = y at *;go_wp2_with fail;refine (HEV.o _ HB1.o k hlt2).mono ?_;rintro e w2 ⟨rfl, hb2⟩;have HB2 := bt HBR hb2
  cases hv : evL (St.mem ⟨k, 0⟩) t with
  | false =>
    have hy : y = 0 := by rw [HFK.o, hv]; rfl
    clear HFK;go_wp2_with fail;refine ⟨⟨k + 1, by omega, by go_num, by rw [HSK.o, hy]; rfl, HB2.o⟩, by simp [intOf]; omega⟩
  | true =>
    have hy : y = 1 := by rw [HFK.o, hv]; rfl
    clear HFK
    have HA1 : Hid (IntKind.u64.wrap ((S : Int) + 1) = ((S + y : Nat) : Int)) := by
     have h1 := HSB.o
     show _ = _
     rw [hy]
     simp [IntKind.wrap, IntKind.bits, IntKind.signed]; omega
    go_wp2_with fail;refine ⟨⟨k + 1, by omega, by go_num, by rw [HSK.o, HA1.o], HB2.o⟩, by simp [intOf]; omega⟩
 obtain rfl : k = P := by omega
 have hkn : ¬ ((k : Int) < (k : Int)) := by omega
 go_wp2_with fail;go_ret;exact ⟨by rw [HCN.o]; rfl, HB1.o⟩
end Go.Proofs.YtlleofjjdhfgcaaGreatDoor
