/- Part of the proofs that laws return true for every input, where the tables that the rows list are laid. Texts: CpE, QKey. -/
import Derived.Test.YtflhbcnhaeijbaaGreatDoorYH13
import Derived.Test.YtflhbcnhaeijbaaGreatDoorYH4
import Derived.Test.YtflhbcnhaeijbaaGreatDoorYH2
import Derived.Deep.AppendLies
import Derived.Test.YtflhbcnhaeijbaaGreatDoorYH3
import Derived.Deep.RegionHeld3
import Derived.Lib.AppendIntMem
import Derived.Lib.OthersKept
import Derived.Lib.Slices
import Derived.Laws.IdiomStrings
import Derived.Outline
import Derived.Test.YtflhbcnhaeijbaaGreatDoorYH1
set_option maxHeartbeats 8000000
set_option maxRecDepth 100000
set_option linter.unusedSimpArgs false
set_option linter.unusedVariables false
namespace Go.Proofs.YtflhbcnhaeijbaaGreatDoor
open Go.RowKit Cen
theorem zem (n : Int) (a : Option Addr) (cap : Nat) (t : List Cl) (w : World) (hl : t.length <= 1073741824) (hs : ∀ c ∈ t, c.length <= 1073741824) (hx : LsCells w a t) :
 Calls Tryz.prog 18 #[.agg #[.int .i64 n, .slice a t.length cap]] w fun e w' => e = .returned (.int .i64 (chkT n t)) /\ Below w.heap.size w w' := by
 have hb0 : Below w.heap.size w (w.alloc (.cells #[.int .i64 n, .slice a t.length cap] 41)) := (Below.refl _ _).alloc (Nat.le_refl _) _;have HB0 := lh hb0
 by_cases hn : n < 0 \/ 128 < n
 ·have HR : Hid (chkT n t = 6) := by show _ = _; unfold chkT; rw [if_pos hn]
  clear hx hb0
  rcases hn with hn | hn
  ·go_enter Tryz.func18, Tryz.ntmps18;go_wp2;go_ret;exact ⟨by rw [HR.o]; rfl, HB0.o⟩
  have hn0 : ¬ n < 0 := by omega
  go_enter Tryz.func18, Tryz.ntmps18;go_wp2;go_ret;exact ⟨by rw [HR.o]; rfl, HB0.o⟩
 have hn0 : 0 <= n := by omega
 have hn1 : n <= 128 := by omega
 by_cases hlt : 4096 < t.length
 ·have HR : Hid (chkT n t = 2) := by show _ = _; unfold chkT; rw [if_neg hn, if_pos hlt]
  have hli : (4096 : Int) < (t.length : Int) := by omega
  clear hx hb0 hn;go_enter Tryz.func18, Tryz.ntmps18;go_wp2;go_ret;exact ⟨by rw [HR.o]; rfl, HB0.o⟩
 have HR : Hid (chkT n t = zd8 n (t.drop 0)) := by show _ = _; unfold chkT; rw [if_neg hn, if_neg hlt]; rfl
 have hli : (t.length : Int) <= 4096 := by omega
 have HX := lh (hx.keep hb0);have HS := lh hs
 obtain ⟨w0, hw0⟩ : ∃ w0, w0 = w.alloc (.cells #[.int .i64 n, .slice a t.length cap] 41) := ⟨_, rfl⟩
 rw [<- hw0] at HX HB0
 have b0 : w0.cell? ⟨w.heap.size, 0, none⟩ = some (.int .i64 n) := by rw [hw0, World.cell?_alloc_at _ _ _ _ rfl]; rfl
 have b1 : w0.cell? ⟨w.heap.size, 1, none⟩ = some (.slice a t.length cap) := by rw [hw0, World.cell?_alloc_at _ _ _ _ rfl]; rfl
 clear hx hs hb0 hn;go_enter Tryz.func18, Tryz.ntmps18;go_wp2_with fail;rw [<- hw0];clear hw0;go_wp2_with fail
 go_loopw [22] (fun i wr => ∃ k : Nat, k <= t.length /\ i = .int .i64 k /\ wr = w0 /\ chkT n t = zd8 n (t.drop k)) (fun i _ => t.length - (intOf i).toNat)
 case atStart => exact ⟨0, Nat.zero_le _, rfl, rfl, HR.o⟩
 obtain ⟨k, hk, rfl, rfl, hch⟩ := hrel;have HC := lh hch;clear hch
 by_cases hkt : k < t.length
 ·obtain ⟨b, off, ai, ci, rfl, hc1, hi⟩ := HX.o k hkt;have HD := lh (zjv (n := n) hkt);have hcl := HS.o _ (by rw [List.getD_eq_getElem?_getD, List.getElem?_eq_getElem hkt]; exact List.getElem_mem hkt : t.getD k [] ∈ t)
  have hki : (k : Int) < (t.length : Int) := by omega
  have HI := lh hi;clear hi;generalize t.getD k [] = c at *
  by_cases h128 : 128 < c.length
  ·have hci : (128 : Int) < (c.length : Int) := by omega
   have HE : Hid (chkT n t = 2) := by show _ = _; rw [HC.o, HD.o, if_pos h128]
   go_wp2;go_ret;exact ⟨by rw [HE.o]; rfl, HB0.o⟩
  have hci : (c.length : Int) <= 128 := by omega
  have HD2 : Hid (chkT n t = if (c.all fun x => zas x n) = true then zd8 n (t.drop (k + 1)) else 1) := by show _ = _; rw [HC.o, HD.o, if_neg h128]
  go_wp2_with fail
  go_loopw [31] (fun i wi => ∃ q : Nat, q <= c.length /\ i = .int .i64 q /\ wi = wr /\ (c.all fun x => zas x n) = (c.drop q).all fun x => zas x n) (fun i _ => c.length - (intOf i).toNat)
  case atStart => exact ⟨0, Nat.zero_le _, rfl, rfl, rfl⟩
  obtain ⟨q, hq, rfl, hwi, hal⟩ := hrel;obtain rfl := hwi;have HA := lh hal;clear hal
  by_cases hqc : q < c.length
  ·obtain ⟨b2, off2, rfl, e0⟩ := HI.o q hqc
   have hqi : (q : Int) < (c.length : Int) := by omega
   have HDQ : Hid (((c.drop q).all fun x => zas x n) = (zas (c.getD q 0) n && (c.drop (q + 1)).all fun x => zas x n)) := by
    show _ = _; rw [List.drop_eq_getElem_cons hqc, List.all_cons]; simp [List.getD_eq_getElem?_getD, hqc]
   generalize c.getD q 0 = y at *
   cases hy : zas y n with
   | true =>
     have HV := lh (zde y n wr);rw [hy] at HV
     have HN : Hid ((c.all fun x => zas x n) = (c.drop (q + 1)).all fun x => zas x n) := by show _ = _; rw [HA.o, HDQ.o, hy, Bool.true_and]
     clear hy;go_wp2_with fail;refine HV.o.mono ?_;rintro e w' ⟨rfl, rfl⟩;go_wp2;go_roundw
     case rel => exact ⟨q + 1, by omega, by go_num, by first | rfl | trivial, HN.o⟩
     case measure => simp [intOf]; omega
   | false =>
     have HV := lh (zde y n wr);rw [hy] at HV
     have HE : Hid (chkT n t = 1) := by show _ = _; rw [HD2.o, HA.o, HDQ.o, hy, Bool.false_and, if_neg (by simp)]
     clear hy;go_wp2_with fail;refine HV.o.mono ?_;rintro e w' ⟨rfl, rfl⟩;go_wp2;go_ret;exact ⟨by rw [HE.o]; rfl, HB0.o⟩
  have hqe : q = c.length := by omega
  subst hqe
  have HN : Hid (chkT n t = zd8 n (t.drop (k + 1))) := by show _ = _; rw [HD2.o, HA.o, List.drop_length]; rfl
  go_wp2;go_roundw
  case rel => exact ⟨k + 1, by omega, by go_num, by first | rfl | trivial, HN.o⟩
  case measure => simp [intOf]; omega
 have hke : k = t.length := by omega
 subst hke
 have HE : Hid (chkT n t = 0) := by show _ = _; rw [HC.o, List.drop_length]; rfl
 go_wp2;go_ret;exact ⟨by rw [HE.o]; rfl, HB0.o⟩
theorem zog : Elem 22 5 1 1 (.int .u8 0) := .mk Tryz.underlying22 (by kernel_rfl) rfl (by decide)
def OwnB (w : World) (base : Nat) (v : Value) (l : List UInt8) : Prop := w.ownsRow base 5 1 v l.length (Lib.byteCells l)
theorem OwnB.nil (w : World) (base : Nat) : OwnB w base (.slice none 0 0) [] := World.ownsRow_nil _ _ _ _
theorem OwnB.later {w w' : World} {base : Nat} {v : Value} {l : List UInt8} (h : OwnB w base v l) (hb : Below w.heap.size w w') : OwnB w' base v l := by
 refine ⟨h.1, ?_⟩
 rcases h.2 with h1 | ⟨g, cap, cur, hv, hg, hh, r⟩
 ·exact .inl h1
 exact .inr ⟨g, cap, cur, hv, hg, by rw [hb.block g (lt_of_block hh)]; exact hh, r⟩
theorem OwnB.row {w : World} {base : Nat} {v : Value} {l : List UInt8} (h : OwnB w base v l) : ∀ g, v.ownBlock = some g -> ∃ c fz, w.heap[g]? = some (.cells c 5 fz) := by
 intro g hg
 rcases h.2 with ⟨h1, _⟩ | ⟨g', cap, cur, hv, _, hh, _⟩
 ·rw [h1] at hg; simp [Value.ownBlock] at hg
 rw [hv] at hg; simp [Value.ownBlock] at hg; subst hg; exact ⟨cur, _, hh⟩
section
variable {ops : Array Oper} {o : Oper} {a : Act} {w : World} {K : Act -> World -> Prop} {Q : Exit -> Act -> World -> Prop} {EE : Prop}
theorem zey (l : List UInt8) (c : UInt8) : Lib.byteCells l ++ [Value.int .u8 c.toNat] = Lib.byteCells (l ++ [c]) := by simp [Lib.byteCells]
end
theorem zrs {W W1 W3 W4 : World} {B : Nat} {v : Value} {l : List UInt8} (hBW : B <= W.heap.size) (hown : OwnB W B v l) (h1 : Below W.heap.size W W1) (hg : W1.grownBy W3 v.ownBlock) (h4 : Below B W3 W4) (hk : Lib.OthersKept 5 none W3 W4) :
 Below B W W4 /\ Lib.OthersKept 5 none W W4 := by
 have k1 : Lib.OthersKept 5 none W W1 := fun k o ho _ _ => by rw [h1.block k (lt_of_block ho)]; exact ho
 refine ⟨(((h1.mono hBW)).grown hg (Nat.le_trans hBW h1.size) fun k hk => ?_).trans h4, (k1.grown hg fun g hg' => ?_).trans hk⟩
 ·rcases hown.2 with ⟨e, _⟩ | ⟨g, cap, cur, hv, hgB, _⟩
  ·rw [e] at hk; simp [Value.ownBlock] at hk
  rw [hv] at hk; simp [Value.ownBlock] at hk; subst hk; exact hgB
 exact (hown.later h1).row g hg'
theorem zln {W W1 W3 : World} {B : Nat} {v : Value} {l : List UInt8} (hBW : B <= W.heap.size) (hown : OwnB W B v l) (h1 : Below W.heap.size W W1) (hg : W1.grownBy W3 v.ownBlock) : Below B W W3 /\ Lib.OthersKept 5 none W W3 :=
 zrs hBW hown h1 hg (Below.refl _ _) (Lib.OthersKept.refl _ _ _)
def Pfx (tot cur : List UInt8) : Prop := ∃ r, tot = cur ++ r
theorem Pfx.le {tot cur : List UInt8} (h : Pfx tot cur) : cur.length <= tot.length := by obtain ⟨r, rfl⟩ := h; simp
theorem Pfx.left {tot a b : List UInt8} (h : Pfx tot (a ++ b)) : Pfx tot a := by obtain ⟨r, rfl⟩ := h; exact ⟨b ++ r, by simp⟩
theorem zmz {α : Type} {l : List α} {k : Nat} (h : k < l.length) {β : Type} (f : α -> List β) : l.flatMap f = (l.take k).flatMap f ++ (f l[k] ++ (l.drop (k + 1)).flatMap f) := by
 conv => lhs; rw [show l = l.take k ++ l[k] :: l.drop (k + 1) by simp]
 rw [List.flatMap_append, List.flatMap_cons]
theorem zkl {α : Type} {l : List α} {k : Nat} (h : k < l.length) {β : Type} (f : α -> List β) : (l.take (k + 1)).flatMap f = (l.take k).flatMap f ++ f l[k] := by
 rw [List.take_succ_eq_append_getElem h, List.flatMap_append]; simp
theorem zks (B : Nat) (i : Int) (hi : small i) (sv : Value) (l : List UInt8) (w : World) (hown : OwnB w B sv l) (hBw : B <= w.heap.size) (hl : l.length <= 1073741824)
 (ht : Lib.TabBelow Tryz.prog B w "internal/strconv.uint64pow10" .u64 Lib.pow10Tab) :
 Calls Tryz.prog 126 #[sv, .int .i64 i, .int .i64 10] w fun e w' => ∃ v', e = .returned v' /\ OwnB w' B v' (l ++ Lib.itoa i) /\ Below B w w' /\ Lib.OthersKept 5 none w w' := by
 refine (Tryz.strconv_AppendInt_10 B l.length i (by have := hi.1; omega) (by have := hi.2; omega) sv (Lib.byteCells l) w hown hBw (by omega) ht).mono ?_;rintro e w' ⟨v', rfl, h1, h2, h3⟩;refine ⟨v', rfl, ?_, h2, h3⟩;unfold OwnB; rw [<- zg9, List.length_append]; exact h1
end Go.Proofs.YtflhbcnhaeijbaaGreatDoor
