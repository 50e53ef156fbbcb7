/- Part of the proofs that laws return true for every input, where the tables that the rows list are laid. Texts: Maps, Key, Bld, InAdd, Sort, NetOf, CpO, CpF. -/
import Derived.Test.YtflhbcnhaeijbaaGreatDoorYH2
import Derived.Maps.OwnOps
import Derived.Maps.OwnSet
import Derived.Test.YtflhbcnhaeijbaaGreatDoorYH3
import Derived.Lib.AppendStr
import Derived.Deep.AppendLies
import Derived.Deep.RegionLaw
import Derived.StillTailTactics
import Derived.Sort.OwnSortedInts
import Derived.Test.YtflhbcnhaeijbaaGreatDoorYH1
set_option maxHeartbeats 8000000
set_option maxRecDepth 100000
set_option linter.unusedSimpArgs false
set_option linter.unusedVariables false
namespace Go.Proofs.YtflhbcnhaeijbaaGreatDoor
open Go.RowKit Cen
open Go.Maps (Keyed string_keyed int_keyed)
def MapL (k e : TypeId) (w : World) (b n : Nat) (f : Lit -> Option Lit) : Prop :=
 ∃ D : DataW Unit, w.ownsMap Tryz.prog k (plainElem Tryz.prog e) b n D /\ (∀ x, Maps.has D x = (f x).isSome) /\ ∀ x y, f x = some y -> ∀ z, D.atKey x z = .lit y
section
variable {k e : TypeId} {w : World} {b n : Nat} {f : Lit -> Option Lit}
theorem MapL.made (w : World) : MapL k e (w.alloc (.map #[] 0)) w.heap.size 0 (fun _ => none) :=
 ⟨.map [], World.ownsMap_made w _ _ _, fun _ => rfl, fun _ _ h => by simp at h⟩
theorem MapL.lt (h : MapL k e w b n f) : b < w.heap.size := let ⟨_, h1, _⟩ := h; h1.lt
theorem MapL.kept {M : Nat -> Prop} {w' : World} (h : MapL k e w b n f) (hk : Kp M w w') (hm : ¬ M b) : MapL k e w' b n f := by
 obtain ⟨D, ⟨es, clock, h1, h2⟩, h3, h4⟩ := h;exact ⟨D, ⟨es, clock, hk.heap h1 hm, h2⟩, h3, h4⟩
theorem MapL.later {w' : World} (h : MapL k e w b n f) (hb : Below w.heap.size w w') : MapL k e w' b n f := h.kept (Kp.below (M := fun _ => False) hb) id
theorem zg3 {x : Lit} (h : WideAt.IsKeyLit x) : x.sameKey x = true := by cases x <;> simp [Lit.sameKey, WideAt.IsKeyLit] at *
theorem MapL.put {w' : World} (D : DataW Unit) (h : w.ownsMap Tryz.prog k (plainElem Tryz.prog e) b n D) (h3 : ∀ x, Maps.has D x = (f x).isSome) (h4 : ∀ x y, f x = some y -> ∀ z, D.atKey x z = .lit y)
 {x y : Lit} (hx : WideAt.IsKeyLit x) (hw : w'.ownsMap Tryz.prog k (plainElem Tryz.prog e) b (n + 1) (D.put x (.lit y))) : MapL k e w' b (n + 1) (fun x' => if x'.sameKey x then some y else f x') := by
 refine ⟨_, hw, fun x' => ?_, fun x' y' hy z => ?_⟩
 ·by_cases e : x' = x
  ·subst e; simp [Maps.has_put_same h.isMap hx, zg3 hx]
  rw [Maps.has_put_other e, h3]; simp [Maps.sameKey_ne e]
 by_cases e : x' = x
 ·subst e; simp [zg3 hx] at hy; subst hy; exact Maps.atKey_put_same h.isMap hx _ _
 simp [Maps.sameKey_ne e] at hy; rw [Maps.atKey_put_other e]; exact h4 _ _ hy z
end
section
variable {ops : Array Oper} {rest : List Oper} {o : Oper} {a : Act} {Q : Exit -> Act -> World -> Prop} {w : World} {b n : Nat} {f : Lit -> Option Lit} {t k e : TypeId}
def zvc : Option Lit -> Int | some (.int _ c) => c | _ => 0
theorem zep (hg : o.guard = none) (m x : Operand) (hop : o.op = Op.lookup t m x true) (K : Keyed Tryz.prog k) (ht : Tryz.prog.underlying t = some (.map k e)) (he : Tryz.prog.underlying e = some (.int .i64)) (hz : ∀ w, (zeroValue e).run Tryz.prog w = .ok (.int .i64 0) w)
 (hm : a.eval m = .map (some b)) (hown : MapL k e w b n f) (key : Value) (kl : Lit) (hx : a.eval x = key) (hkey : keyOf Tryz.prog k key = some kl)
 (hK : wpList Tryz.prog ops Q rest (a.put o.dst (.tuple #[.int .i64 (zvc (f kl)), .bool (f kl).isSome])) w) : wpList Tryz.prog ops Q (o :: rest) a w := by
 obtain ⟨D, h1, h3, h4⟩ := hown
 refine wpList_lookup_own_ok_int w hg m x t hop k e .i64 K ht he (hz w) b n D hm h1 key kl hx hkey fun c hc _ => ?_
 have e2 : c = zvc (f kl) := by
  cases hf : f kl with
  | none =>
    have := Maps.atKey_of_not_has (D := D) (k := kl) (by rw [h3, hf]; rfl) (.lit (.int .i64 0));rw [this] at hc; simp at hc; rw [<- hc]; rfl
  | some y =>
    rw [h4 _ _ hf] at hc; simp at hc; rw [hc]; rfl
 rw [h3, e2]; exact hK
theorem zmy (hg : o.guard = none) (m x v : Operand) (hop : o.op = Op.mapUpdate t m x v) (K : Keyed Tryz.prog k) (ht : Tryz.prog.underlying t = some (.map k e))
 (hm : a.eval m = .map (some b)) (hown : MapL k e w b n f) (hn : n <= 1073741824) (key val : Value) (kl y : Lit) (hx : a.eval x = key) (hv : a.eval v = val) (hkey : keyOf Tryz.prog k key = some kl) (hi : WideAt.IsKeyLit kl)
 (hval : plainElem (H := Unit) Tryz.prog e val = some (.lit y, []))
 (hK : ∀ w', MapL k e w' b (n + 1) (fun x' => if x'.sameKey kl then some y else f x') -> w.grownBy w' (some b) -> wpList Tryz.prog ops Q rest (a.put o.dst undef) w') : wpList Tryz.prog ops Q (o :: rest) a w := by
 obtain ⟨D, h1, h3, h4⟩ := hown
 exact wpList_mapUpdate_own w hg m x v t hop k e K ht _ b n D hm h1 (by unfold maxLen; omega) key val kl hx hv hkey (.lit y) [] hval
  fun w' h5 h6 => hK w' (MapL.put D h1 h3 h4 hi h5) h6
end
end Go.Proofs.YtflhbcnhaeijbaaGreatDoor
namespace Go.Proofs.YtflhbcnhaeijbaaGreatDoor
open Go.RowKit Cen
abbrev Tab (w : World) : Prop := Lib.TabIs Tryz.prog w "internal/strconv.uint64pow10" .u64 Lib.pow10Tab
theorem Tab.keep {w w' : World} (h : Tab w) (hb : Below w.heap.size w w') : Tab w' := by
 unfold Tab Lib.TabIs World.var? at *;rw [show Tryz.prog.globalNamed "internal/strconv.uint64pow10" = some 1 from by kernel_rfl] at *;simp only [Option.bind_some] at *
 rcases Nat.lt_or_ge 1 w.heap.size with h' | h'
 ·rw [hb.block _ h']; exact h
 rw [Array.getElem?_eq_none h'] at h; simp at h
theorem zg9 (l m : List UInt8) : Lib.byteCells l ++ Lib.byteCells m = Lib.byteCells (l ++ m) := by simp [Lib.byteCells]
def small (x : Int) : Prop := -65536 <= x /\ x <= 65536
end Go.Proofs.YtflhbcnhaeijbaaGreatDoor
namespace Go.Proofs.YtflhbcnhaeijbaaGreatDoor
open Go.RowKit Cen
open Go.Maps (Keyed string_keyed int_keyed)
theorem OwnL.alloc {α : Type} {enc : α -> List Value} {e k : Nat} {w : World} {base : Nat} {v : Value} {l : List α} (h : OwnL enc e k w base v l) (o : Obj) : OwnL enc e k (w.alloc o) base v l := World.ownsRow.alloc h o
theorem OwnL.drew {α : Type} {enc : α -> List Value} {e k : Nat} {w : World} {base : Nat} {v : Value} {l : List α} (h : OwnL enc e k w base v l) : OwnL enc e k w.drew base v l := h
section
variable {P : Program} {ops : Array Oper} {o : Oper} {a : Act} {w : World} {K : Act -> World -> Prop} {Q : Exit -> Act -> World -> Prop} {EE : Prop}
theorem zbn {α : Type} {enc : α -> List Value} {t e k bytes : Nat} {z : Value} (E : Elem t e k bytes z) (hgd : o.guard = none) (s x : Operand) (ho : o.op = .call { callee := .builtin .append, args := #[s, x], argTypes := #[t, t] })
 (base : Nat) (v : Value) (l : List α) (y : α) (hs : a.eval s = v) (hown : OwnL enc e k w base v l) (bc : Nat) (hx : a.eval x = .slice (some ⟨bc, 0, none⟩) 1 1) (hk : (enc y).length = k)
 (hnews : ∀ j u, (enc y)[j]? = some u -> w.cell? ⟨bc, j, none⟩ = some u) (h1 : ∀ u ∈ enc y, u.oneCell' = true) (hl : l.length <= 1073741824) (hby : bytes <= 1000) (hbase : base <= w.heap.size)
 (h : ∀ g cap w', OwnL enc e k w' base (.slice (some ⟨g, 0, none⟩) (l.length + 1) cap) (l ++ [y]) -> w.grownBy w' v.ownBlock -> (v.ownBlock = some g \/ g = w.heap.size) -> K (a.put o.dst (.slice (some ⟨g, 0, none⟩) (l.length + 1) cap)) w') :
 if Region.wanted o (yielded ops a.tmps) = true then Oper.wp Tryz.prog o a w K Q else EE := by
 obtain ⟨ht, i, hi, hz, hsz, hby', hzs, h0⟩ := E;refine step_append_lies w hgd s x t ho base e i z k bytes ht hi hz hsz hby' hzs h0 v l.length (l.flatMap enc) hs hown ⟨bc, 0, none⟩ 1 1 (enc y) hx (by rw [hk]; omega) ?_ h1 (by omega) (by unfold maxLen; omega) ?_ hbase w.heap.size rfl ?_
 ·intro j u hj
  have e1 : (⟨bc, 0, none⟩ : Addr).add j = ⟨bc, j, none⟩ := by
   unfold Addr.add; split
   ·rename_i hj0; rw [hj0]
   simp
  rw [e1]; exact hnews j u hj
 ·have := Nat.mul_le_mul (show l.length + 1 <= 1073741825 by omega) hby; omega
 intro g cap w' h2 h3 h4 _;exact h g cap w' (by unfold OwnL; rw [List.length_append, List.flatMap_append]; simpa using h2) h3 h4
end
theorem zaz {W w' : World} {ob : Obj} {row : Option Nat} (h : ((W.alloc ob).drew).grownBy w' row) : W.grownBy w' row :=
 ⟨h.os, h.tape, h.output, Nat.le_trans (by simp [World.drew]) h.size, fun k hk hn => (h.block k (by simp [World.drew]; omega) hn).trans (Below.heap_alloc W ob k hk)⟩
theorem zw8 : Elem 60 110 3 40 (.agg #[.int .i64 0, .int .i64 0, .slice none 0 0]) := .mk Tryz.underlying60 (by kernel_rfl) rfl (by decide)
theorem OwnL.sliced {α : Type} {enc : α -> List Value} {e k : Nat} {w : World} {base : Nat} {v : Value} {l : List α} (h : OwnL enc e k w base v l) : ∃ a cap, v = .slice a l.length cap := by
 rcases h.shape with ⟨h1, h2⟩ | ⟨g, cap, h1, _⟩
 ·exact ⟨none, 0, by rw [h1, h2]; rfl⟩
 exact ⟨_, _, h1⟩
theorem zil : Keyed Tryz.prog 9 := string_keyed Tryz.underlying9
theorem zf9 (w : World) : (zeroValue 3).run Tryz.prog w = .ok (.int .i64 0) w := by kernel_rfl
theorem zik : Keyed Tryz.prog 3 := int_keyed Tryz.underlying3
theorem OwnInts.lt {w : World} {base : Nat} {v : Value} {xs : List Int} (h : OwnInts w base v xs) : ∀ k, v.ownBlock = some k -> base <= k /\ k < w.heap.size := World.ownsRow.lt h
end Go.Proofs.YtflhbcnhaeijbaaGreatDoor
namespace Go.Proofs.YtflhbcnhaeijbaaGreatDoor
open Go.RowKit Cen
theorem zk4 (w : World) : Calls Tryz.prog 128 #[.slice none 0 0, .int .i64 0, .int .i64 0] w fun e w' => e = .returned (.tuple #[]) /\ w = w' := by
 go_enter Tryz.func128, Tryz.ntmps128;go_wp2;refine wp_loop_rounds 1 ?_;rw [rounds_succ];go_wp2
 go_end0
 exact ⟨rfl, rfl⟩
theorem zwj (l : Int) (w : World) : Calls Tryz.prog 107 #[.slice none 0 0, .int .i64 0, .int .i64 0, .int .i64 l] w fun e w' => e = .returned (.tuple #[]) /\ w = w' := by
 go_enter Tryz.func107, Tryz.ntmps107;go_wp2;refine wp_loop_rounds 1 ?_;rw [rounds_succ];go_wp2_with fail;refine (zk4 _).mono ?_;rintro e w1 ⟨rfl, rfl⟩;go_wp2;exact bodyPost_ret (v := .tuple #[]) (by simp [results, Tryz.results107, go_sem]) rfl ⟨rfl, rfl⟩
theorem zuo (w : World) : Calls Tryz.prog 74 #[.slice none 0 0] w fun e w' => e = .returned (.tuple #[]) /\ w = w' := by
 go_enter Tryz.func74, Tryz.ntmps74;go_wp2_with fail;refine (Tryz.bits_Len 0 w (by omega) (by omega)).mono ?_;rintro e w1 ⟨rfl, rfl⟩;go_wp2_with fail;refine (zwj _ _).mono ?_;rintro e w1 ⟨rfl, rfl⟩;go_wp2
 go_end0
 exact ⟨rfl, rfl⟩
theorem zun (base : Nat) (v : Value) (xs : List Int) (w : World) (h : OwnInts w base v xs) (hl : xs.length <= 1073741824) :
 Calls Tryz.prog 74 #[v] w fun e w' => e = .returned (.tuple #[]) /\ OwnInts w' base v (zcu xs) /\ w.grownBy w' v.ownBlock := by
 have hsl : (zcu xs).length = xs.length := by unfold zcu; exact List.length_mergeSort _
 rcases h.2 with ⟨hv, h0⟩ | ⟨g, cap, cur, hv, hg, hh, hn, hm, hs, ht⟩
 ·have : xs = [] := List.eq_nil_of_length_eq_zero h0;subst this; subst hv
  refine (zuo w).mono fun e w' ⟨h1, h2⟩ => ⟨h1, ?_, ?_⟩
  ·subst h2; unfold zcu; simpa using h
  subst h2; exact ⟨rfl, rfl, rfl, Nat.le_refl _, fun _ _ _ => rfl⟩
 subst hv;rw [Nat.mul_one] at ht
 refine (Tryz.slices_Sort_int g 0 cap xs w (Go.holds_of_blockI hh ht) (lt_of_block hh) (by omega)).mono fun e w' ⟨h1, n, os, h2⟩ => ⟨h1, ?_, ?_⟩
 ·rw [h2]
  show World.ownsRow _ _ _ _ _ _ _
  rw [hsl];exact Go.ownsRow_sortedI hsl hg hh hn hm hs
 rw [h2]; exact Go.grownBy_sortedI _
def I1 (x : Int) : List Value := [.int .i64 x]
theorem zlm (x : Int) : (I1 x).length = 1 := rfl
theorem zaq {w : World} {base : Nat} {v : Value} {xs : List Int} : OwnInts w base v xs ↔ OwnL I1 3 1 w base v xs := by
 have e : xs.map (Value.int .i64) = xs.flatMap I1 := by
  induction xs with
  | nil => rfl
  | cons x xs ih => simp [I1] at *; exact ih
 unfold OwnInts OwnL; rw [e]
theorem OwnL.cell1 {w : World} {base : Nat} {xs : List Int} {g cap n : Nat} (hn : n = xs.length) (h : OwnL I1 3 1 w base (.slice (some ⟨g, 0, none⟩) n cap) xs) (i : Nat) (hi : i < xs.length) :
 w.cell? ⟨g, i, none⟩ = some (.int .i64 xs[i]) := by
 have := h.cell hn zlm i 0 hi (by omega)
 simpa [I1] using this
section
variable {ops : Array Oper} {rest : List Oper} {o : Oper} {a : Act} {Q : Exit -> Act -> World -> Prop}
theorem zjf {α : Type} {enc : α -> List Value} {t e k bytes : Nat} {z : Value} {W : World} {C : Array Value} (E : Elem t e k bytes z) (hgd : o.guard = none) (s x : Operand) (ho : o.op = .call { callee := .builtin .append, args := #[s, x], argTypes := #[t, t] })
 (base : Nat) (v : Value) (l : List α) (y : α) (hs : a.eval s = v) (hown : OwnL enc e k W base v l) (hx : a.eval x = .slice (some ⟨W.heap.size, 0, none⟩) 1 1) (hk : (enc y).length = k)
 (hC : enc y = C.toList) (h1 : ∀ u ∈ enc y, u.oneCell' = true) (hl : l.length <= 1073741824) (hby : bytes <= 1000) (hbase : base <= W.heap.size)
 (h : ∀ g cap w', OwnL enc e k w' base (.slice (some ⟨g, 0, none⟩) (l.length + 1) cap) (l ++ [y]) -> W.grownBy w' v.ownBlock -> (v.ownBlock = some g \/ W.heap.size <= g) -> wpList Tryz.prog ops Q rest (a.put o.dst (.slice (some ⟨g, 0, none⟩) (l.length + 1) cap)) w') :
 wpList Tryz.prog ops Q (o :: rest) a (W.alloc (.cells C e)) := by
 obtain ⟨ht, i, hi, hz, hsz, hby', hzs, h0⟩ := E;refine wpList_append_lies _ hgd s x t ho base e i z k bytes ht hi hz hsz hby' hzs h0 v l.length (l.flatMap enc) hs (World.ownsRow.alloc hown _) ⟨W.heap.size, 0, none⟩ 1 1 (enc y) hx (by rw [hk]; omega) ?_ h1 (by omega) (by unfold maxLen; omega) ?_ (by simp; omega) (W.heap.size + 1) (by simp) ?_
 ·intro j u hj
  have e1 : (⟨W.heap.size, 0, none⟩ : Addr).add j = ⟨W.heap.size, j, none⟩ := by
   unfold Addr.add; split
   ·rename_i hj0; rw [hj0]
   simp
  rw [e1, World.cell?_alloc_at _ _ _ _ rfl, <- Array.getElem?_toList, <- hC]; exact hj
 ·have := Nat.mul_le_mul (show l.length + 1 <= 1073741825 by omega) hby; omega
 intro g cap w' h2 h3 h4 _;exact h g cap w' (by unfold OwnL; rw [List.length_append, List.flatMap_append]; simpa using h2) (za1 h3) (h4.imp id (fun e => by omega))
end
section
variable {w w' : World} {B bo : Nat} {n : Int} {m : Nat} {ats : List Int} {lv : Value} {LL : List (Nd × Value)}
end
end Go.Proofs.YtflhbcnhaeijbaaGreatDoor
namespace Cen
abbrev Cl := List Int
def cmpL (a b : Int) : Int := if zac a - zac b ≠ 0 then zac a - zac b else a - b
theorem zh3 (a : Int) : cmpL a a = 0 := by unfold cmpL; rw [if_neg (by omega)]; omega
theorem zkx {a b : Int} : cmpL a b = 0 ↔ a = b := by
 constructor
 ·intro h; unfold cmpL at h; split at h <;> omega
 rintro rfl; exact zh3 a
theorem zcm {a b : Int} : cmpL a b < 0 ↔ zac a < zac b \/ (zac a = zac b /\ a < b) := by unfold cmpL; split <;> omega
theorem zlv {a b : Int} : cmpL b a = - cmpL a b := by unfold cmpL; split <;> split <;> omega
theorem zpf {a b c : Int} (h : cmpL a b < 0) (k : cmpL b c < 0) : cmpL a c < 0 := by rw [zcm] at *; omega
def ltL (a b : Int) : Prop := cmpL a b < 0
def lexC : Cl -> Cl -> Int
 | [], [] => 0
 | [], _ :: _ => -1
 | _ :: _, [] => 1
 | a :: as', b :: bs => if cmpL a b ≠ 0 then cmpL a b else lexC as' bs
theorem zml : ∀ a : Cl, lexC a a = 0
 | [] => rfl
 | x :: a => by rw [lexC, if_neg (by simp [zh3])]; exact zml a
theorem zrg : ∀ {a b : Cl}, lexC a b = 0 -> a = b
 | [], [], _ => rfl
 | [], _ :: _, h => by simp [lexC] at h
 | _ :: _, [], h => by simp [lexC] at h
 | x :: a, y :: b, h => by
   rw [lexC] at h
   by_cases e : cmpL x y = 0
   ·rw [if_neg (by simpa using e)] at h;rw [zkx.1 e, zrg h]
   rw [if_pos e] at h; exact absurd h e
theorem zin : ∀ a b : Cl, (0 < lexC a b -> lexC b a < 0) /\ (lexC a b < 0 -> 0 < lexC b a)
 | [], [] => by simp [lexC]
 | [], _ :: _ => by simp [lexC]
 | _ :: _, [] => by simp [lexC]
 | x :: a, y :: b => by
   have h := zlv (a := x) (b := y);have ih := zin a b;rw [lexC, lexC]
   by_cases e : cmpL x y = 0
   ·rw [if_neg (by simpa using e), if_neg (by simp; omega)]; exact ih
   rw [if_pos e, if_pos (by simp; omega)]; omega
theorem zj7 : ∀ {a b c : Cl}, lexC a b < 0 -> lexC b c < 0 -> lexC a c < 0
 | [], [], _, h, _ => by simp [lexC] at h
 | [], _ :: _, [], _, k => by simp [lexC] at k
 | [], _ :: _, _ :: _, _, _ => by simp [lexC]
 | _ :: _, [], _, h, _ => by simp [lexC] at h
 | _ :: _, _ :: _, [], _, k => by simp [lexC] at k
 | x :: a, y :: b, z :: c, h, k => by
   rw [lexC] at *
   by_cases e : cmpL x y = 0
   ·rw [if_neg (by simpa using e)] at h;have e' := zkx.1 e;subst e'
    by_cases f : cmpL x z = 0
    ·rw [if_neg (by simpa using f)] at *; exact zj7 h k
    rw [if_pos f] at *; exact k
   rw [if_pos e] at h
   by_cases f : cmpL y z = 0
   ·have f' := zkx.1 f;subst f';rw [if_pos e]; exact h
   rw [if_pos f] at k;have := zpf h k;rw [if_pos (by omega)]; exact this
def cmpC (a b : Cl) : Int := if (a.length : Int) - b.length ≠ 0 then (a.length : Int) - b.length else lexC a b
theorem zlu (a : Cl) : cmpC a a = 0 := by unfold cmpC; rw [if_neg (by omega)]; exact zml a
theorem zh2 {a b : Cl} : cmpC a b = 0 ↔ a = b := by
 constructor
 ·intro h; unfold cmpC at h; split at h
  ·omega
  exact zrg h
 rintro rfl; exact zlu a
def ltC (a b : Cl) : Prop := cmpC a b < 0
instance (a b : Cl) : Decidable (ltC a b) := inferInstanceAs (Decidable (cmpC a b < 0))
theorem zge {a b : Cl} (h : 0 < cmpC a b) : ltC b a := by
 unfold ltC cmpC at *
 split at h
 ·rw [if_pos (by omega)]; omega
 rw [if_neg (by omega)]; exact (zin a b).1 h
theorem zjx {a b : Cl} (h : cmpC a b < 0) : 0 < cmpC b a := by
 unfold cmpC at *
 split at h
 ·rw [if_pos (by omega)]; omega
 rw [if_neg (by omega)]; exact (zin a b).2 h
theorem zb7 {a b : Cl} (h : ltC a b) : ¬ ltC b a := by have := zjx h; unfold ltC; omega
theorem zeq (a : Cl) : ¬ ltC a a := by unfold ltC; rw [zlu]; omega
theorem zfy {a b c : Cl} (h : ltC a b) (k : ltC b c) : ltC a c := by
 unfold ltC cmpC at *
 split at h <;> split at k
 ·rw [if_pos (by omega)]; omega
 ·rw [if_pos (by omega)]; omega
 ·rw [if_pos (by omega)]; omega
 rw [if_neg (by omega)]; exact zj7 h k
theorem zrk {a b : Int} (h : ltL a b) : ¬ ltL b a := by unfold ltL at *; rw [zcm] at *; omega
theorem zbq {α : Type} {r : α -> α -> Prop} (as' : ∀ a b, r a b -> ¬ r b a) : ∀ {l m : List α}, l.Pairwise r -> m.Pairwise r -> (∀ x, x ∈ l ↔ x ∈ m) -> l = m
 | [], [], _, _, _ => rfl
 | [], b :: m, _, _, h => by have := (h b).2 (by simp); simp at this
 | a :: l, [], _, _, h => by have := (h a).1 (by simp); simp at this
 | a :: l, b :: m, hl, hm, h => by
   rw [List.pairwise_cons] at hl hm
   have e : a = b := by
    rcases List.mem_cons.1 ((h a).1 (by simp)) with e | ha
    ·exact e
    rcases List.mem_cons.1 ((h b).2 (by simp)) with e | hb
    ·exact e.symm
    exact absurd (hl.1 b hb) (as' _ _ (hm.1 a ha))
   subst e
   have ir : ∀ x, ¬ r x x := fun x hx => as' x x hx hx
   rw [zbq as' hl.2 hm.2 fun x => ?_]
   constructor
   ·intro hx
    rcases List.mem_cons.1 ((h x).1 (by simp [hx])) with e | h2
    ·subst e; exact absurd (hl.1 x hx) (ir x)
    exact h2
   intro hx
   rcases List.mem_cons.1 ((h x).2 (by simp [hx])) with e | h2
   ·subst e; exact absurd (hm.1 x hx) (ir x)
   exact h2
def insC (c : Cl) : List Cl -> List Cl
 | [] => [c]
 | d :: l => if cmpC c d < 0 then c :: d :: l else if cmpC c d = 0 then d :: l else d :: insC c l
theorem zfz {c x : Cl} : ∀ {l : List Cl}, x ∈ insC c l ↔ x = c \/ x ∈ l
 | [] => by simp [insC]
 | d :: l => by
   rw [insC]
   by_cases h : cmpC c d < 0
   ·rw [if_pos h]; simp
   rw [if_neg h]
   by_cases k : cmpC c d = 0
   ·rw [if_pos k, zh2.1 k]; simp
   rw [if_neg k, List.mem_cons, zfz]; simp only [List.mem_cons]; constructor
   ·rintro (h | h | h) <;> simp [h]
   rintro (h | h | h) <;> simp [h]
theorem zfd {c : Cl} : ∀ {l : List Cl}, l.Pairwise ltC -> (insC c l).Pairwise ltC
 | [], _ => by simp [insC]
 | d :: l, h => by
   rw [insC]
   by_cases h1 : cmpC c d < 0
   ·rw [if_pos h1, List.pairwise_cons];refine ⟨fun x hx => ?_, h⟩
    rcases List.mem_cons.1 hx with rfl | hx
    ·exact h1
    exact zfy h1 ((List.pairwise_cons.1 h).1 x hx)
   rw [if_neg h1]
   by_cases k : cmpC c d = 0
   ·rw [if_pos k]; exact h
   rw [if_neg k, List.pairwise_cons];rw [List.pairwise_cons] at h;refine ⟨fun x hx => ?_, zfd h.2⟩
   rcases zfz.1 hx with rfl | hx
   ·exact zge (by omega)
   exact h.1 x hx
def ordC (l : List Cl) : List Cl := l.foldr insC []
theorem zba {x : Cl} : ∀ {l : List Cl}, x ∈ ordC l ↔ x ∈ l
 | [] => by simp [ordC]
 | c :: l => by
   show x ∈ insC c (ordC l) ↔ _
   rw [zfz, zba, List.mem_cons]
theorem zax : ∀ l : List Cl, (ordC l).Pairwise ltC
 | [] => List.Pairwise.nil
 | c :: l => zfd (zax l)
theorem zd0 {l m : List Cl} (h : m.Pairwise ltC) (hm : ∀ x, x ∈ m ↔ x ∈ l) : m = ordC l :=
 zbq (fun _ _ => zb7) h (zax l) fun x => by rw [hm, zba]
theorem zr0 {l : List Cl} (h : l.Pairwise ltC) : ordC l = l := (zd0 h fun _ => Iff.rfl).symm
theorem zkg {l m : List Cl} (h : ∀ x, x ∈ l ↔ x ∈ m) : ordC l = ordC m := zd0 (zax l) fun x => by rw [zba, h]
theorem zfc (c : Cl) : ∀ l : List Cl, (insC c l).length <= l.length + 1
 | [] => by simp [insC]
 | d :: l => by
   rw [insC]; split
   ·simp
   split
   ·simp
   have := zfc c l; simp; omega
theorem za9 : ∀ l : List Cl, (ordC l).length <= l.length
 | [] => by simp [ordC]
 | c :: l => by
   have h1 := zfc c (ordC l);have h2 := za9 l
   show (insC c (ordC l)).length <= _
   simp; omega
theorem zt8 {l : List Cl} : ordC l = [] ↔ l = [] := by
 constructor
 ·intro h
  cases l with
  | nil => rfl
  | cons c l => have : c ∈ ordC (c :: l) := zba.2 (by simp); rw [h] at this; simp at this
 rintro rfl; rfl
def zaw (n : Nat) (c : Cl) : Cl :=
 (List.range n).flatMap fun (j : Nat) => (if -((j : Int) + 1) ∈ c then [-((j : Int) + 1)] else []) ++ (if ((j : Int) + 1) ∈ c then [(j : Int) + 1] else [])
theorem zbi {n : Nat} {c : Cl} {x : Int} : x ∈ zaw n c ↔ x ∈ c /\ x ≠ 0 /\ -(n : Int) <= x /\ x <= n := by
 unfold zaw;rw [List.mem_flatMap]
 constructor
 ·rintro ⟨j, hj, hx⟩;rw [List.mem_range] at hj
  rcases List.mem_append.1 hx with h | h
  ·split at h
   ·simp at h; subst h; exact ⟨‹_›, by omega, by omega, by omega⟩
   simp at h
  split at h
  ·simp at h; subst h; exact ⟨‹_›, by omega, by omega, by omega⟩
  simp at h
 rintro ⟨h1, h2, h3, h4⟩
 rcases Int.lt_or_gt_of_ne h2 with h | h
 ·refine ⟨(-x - 1).toNat, List.mem_range.2 (by omega), List.mem_append_left _ ?_⟩;rw [show -((((-x - 1).toNat : Nat) : Int) + 1) = x by omega, if_pos h1]; simp
 refine ⟨(x - 1).toNat, List.mem_range.2 (by omega), List.mem_append_right _ ?_⟩;rw [show ((((x - 1).toNat : Nat) : Int) + 1) = x by omega, if_pos h1]; simp
theorem zal {x : Int} (h : x ≠ 0) (h1 : -128 <= x) (h2 : x <= 128) : zac x = if x < 0 then -x else x := by
 unfold zac; split
 ·rw [if_neg (by omega)]
 rw [if_pos (by omega), if_pos (by omega)]
theorem zei {n : Nat} (hn : n <= 128) (c : Cl) : (zaw n c).Pairwise ltL := by
 unfold zaw;rw [List.flatMap_def, List.pairwise_flatten]
 have key : ∀ j : Nat, ∀ x ∈ ((if -((j : Int) + 1) ∈ c then [-((j : Int) + 1)] else []) ++ (if ((j : Int) + 1) ∈ c then [(j : Int) + 1] else [])), x = -((j : Int) + 1) \/ x = (j : Int) + 1 := fun j x hx => by
  rcases List.mem_append.1 hx with h | h
  ·split at h <;> simp at h; exact .inl h
  split at h <;> simp at h; exact .inr h
 constructor
 ·intro l hl;rw [List.mem_map] at hl;obtain ⟨j, hj, rfl⟩ := hl;rw [List.mem_range] at hj;rw [List.pairwise_append];refine ⟨by split <;> simp, by split <;> simp, fun a ha b hb => ?_⟩
  split at ha <;> simp at ha
  split at hb <;> simp at hb
  subst ha; subst hb;unfold ltL;rw [zcm, zal (by omega) (by omega) (by omega), zal (by omega) (by omega) (by omega)];rw [if_pos (by omega), if_neg (by omega)]; omega
 rw [List.pairwise_map];refine List.Pairwise.imp_of_mem ?_ (List.pairwise_lt_range (n := n));intro j k hj hk hjk x hx y hy;rw [List.mem_range] at hj hk;have hx := key j x hx;have hy := key k y hy;unfold ltL;rw [zcm, zal (by omega) (by omega) (by omega), zal (by omega) (by omega) (by omega)]
 split <;> split <;> omega
theorem zej {n : Nat} (hn : n <= 128) {c d : Cl} (hd : d.Pairwise ltL) (hm : ∀ x, x ∈ d ↔ x ∈ c) (hc : ∀ x ∈ c, x ≠ 0 /\ -(n : Int) <= x /\ x <= n) : d = zaw n c :=
 zbq (fun _ _ => zrk) hd (zei hn c) fun x => by
  rw [hm, zbi]; exact ⟨fun h => ⟨h, hc x h⟩, fun h => h.1⟩
def taut (c : Cl) : Bool := c.any fun x => c.contains (-x)
structure gC (n : Nat) (c : Cl) : Prop where
 so : c.Pairwise ltL
 rg : ∀ x ∈ c, x ≠ 0 /\ -(n : Int) <= x /\ x <= n
 nt : ∀ x ∈ c, -x ∉ c
structure gL (n : Nat) (l : List Cl) : Prop where
 so : l.Pairwise ltC
 gc : ∀ c ∈ l, gC n c
def zab (n : Nat) (t : List Cl) : List Cl := ordC ((t.filter fun c => !taut c).map (zaw n))
def zai (l : List Cl) (x : Int) : List Cl := ordC ((l.filter fun c => !c.contains x).map fun c => c.filter fun y => decide (y ≠ -x))
def zcq (c : Cl) : St := c.foldl (fun s x => s.add (zac x)) St.zero
def zdj (c : Cl) (gs : List (List Cl × St)) : List (List Cl × St) × List Cl × St :=
 gs.foldl (fun acc g => if g.2.cut acc.2.2 ≠ St.zero then (acc.1, acc.2.1 ++ g.1, acc.2.2.union g.2) else (acc.1 ++ [g], acc.2.1, acc.2.2)) ([], [], zcq c)
def za3 (gs : List (List Cl × St)) (c : Cl) : List (List Cl × St) :=
 (zdj c gs).1 ++ [((zdj c gs).2.1 ++ [c], (zdj c gs).2.2)]
def zc1 (l : List Cl) : List (List Cl × St) := l.foldl za3 []
def zaj (l : List Cl) : List (List Cl) := (zc1 l).map fun g => ordC g.1
structure Nc where
 nd : Nd
 tag : Option (List Cl × Cl)
def zdd (x : Int) (c : Nc) : Bool := decide (c.nd.kind = 2) && decide (c.nd.lit = x)
def zbm (l : List Cl) (c : Nc) : Bool := match c.tag with | some t => decide (t.1 = l) | none => false
def litF (st : List Nc) (x : Int) : List Nc × Nat :=
 match st.findIdx? (zdd x) with
 | some i => (st, i)
 | none => (st ++ [⟨⟨2, x, []⟩, none⟩], st.length)
def zam (cache : Bool) (st : List Nc) (l : List Cl) (term : Cl) (mk : List Nc -> List Nc × Nd) : List Nc × Nat :=
 match (if cache then st.findIdx? (zbm l) else none) with
 | some i => (st, i)
 | none => ((mk st).1 ++ [⟨(mk st).2, some (l, term)⟩], (mk st).1.length)
structure Us where
 st : List Nc
 l : List Cl
 term : Cl
 ins : List Nat
def zap : Nat -> Us -> Us
 | 0, u => u
 | f + 1, u => match u.l with
   | [x] :: _ => zap f ⟨(litF u.st x).1, zai u.l x, u.term ++ [x], u.ins ++ [(litF u.st x).2]⟩
   | _ => u
def zco (fit : List Nc -> List Cl -> Cl -> List Nc × List Nat) (st : List Nc) (l : List Cl) (term : Cl) (x : Int) : List Nc × Nat :=
 if zai l x = [] then litF st x
 else ((fit (litF st x).1 (zai l x) (term ++ [x])).1 ++ [⟨⟨3, 0, ((litF st x).2 : Int) :: (fit (litF st x).1 (zai l x) (term ++ [x])).2.map fun (i : Nat) => (i : Int)⟩, none⟩],
  (fit (litF st x).1 (zai l x) (term ++ [x])).1.length)
def zau (fit : List Nc -> List Cl -> Cl -> List Nc × List Nat) (ch : List Cl -> Int) (st : List Nc) (l : List Cl) (term : Cl) : List Nc × Nd :=
 ((zco fit (zco fit st l term (-ch l)).1 l term (ch l)).1, ⟨4, 0, [((zco fit st l term (-ch l)).2 : Int), ((zco fit (zco fit st l term (-ch l)).1 l term (ch l)).2 : Int)]⟩)
def za6 (cache : Bool) (dec : List Nc -> List Cl -> List Nc × Nd) (term : Cl) (ps : List (List Cl)) (acc : List Nc × List Nat) : List Nc × List Nat :=
 ps.foldl (fun acc part => ((zam cache acc.1 part term (fun s => dec s part)).1, acc.2 ++ [(zam cache acc.1 part term (fun s => dec s part)).2])) acc
def za7 : List Cl -> Bool | [] :: _ => true | _ => false
def fitF (ch : List Cl -> Int) (cache : Bool) : Nat -> List Nc -> List Cl -> Cl -> List Nc × List Nat
 | 0, st, _, _ => (st, [])
 | f + 1, st, l, term =>
   let u := zap l.length ⟨st, l, term, []⟩
   if za7 u.l then ((zam cache u.st u.l u.term fun s => (s, ⟨0, 0, []⟩)).1, u.ins ++ [(zam cache u.st u.l u.term fun s => (s, ⟨0, 0, []⟩)).2])
   else za6 cache (fun s part => zau (fitF ch cache f) ch s part u.term) u.term (zaj u.l) (u.st, u.ins)
theorem zca (x : Int) : zac (-x) = zac x := by unfold zac; (repeat' split) <;> omega
theorem gC.lv {n : Nat} (hn : n <= 128) {c : Cl} (h : gC n c) {x : Int} (hx : x ∈ c) : zac x ≠ 0 := by
 have := h.rg x hx
 rw [zal this.1 (by omega) (by omega)]; split <;> omega
theorem zcb {l : List Cl} {x : Int} {d : Cl} : d ∈ zai l x ↔ ∃ c ∈ l, x ∉ c /\ d = c.filter fun y => decide (y ≠ -x) := by
 unfold zai;rw [zba, List.mem_map]
 constructor
 ·rintro ⟨c, hc, rfl⟩;rw [List.mem_filter] at hc;exact ⟨c, hc.1, by simpa using hc.2, rfl⟩
 rintro ⟨c, hc, hx, rfl⟩;exact ⟨c, List.mem_filter.2 ⟨hc, by simpa using hx⟩, rfl⟩
theorem zbl {n : Nat} {l : List Cl} (h : ∀ c ∈ l, gC n c) (x : Int) : gL n (zai l x) :=
 ⟨zax _, fun d hd => by
   obtain ⟨c, hc, _, rfl⟩ := zcb.1 hd;have g := h c hc
   exact ⟨g.so.filter _, fun y hy => g.rg y (List.mem_filter.1 hy).1, fun y hy hn => g.nt y (List.mem_filter.1 hy).1 (List.mem_filter.1 hn).1⟩⟩
theorem zcd {c : Cl} : taut c = true ↔ ∃ x ∈ c, -x ∈ c := by
 unfold taut; rw [List.any_eq_true];exact ⟨fun ⟨x, hx, h⟩ => ⟨x, hx, by simpa using h⟩, fun ⟨x, hx, h⟩ => ⟨x, hx, by simpa using h⟩⟩
theorem za2 {n : Nat} (hn : n <= 128) {t : List Cl} (ht : ∀ c ∈ t, ∀ x ∈ c, x ≠ 0 /\ -(n : Int) <= x /\ x <= n) : gL n (zab n t) :=
 ⟨zax _, fun d hd => by
   unfold zab at hd;rw [zba, List.mem_map] at hd;obtain ⟨c, hc, rfl⟩ := hd;rw [List.mem_filter] at hc;refine ⟨zei hn c, fun x hx => (zbi.1 hx).2, fun x hx hnx => ?_⟩;have : taut c = true := zcd.2 ⟨x, (zbi.1 hx).1, (zbi.1 hnx).1⟩
   rw [this] at hc; simp at hc⟩
theorem zfl (c : Cl) : ∀ (s : St) (v : Int), (c.foldl (fun s x => s.add (zac x)) s).mem v = (s.mem v || c.any fun x => decide (v = zac x) && decide (1 <= zac x)) := by
 induction c with
 | nil => intro s v; simp
 | cons x c ih =>
   intro s v;rw [List.foldl_cons, ih, St.mem_add, List.any_cons, Bool.or_assoc];have := zb6 x;rw [show decide (zac x <= 128) = true by simpa using this.2, Bool.and_true]
theorem zdr {c : Cl} {v : Int} : (zcq c).mem v = true ↔ 1 <= v /\ ∃ x ∈ c, zac x = v := by
 unfold zcq;rw [zfl, St.mem_zero, Bool.false_or, List.any_eq_true]
 constructor
 ·rintro ⟨x, hx, h⟩;simp only [Bool.and_eq_true, decide_eq_true_eq] at h;exact ⟨by omega, x, hx, h.1.symm⟩
 rintro ⟨h, x, hx, rfl⟩;exact ⟨x, hx, by simp; exact h⟩
theorem zhk (c : Cl) : (zcq c).ok := by
 unfold zcq
 have : ∀ s : St, s.ok -> (c.foldl (fun s x => s.add (zac x)) s).ok := by
  induction c with
  | nil => intro s h; exact h
  | cons x c ih => intro s h; exact ih _ (St.add_ok h _)
 exact this _ St.zero_ok
def grps (gs : List (List Cl × St)) : List Cl := gs.flatMap fun g => g.1
structure gGs (gs : List (List Cl × St)) : Prop where
 ok : ∀ g ∈ gs, g.2.ok
 ne : ∀ g ∈ gs, g.1 ≠ []
 vs : ∀ g ∈ gs, ∀ v, g.2.mem v = true ↔ ∃ c ∈ g.1, (zcq c).mem v = true
 dj : gs.Pairwise fun g h => ∀ v, ¬ (g.2.mem v = true /\ h.2.mem v = true)
theorem zw6 {s t : St} (hs : s.ok) (h : s.cut t ≠ St.zero) : ∃ v, s.mem v = true /\ t.mem v = true := by
 by_cases e : ∃ v, s.mem v = true /\ t.mem v = true
 ·exact e
 refine absurd (St.ext (St.cut_ok hs) St.zero_ok fun v _ _ => ?_) h;rw [St.mem_cut, St.mem_zero]
 cases hs : s.mem v <;> cases ht : t.mem v <;> simp
 exact e ⟨v, hs, ht⟩
theorem zw5 {s t : St} (h : s.cut t = St.zero) (v : Int) : ¬ (s.mem v = true /\ t.mem v = true) := fun ⟨a, b⟩ => by
 have : (s.cut t).mem v = true := by rw [St.mem_cut, a, b]; rfl
 rw [h, St.mem_zero] at this; simp at this
theorem zhg {gs : List (List Cl × St)} {d : Cl} : d ∈ grps gs ↔ ∃ g ∈ gs, d ∈ g.1 := List.mem_flatMap
structure sIn (c : Cl) (gs0 : List (List Cl × St)) (acc : List (List Cl × St) × List Cl × St) (rest : List (List Cl × St)) : Prop where
 gg : gGs (acc.1 ++ rest)
 dj : ∀ g ∈ acc.1, ∀ v, ¬ (g.2.mem v = true /\ acc.2.2.mem v = true)
 vs : ∀ v, acc.2.2.mem v = true ↔ (zcq c).mem v = true \/ ∃ d ∈ acc.2.1, (zcq d).mem v = true
 ok : acc.2.2.ok
 al : ∀ d, (d ∈ grps acc.1 \/ d ∈ acc.2.1 \/ d ∈ grps rest) ↔ d ∈ grps gs0
theorem zg4 (c : Cl) (gs0 : List (List Cl × St)) : ∀ (rest : List (List Cl × St)) (acc : List (List Cl × St) × List Cl × St), sIn c gs0 acc rest ->
 sIn c gs0 (rest.foldl (fun acc g => if g.2.cut acc.2.2 ≠ St.zero then (acc.1, acc.2.1 ++ g.1, acc.2.2.union g.2) else (acc.1 ++ [g], acc.2.1, acc.2.2)) acc) []
 | [], acc, h => h
 | g :: rest, acc, h => by
   rw [List.foldl_cons];refine zg4 c gs0 rest _ ?_;have gg := h.gg
   by_cases hz : g.2.cut acc.2.2 = St.zero
   ·rw [if_neg (by simpa using hz)];refine ⟨by simpa [List.append_assoc] using gg, fun k hk v => ?_, h.vs, h.ok, fun d => ?_⟩
    ·rcases List.mem_append.1 hk with hk | hk
     ·exact h.dj k hk v
     simp at hk; subst hk; exact zw5 hz v
    rw [<- h.al d];simp only [zhg, List.mem_append, List.mem_cons, List.not_mem_nil, or_false]
    constructor
    ·rintro (⟨k, hk | rfl, hd⟩ | hd | ⟨k, hk, hd⟩)
     ·exact .inl ⟨k, hk, hd⟩
     ·exact .inr (.inr ⟨k, .inl rfl, hd⟩)
     ·exact .inr (.inl hd)
     exact .inr (.inr ⟨k, .inr hk, hd⟩)
    rintro (⟨k, hk, hd⟩ | hd | ⟨k, rfl | hk, hd⟩)
    ·exact .inl ⟨k, .inl hk, hd⟩
    ·exact .inr (.inl hd)
    ·exact .inl ⟨k, .inr rfl, hd⟩
    exact .inr (.inr ⟨k, hk, hd⟩)
   rw [if_pos hz];have sub : (acc.1 ++ rest).Sublist (acc.1 ++ g :: rest) := List.Sublist.append_left (List.sublist_cons_self g rest) acc.1
   have hg : g ∈ acc.1 ++ g :: rest := by simp
   refine ⟨⟨fun k hk => gg.ok k (sub.mem hk), fun k hk => gg.ne k (sub.mem hk), fun k hk => gg.vs k (sub.mem hk), gg.dj.sublist sub⟩, fun k hk v => ?_, fun v => ?_, St.union_ok h.ok (gg.ok g hg), fun d => ?_⟩
   ·rintro ⟨a, b⟩;rw [St.mem_union, Bool.or_eq_true] at b
    rcases b with b | b
    ·exact h.dj k hk v ⟨a, b⟩
    exact (List.pairwise_append.1 gg.dj).2.2 k hk g (by simp) v ⟨a, b⟩
   ·show (acc.2.2.union g.2).mem v = true ↔ _
    rw [St.mem_union, Bool.or_eq_true, h.vs v, gg.vs g hg v];simp only [List.mem_append]
    constructor
    ·rintro ((h1 | ⟨d, hd, h1⟩) | ⟨d, hd, h1⟩)
     ·exact .inl h1
     ·exact .inr ⟨d, .inl hd, h1⟩
     exact .inr ⟨d, .inr hd, h1⟩
    rintro (h1 | ⟨d, hd | hd, h1⟩)
    ·exact .inl (.inl h1)
    ·exact .inl (.inr ⟨d, hd, h1⟩)
    exact .inr ⟨d, hd, h1⟩
   rw [<- h.al d];simp only [zhg, List.mem_append, List.mem_cons]
   constructor
   ·rintro (h1 | (hd | hd) | ⟨k, hk, hd⟩)
    ·exact .inl h1
    ·exact .inr (.inl hd)
    ·exact .inr (.inr ⟨g, .inl rfl, hd⟩)
    exact .inr (.inr ⟨k, .inr hk, hd⟩)
   rintro (h1 | hd | ⟨k, rfl | hk, hd⟩)
   ·exact .inl h1
   ·exact .inr (.inl (.inl hd))
   ·exact .inr (.inl (.inr hd))
   exact .inr (.inr ⟨k, hk, hd⟩)
theorem zjq {gs : List (List Cl × St)} (h : gGs gs) (c : Cl) : gGs (za3 gs c) /\ ∀ d, d ∈ grps (za3 gs c) ↔ d ∈ grps gs \/ d = c := by
 have k : sIn c gs (zdj c gs) [] := by
  unfold zdj;refine zg4 c gs gs _ ⟨by simpa using h, by simp, by simp, zhk c, fun d => by simp [grps]⟩
 unfold za3;generalize zdj c gs = r at k;have gg := k.gg;rw [List.append_nil] at gg;refine ⟨⟨fun g hg => ?_, fun g hg => ?_, fun g hg v => ?_, ?_⟩, fun d => ?_⟩
 ·rcases List.mem_append.1 hg with hg | hg
  ·exact gg.ok g hg
  simp at hg; subst hg; exact k.ok
 ·rcases List.mem_append.1 hg with hg | hg
  ·exact gg.ne g hg
  simp at hg; subst hg; simp
 ·rcases List.mem_append.1 hg with hg | hg
  ·exact gg.vs g hg v
  simp at hg; subst hg;simp only;rw [k.vs v];simp only [List.mem_append, List.mem_cons, List.not_mem_nil, or_false]
  constructor
  ·rintro (h1 | ⟨d, hd, h1⟩)
   ·exact ⟨c, .inr rfl, h1⟩
   exact ⟨d, .inl hd, h1⟩
  rintro ⟨d, hd | rfl, h1⟩
  ·exact .inr ⟨d, hd, h1⟩
  exact .inl h1
 ·rw [List.pairwise_append];refine ⟨gg.dj, by simp, fun g hg x hx v => ?_⟩;simp at hx; subst hx;exact k.dj g hg v
 have := k.al d;rw [<- this];simp only [zhg, List.mem_append, List.mem_cons, List.not_mem_nil, or_false]
 constructor
 ·rintro ⟨g, hg | rfl, hd⟩
  ·exact .inl (.inl ⟨g, hg, hd⟩)
  simp only [List.mem_append, List.mem_cons, List.not_mem_nil, or_false] at hd
  rcases hd with hd | rfl
  ·exact .inl (.inr (.inl hd))
  exact .inr rfl
 rintro ((⟨g, hg, hd⟩ | hd | ⟨g, hg, hd⟩) | rfl)
 ·exact ⟨g, .inl hg, hd⟩
 ·exact ⟨_, .inr rfl, by simp [hd]⟩
 ·simp at hg
 exact ⟨_, .inr rfl, by simp⟩
theorem znh (l : List Cl) : ∀ gs, gGs gs -> gGs (l.foldl za3 gs) /\ ∀ d, d ∈ grps (l.foldl za3 gs) ↔ d ∈ grps gs \/ d ∈ l := by
 induction l with
 | nil => intro gs h; exact ⟨h, fun d => by simp⟩
 | cons c l ih =>
   intro gs h;obtain ⟨h1, h2⟩ := zjq h c;obtain ⟨h3, h4⟩ := ih _ h1;refine ⟨h3, fun d => ?_⟩;rw [List.foldl_cons, h4, h2, List.mem_cons, or_assoc]
theorem zfb (l : List Cl) : gGs (zc1 l) /\ ∀ d, d ∈ grps (zc1 l) ↔ d ∈ l := by
 obtain ⟨h1, h2⟩ := znh l [] ⟨by simp, by simp, by simp, by simp⟩;exact ⟨h1, fun d => by rw [show zc1 l = l.foldl za3 [] from rfl, h2]; simp [grps]⟩
theorem zci {l : List Cl} {d : Cl} : (∃ p ∈ zaj l, d ∈ p) ↔ d ∈ l := by
 rw [<- (zfb l).2 d, zhg];unfold zaj
 constructor
 ·rintro ⟨p, hp, hd⟩;obtain ⟨g, hg, rfl⟩ := List.mem_map.1 hp;exact ⟨g, hg, zba.1 hd⟩
 rintro ⟨g, hg, hd⟩;exact ⟨_, List.mem_map.2 ⟨g, hg, rfl⟩, zba.2 hd⟩
theorem zcx {n : Nat} {l : List Cl} (h : ∀ c ∈ l, gC n c) {p : List Cl} (hp : p ∈ zaj l) : gL n p /\ p ≠ [] /\ ∀ d ∈ p, d ∈ l := by
 have hm : ∀ d ∈ p, d ∈ l := fun d hd => zci.1 ⟨p, hp, hd⟩
 unfold zaj at hp;obtain ⟨g, hg, rfl⟩ := List.mem_map.1 hp;exact ⟨⟨zax _, fun c hc => h c (hm c hc)⟩, fun e => (zfb l).1.ne g hg (zt8.1 e), hm⟩
def zaf (l : List Cl) : St := l.foldl (fun s c => s.union (zcq c)) St.zero
theorem za8 {l : List Cl} {v : Int} : (zaf l).mem v = true ↔ ∃ c ∈ l, (zcq c).mem v = true := by
 have : ∀ s : St, (l.foldl (fun s c => s.union (zcq c)) s).mem v = true ↔ s.mem v = true \/ ∃ c ∈ l, (zcq c).mem v = true := by
  induction l with
  | nil => intro s; simp
  | cons c l ih =>
    intro s;rw [List.foldl_cons, ih, St.mem_union, Bool.or_eq_true];simp only [List.mem_cons]
    constructor
    ·rintro ((h | h) | ⟨d, hd, h⟩)
     ·exact .inl h
     ·exact .inr ⟨c, .inl rfl, h⟩
     exact .inr ⟨d, .inr hd, h⟩
    rintro (h | ⟨d, rfl | hd, h⟩)
    ·exact .inl (.inl h)
    ·exact .inl (.inr h)
    exact .inr ⟨d, hd, h⟩
 unfold zaf;rw [this, St.mem_zero]; simp
theorem zo6 (l : List Cl) : (zaj l).Pairwise fun p q => ∀ v, ¬ ((zaf p).mem v = true /\ (zaf q).mem v = true) := by
 unfold zaj;rw [List.pairwise_map];have gg := (zfb l).1;refine gg.dj.imp_of_mem ?_;intro g h hg hh hd v ⟨a, b⟩;rw [za8] at a b;refine hd v ⟨(gg.vs g hg v).2 ?_, (gg.vs h hh v).2 ?_⟩
 ·obtain ⟨c, hc, k⟩ := a; exact ⟨c, zba.1 hc, k⟩
 obtain ⟨c, hc, k⟩ := b; exact ⟨c, zba.1 hc, k⟩
end Cen
