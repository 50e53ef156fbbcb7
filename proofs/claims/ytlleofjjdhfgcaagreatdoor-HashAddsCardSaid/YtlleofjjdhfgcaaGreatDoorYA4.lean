/- Parts of the proofs of laws. Texts: Maps, Key, QKey. -/
import Derived.Test.YtlleofjjdhfgcaaGreatDoorYA3
import Derived.Deep.AppendLies
set_option maxHeartbeats 8000000
set_option maxRecDepth 100000
set_option linter.all false
namespace Go.Proofs.YtlleofjjdhfgcaaGreatDoor
open Go.RowKit Cen
open Go.Maps (Keyed string_keyed int_keyed)
def MapL (k e : TypeId) (w : World) (b n : Nat) (f : Lit -> Option Lit) : Prop :=
 ∃ D : DataW Unit, w.ownsMap Tryz.prog k (plainElem Tryz.prog e) b n D /\ (∀ x, Maps.has D x = (f x).isSome) /\ ∀ x y, f x = some y -> ∀ z, D.atKey x z = .lit y
section
variable {k e : TypeId} {w : World} {b n : Nat} {f : Lit -> Option Lit}
theorem MapL.made (w : World) : MapL k e (w.alloc (.map #[] 0)) w.heap.size 0 (fun _ => none) :=
 ⟨.map [], World.ownsMap_made w _ _ _, fun _ => rfl, fun _ _ h => by simp at h⟩
theorem MapL.lt (h : MapL k e w b n f) : b < w.heap.size := let ⟨_, h1, _⟩ := h; h1.lt
theorem MapL.kept {M : Nat -> Prop} {w' : World} (h : MapL k e w b n f) (hk : Kp M w w') (hm : ¬ M b) : MapL k e w' b n f := by
 obtain ⟨D, ⟨es, clock, h1, h2⟩, h3, h4⟩ := h;exact ⟨D, ⟨es, clock, hk.heap h1 hm, h2⟩, h3, h4⟩
theorem MapL.later {w' : World} (h : MapL k e w b n f) (hb : Below w.heap.size w w') : MapL k e w' b n f := h.kept (Kp.below (M := fun _ => False) hb) id
theorem zhs {x : Lit} (h : WideAt.IsKeyLit x) : x.sameKey x = true := by cases x <;> simp [Lit.sameKey, WideAt.IsKeyLit] at *
theorem MapL.put {w' : World} (D : DataW Unit) (h : w.ownsMap Tryz.prog k (plainElem Tryz.prog e) b n D) (h3 : ∀ x, Maps.has D x = (f x).isSome) (h4 : ∀ x y, f x = some y -> ∀ z, D.atKey x z = .lit y)
 {x y : Lit} (hx : WideAt.IsKeyLit x) (hw : w'.ownsMap Tryz.prog k (plainElem Tryz.prog e) b (n + 1) (D.put x (.lit y))) : MapL k e w' b (n + 1) (fun x' => if x'.sameKey x then some y else f x') := by
 refine ⟨_, hw, fun x' => ?_, fun x' y' hy z => ?_⟩
 ·by_cases e : x' = x
  ·subst e; simp [Maps.has_put_same h.isMap hx, zhs hx]
  rw [Maps.has_put_other e, h3]; simp [Maps.sameKey_ne e]
 by_cases e : x' = x
 ·subst e; simp [zhs hx] at hy; subst hy; exact Maps.atKey_put_same h.isMap hx _ _
 simp [Maps.sameKey_ne e] at hy; rw [Maps.atKey_put_other e]; exact h4 _ _ hy z
end
section
variable {ops : Array Oper} {rest : List Oper} {o : Oper} {a : Act} {Q : Exit -> Act -> World -> Prop} {w : World} {b n : Nat} {f : Lit -> Option Lit} {t k e : TypeId}
def zzo : Option Lit -> Int | some (.int _ c) => c | _ => 0
theorem ze4 (hg : o.guard = none) (m x : Operand) (hop : o.op = Op.lookup t m x true) (K : Keyed Tryz.prog k) (ht : Tryz.prog.underlying t = some (.map k e)) (he : Tryz.prog.underlying e = some (.int .i64)) (hz : ∀ w, (zeroValue e).run Tryz.prog w = .ok (.int .i64 0) w)
 (hm : a.eval m = .map (some b)) (hown : MapL k e w b n f) (key : Value) (kl : Lit) (hx : a.eval x = key) (hkey : keyOf Tryz.prog k key = some kl)
 (hK : wpList Tryz.prog ops Q rest (a.put o.dst (.tuple #[.int .i64 (zzo (f kl)), .bool (f kl).isSome])) w) : wpList Tryz.prog ops Q (o :: rest) a w := by
 obtain ⟨D, h1, h3, h4⟩ := hown
 refine wpList_lookup_own_ok_int w hg m x t hop k e .i64 K ht he (hz w) b n D hm h1 key kl hx hkey fun c hc _ => ?_
 have e2 : c = zzo (f kl) := by
  cases hf : f kl with
  | none =>
    have := Maps.atKey_of_not_has (D := D) (k := kl) (by rw [h3, hf]; rfl) (.lit (.int .i64 0));rw [this] at hc; simp at hc; rw [<- hc]; rfl
  | some y =>
    rw [h4 _ _ hf] at hc; simp at hc; rw [hc]; rfl
 rw [h3, e2]; exact hK
theorem zor (hg : o.guard = none) (m x v : Operand) (hop : o.op = Op.mapUpdate t m x v) (K : Keyed Tryz.prog k) (ht : Tryz.prog.underlying t = some (.map k e))
 (hm : a.eval m = .map (some b)) (hown : MapL k e w b n f) (hn : n <= 1073741824) (key val : Value) (kl y : Lit) (hx : a.eval x = key) (hv : a.eval v = val) (hkey : keyOf Tryz.prog k key = some kl) (hi : WideAt.IsKeyLit kl)
 (hval : plainElem (H := Unit) Tryz.prog e val = some (.lit y, []))
 (hK : ∀ w', MapL k e w' b (n + 1) (fun x' => if x'.sameKey kl then some y else f x') -> w.grownBy w' (some b) -> wpList Tryz.prog ops Q rest (a.put o.dst undef) w') : wpList Tryz.prog ops Q (o :: rest) a w := by
 obtain ⟨D, h1, h3, h4⟩ := hown
 exact wpList_mapUpdate_own w hg m x v t hop k e K ht _ b n D hm h1 (by unfold maxLen; omega) key val kl hx hv hkey (.lit y) [] hval
  fun w' h5 h6 => hK w' (MapL.put D h1 h3 h4 hi h5) h6
end
end Go.Proofs.YtlleofjjdhfgcaaGreatDoor
namespace Go.Proofs.YtlleofjjdhfgcaaGreatDoor
open Go.RowKit Cen
abbrev Tab (w : World) : Prop := Lib.TabIs Tryz.prog w "internal/strconv.uint64pow10" .u64 Lib.pow10Tab
theorem Tab.keep {w w' : World} (h : Tab w) (hb : Below w.heap.size w w') : Tab w' := by
 unfold Tab Lib.TabIs World.var? at *;rw [show Tryz.prog.globalNamed "internal/strconv.uint64pow10" = some 2 from by kernel_rfl] at *;simp only [Option.bind_some] at *
 rcases Nat.lt_or_ge 2 w.heap.size with h' | h'
 ·rw [hb.block _ h']; exact h
 rw [Array.getElem?_eq_none h'] at h; simp at h
theorem zh0 (l m : List UInt8) : Lib.byteCells l ++ Lib.byteCells m = Lib.byteCells (l ++ m) := by simp [Lib.byteCells]
def small (x : Int) : Prop := -65536 <= x /\ x <= 65536
theorem zq1 : Elem 59 5 1 1 (.int .u8 0) := .mk Tryz.underlying59 (by kernel_rfl) rfl (by decide)
def OwnB (w : World) (base : Nat) (v : Value) (l : List UInt8) : Prop := w.ownsRow base 5 1 v l.length (Lib.byteCells l)
theorem OwnB.nil (w : World) (base : Nat) : OwnB w base (.slice none 0 0) [] := World.ownsRow_nil _ _ _ _
theorem OwnB.later {w w' : World} {base : Nat} {v : Value} {l : List UInt8} (h : OwnB w base v l) (hb : Below w.heap.size w w') : OwnB w' base v l := by
 refine ⟨h.1, ?_⟩
 rcases h.2 with h1 | ⟨g, cap, cur, hv, hg, hh, r⟩
 ·exact .inl h1
 exact .inr ⟨g, cap, cur, hv, hg, by rw [hb.block g (lt_of_block hh)]; exact hh, r⟩
theorem OwnB.row {w : World} {base : Nat} {v : Value} {l : List UInt8} (h : OwnB w base v l) : ∀ g, v.ownBlock = some g -> ∃ c fz, w.heap[g]? = some (.cells c 5 fz) := by
 intro g hg
 rcases h.2 with ⟨h1, _⟩ | ⟨g', cap, cur, hv, _, hh, _⟩
 ·rw [h1] at hg; simp [Value.ownBlock] at hg
 rw [hv] at hg; simp [Value.ownBlock] at hg; subst hg; exact ⟨cur, _, hh⟩
section
variable {ops : Array Oper} {o : Oper} {a : Act} {w : World} {K : Act -> World -> Prop} {Q : Exit -> Act -> World -> Prop} {EE : Prop}
theorem zfg (l : List UInt8) (c : UInt8) : Lib.byteCells l ++ [Value.int .u8 c.toNat] = Lib.byteCells (l ++ [c]) := by simp [Lib.byteCells]
end
theorem zvl {W W1 W3 W4 : World} {B : Nat} {v : Value} {l : List UInt8} (hBW : B <= W.heap.size) (hown : OwnB W B v l) (h1 : Below W.heap.size W W1) (hg : W1.grownBy W3 v.ownBlock) (h4 : Below B W3 W4) (hk : Lib.OthersKept 5 none W3 W4) :
 Below B W W4 /\ Lib.OthersKept 5 none W W4 := by
 have k1 : Lib.OthersKept 5 none W W1 := fun k o ho _ _ => by rw [h1.block k (lt_of_block ho)]; exact ho
 refine ⟨(((h1.mono hBW)).grown hg (Nat.le_trans hBW h1.size) fun k hk => ?_).trans h4, (k1.grown hg fun g hg' => ?_).trans hk⟩
 ·rcases hown.2 with ⟨e, _⟩ | ⟨g, cap, cur, hv, hgB, _⟩
  ·rw [e] at hk; simp [Value.ownBlock] at hk
  rw [hv] at hk; simp [Value.ownBlock] at hk; subst hk; exact hgB
 exact (hown.later h1).row g hg'
theorem zm8 {W W1 W3 : World} {B : Nat} {v : Value} {l : List UInt8} (hBW : B <= W.heap.size) (hown : OwnB W B v l) (h1 : Below W.heap.size W W1) (hg : W1.grownBy W3 v.ownBlock) : Below B W W3 /\ Lib.OthersKept 5 none W W3 :=
 zvl hBW hown h1 hg (Below.refl _ _) (Lib.OthersKept.refl _ _ _)
def Pfx (tot cur : List UInt8) : Prop := ∃ r, tot = cur ++ r
theorem Pfx.le {tot cur : List UInt8} (h : Pfx tot cur) : cur.length <= tot.length := by obtain ⟨r, rfl⟩ := h; simp
theorem Pfx.left {tot a b : List UInt8} (h : Pfx tot (a ++ b)) : Pfx tot a := by obtain ⟨r, rfl⟩ := h; exact ⟨b ++ r, by simp⟩
theorem zos {α : Type} {l : List α} {k : Nat} (h : k < l.length) {β : Type} (f : α -> List β) : l.flatMap f = (l.take k).flatMap f ++ (f l[k] ++ (l.drop (k + 1)).flatMap f) := by
 conv => lhs; rw [show l = l.take k ++ l[k] :: l.drop (k + 1) by simp]
 rw [List.flatMap_append, List.flatMap_cons]
theorem zlm {α : Type} {l : List α} {k : Nat} (h : k < l.length) {β : Type} (f : α -> List β) : (l.take (k + 1)).flatMap f = (l.take k).flatMap f ++ f l[k] := by
 rw [List.take_succ_eq_append_getElem h, List.flatMap_append]; simp
theorem zly (B : Nat) (i : Int) (hi : small i) (sv : Value) (l : List UInt8) (w : World) (hown : OwnB w B sv l) (hBw : B <= w.heap.size) (hl : l.length <= 1073741824)
 (ht : Lib.TabBelow Tryz.prog B w "internal/strconv.uint64pow10" .u64 Lib.pow10Tab) :
 Calls Tryz.prog 166 #[sv, .int .i64 i, .int .i64 10] w fun e w' => ∃ v', e = .returned v' /\ OwnB w' B v' (l ++ Lib.itoa i) /\ Below B w w' /\ Lib.OthersKept 5 none w w' := by
 refine (Tryz.strconv_AppendInt_10 B l.length i (by have := hi.1; omega) (by have := hi.2; omega) sv (Lib.byteCells l) w hown hBw (by omega) ht).mono ?_;rintro e w' ⟨v', rfl, h1, h2, h3⟩;refine ⟨v', rfl, ?_, h2, h3⟩;unfold OwnB; rw [<- zh0, List.length_append]; exact h1
end Go.Proofs.YtlleofjjdhfgcaaGreatDoor
