/- Part of the proofs that laws of censuslaw24 return true for every input, where the tables that the rows list are laid. Texts: En. -/
import Derived.Test.YtfmmhjphopikgaaGreatDoorYC1
import Derived.Test.YtfmmhjphopikgaaGreatDoorYC35
import Derived.Deep.RegionHeld3
set_option maxHeartbeats 8000000
set_option maxRecDepth 100000
set_option linter.unusedSimpArgs false
set_option linter.unusedVariables false
namespace Go.Proofs.YtfmmhjphopikgaaGreatDoor
open Go.RowKit Cen
def SetAt (V : World) (B : Nat) (o : Option (Nat × St)) : Prop := ∀ b s, o = some (b, s) -> B <= b /\ Blk V b #[.int .u64 (s.a : Int), .int .u64 (s.b : Int)] 56
structure MB (w0 V : World) (oX oY : Option (Nat × St)) : Prop where
 bl : Below w0.heap.size w0 V
 x : SetAt V w0.heap.size oX
 y : SetAt V w0.heap.size oY
 ne : ∀ b s c t, oX = some (b, s) -> oY = some (c, t) -> b ≠ c
theorem SetAt.later {V V' : World} {B : Nat} {o : Option (Nat × St)} (h : SetAt V B o) (hb : Below V.heap.size V V') : SetAt V' B o := fun b s e => ⟨(h b s e).1, (h b s e).2.later hb⟩
theorem MB.later {w0 V V' : World} {oX oY : Option (Nat × St)} (h : MB w0 V oX oY) (hb : Below V.heap.size V V') : MB w0 V' oX oY :=
 ⟨h.bl.trans (hb.mono h.bl.size), h.x.later hb, h.y.later hb, h.ne⟩
theorem MB.allocX {w0 V : World} {oY : Option (Nat × St)} {q : Nat} (h : MB w0 V none oY) (hq : q = V.heap.size) : MB w0 (V.alloc (.cells #[.int .u64 0, .int .u64 0] 56)) (some (q, St.zero)) oY := by
 subst hq;have hb : Below V.heap.size V (V.alloc (.cells #[.int .u64 0, .int .u64 0] 56)) := (Below.refl _ _).alloc (Nat.le_refl _) _;refine ⟨h.bl.trans (hb.mono h.bl.size), fun b s e => ?_, h.y.later hb, fun b s c t e1 e2 => ?_⟩
 ·simp only [Option.some.injEq, Prod.mk.injEq] at e;obtain ⟨rfl, rfl⟩ := e;exact ⟨h.bl.size, Blk.new _ _ _⟩
 simp only [Option.some.injEq, Prod.mk.injEq] at e1;have := ((h.y c t e2).2).lt;omega
theorem MB.allocY {w0 V : World} {oX : Option (Nat × St)} {q : Nat} (h : MB w0 V oX none) (hq : q = V.heap.size) : MB w0 (V.alloc (.cells #[.int .u64 0, .int .u64 0] 56)) oX (some (q, St.zero)) := by
 subst hq;have hb : Below V.heap.size V (V.alloc (.cells #[.int .u64 0, .int .u64 0] 56)) := (Below.refl _ _).alloc (Nat.le_refl _) _;refine ⟨h.bl.trans (hb.mono h.bl.size), h.x.later hb, fun b s e => ?_, fun b s c t e1 e2 => ?_⟩
 ·simp only [Option.some.injEq, Prod.mk.injEq] at e;obtain ⟨rfl, rfl⟩ := e;exact ⟨h.bl.size, Blk.new _ _ _⟩
 simp only [Option.some.injEq, Prod.mk.injEq] at e2;have := ((h.x b s e1).2).lt;omega
theorem MB.storeX {w0 V : World} {b : Nat} {s t : St} {oY : Option (Nat × St)} (h : MB w0 V (some (b, s)) oY) : MB w0 ((V.setCell ⟨b, 0, none⟩ (.int .u64 (t.a : Int))).setCell ⟨b, 1, none⟩ (.int .u64 (t.b : Int))) (some (b, t)) oY := by
 obtain ⟨h1, h2⟩ := h.x b s rfl;have hk : Kp (fun y => y = b) V ((V.setCell ⟨b, 0, none⟩ (.int .u64 (t.a : Int))).setCell ⟨b, 1, none⟩ (.int .u64 (t.b : Int))) := Kp.trans (M := fun y => y = b) (Kp.setCell V ⟨b, 0, none⟩ _ rfl) (Kp.setCell _ ⟨b, 1, none⟩ _ rfl);refine ⟨(h.bl.setCell h1 _).setCell h1 _, fun c u e => ?_, fun c u e => ⟨(h.y c u e).1, (h.y c u e).2.kept hk fun e2 => h.ne b s c u rfl e e2.symm⟩, fun c u c' u' e1 e2 => ?_⟩
 ·simp only [Option.some.injEq, Prod.mk.injEq] at e;obtain ⟨rfl, rfl⟩ := e;exact ⟨h1, (h2.set 0 _).set 1 _⟩
 simp only [Option.some.injEq, Prod.mk.injEq] at e1;obtain ⟨rfl, _⟩ := e1;exact h.ne _ s c' u' rfl e2
theorem MB.storeY {w0 V : World} {b : Nat} {s t : St} {oX : Option (Nat × St)} (h : MB w0 V oX (some (b, s))) : MB w0 ((V.setCell ⟨b, 0, none⟩ (.int .u64 (t.a : Int))).setCell ⟨b, 1, none⟩ (.int .u64 (t.b : Int))) oX (some (b, t)) := by
 obtain ⟨h1, h2⟩ := h.y b s rfl;have hk : Kp (fun y => y = b) V ((V.setCell ⟨b, 0, none⟩ (.int .u64 (t.a : Int))).setCell ⟨b, 1, none⟩ (.int .u64 (t.b : Int))) := Kp.trans (M := fun y => y = b) (Kp.setCell V ⟨b, 0, none⟩ _ rfl) (Kp.setCell _ ⟨b, 1, none⟩ _ rfl);refine ⟨(h.bl.setCell h1 _).setCell h1 _, fun c u e => ⟨(h.x c u e).1, (h.x c u e).2.kept hk fun e2 => h.ne c u b s e rfl e2⟩, fun c u e => ?_, fun c u c' u' e1 e2 => ?_⟩
 ·simp only [Option.some.injEq, Prod.mk.injEq] at e;obtain ⟨rfl, rfl⟩ := e;exact ⟨h1, (h2.set 0 _).set 1 _⟩
 simp only [Option.some.injEq, Prod.mk.injEq] at e2;obtain ⟨rfl, _⟩ := e2;exact h.ne c u _ s e1 rfl
theorem zpq (n : Nat) (r s : List Cl) : zd6 n r s = (decide (((zbs n r).cut (zbs n s)).a ≠ 0) || decide (((zbs n r).cut (zbs n s)).b ≠ 0)) := by
 unfold zd6;rw [Bool.eq_iff_iff, decide_eq_true_iff, Bool.or_eq_true, decide_eq_true_iff, decide_eq_true_iff];generalize (zbs n r).cut (zbs n s) = q;obtain ⟨x, y⟩ := q
 constructor
 ·intro h
  by_cases hx : x = 0
  ·exact .inr fun hy => h (by simp only at hy; rw [hx, hy]; rfl)
  exact .inl hx
 rintro (h | h) e
 ·exact h (by rw [e]; rfl)
 exact h (by rw [e]; rfl)
theorem zka (n : Nat) (hn : n <= 128) (a : Option Addr) (cap : Nat) (r : List Cl) (b : Option Addr) (cap2 : Nat) (s : List Cl) (w : World) (hl : r.length <= 1073741824) (hs : ∀ c ∈ r, c.length <= 1073741824) (hl2 : s.length <= 1073741824) (hs2 : ∀ c ∈ s, c.length <= 1073741824) (hx : LsCells w a r) (hy : LsCells w b s) :
 Calls Tryz.prog 123 #[.agg #[.int .i64 n, .slice a r.length cap], .agg #[.int .i64 n, .slice b s.length cap2]] w fun e w' => e = .returned (.bool (zd6 n r s)) /\ Below w.heap.size w w' := by
 obtain ⟨w0, hw0⟩ : ∃ w0, w0 = (w.alloc (.cells #[.int .i64 n, .slice a r.length cap] 24)).alloc (.cells #[.int .i64 n, .slice b s.length cap2] 24) := ⟨_, rfl⟩
 have hb0 : Below w.heap.size w w0 := by rw [hw0]; exact ((Below.refl _ _).alloc (Nat.le_refl _) _).alloc (by simp) _
 have q0 : Blk w0 w.heap.size #[.int .i64 n, .slice a r.length cap] 24 := by rw [hw0]; exact (Blk.new w _ _).alloc _
 have q1 : Blk w0 (w.heap.size + 1) #[.int .i64 n, .slice b s.length cap2] 24 := by rw [hw0]; exact Blk.new' _ (by simp) _ _
 have HV1 : Hid (∀ W, Below w0.heap.size w0 W -> Calls Tryz.prog 91 #[.agg #[.int .i64 n, .slice a r.length cap]] W fun e w' => e = .returned (stv (zbs n r)) /\ Below W.heap.size W w') := fun W hW => zjb n hn a cap r W hl hs ((hx.keep hb0).keep hW)
 have HV2 : Hid (∀ W, Below w0.heap.size w0 W -> Calls Tryz.prog 91 #[.agg #[.int .i64 n, .slice b s.length cap2]] W fun e w' => e = .returned (stv (zbs n s)) /\ Below W.heap.size W w') := fun W hW => zjb n hn b cap2 s W hl2 hs2 ((hy.keep hb0).keep hW)
 have HB0 := lh hb0;have HMB := lh (zpq n r s);have HO1 := lh (zhl n r);have HO2 := lh (zhl n s);have k0 := q0.cell 0;have k1 := q0.cell 1;have l0 := q1.cell 0;have l1 := q1.cell 1;have z1 := q1.lt;have z0 := q0.lt
 have HKS : Hid (∀ w' : World, Below w0.heap.size w0 w' -> w'.cell? ⟨w.heap.size, 0, none⟩ = some (.int .i64 n) /\ w'.cell? ⟨w.heap.size, 1, none⟩ = some (.slice a r.length cap) /\ w'.cell? ⟨w.heap.size + 1, 0, none⟩ = some (.int .i64 n) /\ w'.cell? ⟨w.heap.size + 1, 1, none⟩ = some (.slice b s.length cap2)) := fun w' h => ⟨zaa h k0, zaa h k1, zaa h l0, zaa h l1⟩
 generalize zd6 n r s = R at *;generalize zbs n r = S at *;generalize zbs n s = T at *;have e1 : bits .and .u64 (S.a : Int) (T.a : Int) = (((S.cut T).a : Nat) : Int) := zst HO1.o.1 HO2.o.1;have e2 : bits .and .u64 (S.b : Int) (T.b : Int) = (((S.cut T).b : Nat) : Int) := zst HO1.o.2 HO2.o.2
 have G1 : Hid ((bits .and .u64 (S.a : Int) (T.a : Int) != 0) = decide ((S.cut T).a ≠ 0)) := by show _ = _; rw [e1, Bool.eq_iff_iff]; simp
 have G2 : Hid ((bits .and .u64 (S.b : Int) (T.b : Int) != 0) = decide ((S.cut T).b ≠ 0)) := by show _ = _; rw [e2, Bool.eq_iff_iff]; simp
 generalize decide ((S.cut T).a ≠ 0) = A at *;generalize decide ((S.cut T).b ≠ 0) = B at *;clear hx hy hb0 q0 q1 hs hs2 e1 e2
 cases A
 all_goals
  go_enter Tryz.func123, Tryz.ntmps123;go_wp2_with fail;rw [<- hw0];clear hw0
  have h10 : MB w0 w0.drew none none := ⟨(Below.refl _ _).drew, fun b s e => by simp at e, fun b s e => by simp at e, fun b s c t e => by simp at e⟩
  refine wp_region_held_drew (S := (fun w' => w'.cell? ⟨w.heap.size, 0, none⟩ = some (.int .i64 n) /\ w'.cell? ⟨w.heap.size, 1, none⟩ = some (.slice a r.length cap) /\ w'.cell? ⟨w.heap.size + 1, 0, none⟩ = some (.int .i64 n) /\ w'.cell? ⟨w.heap.size + 1, 1, none⟩ = some (.slice b s.length cap2))) (by kernel_rfl) ?_ (fun hHeld => ?_)
  ·try dsimp only
   exact HKS.o _ h10.bl
  refine tkV 0 7 rfl rfl ?_; try simp only [tkS]
  refine tkV 2 9 rfl rfl ?_; try simp only [tkS]
  refine wpAnyH_ready (rs := [1, 4, 5]) (by kernel_rfl) (by simp) ?_;refine AllReadyH.cons rfl (fun K hK => ?_) (AllReadyH.cons rfl (fun K hK => ?_) (AllReadyH.cons rfl (fun K hK => ?_) AllReadyH.nil))
  ·go_simp;go_at_call 91;refine (HV1.o _ h10.bl).mono ?_;rintro e V11 ⟨rfl, hb11⟩;have h11 := h10.later hb11;clear hb11;go_wp2_with fail;refine hK.out _ _ ?_ (fun hHeld => ?_)
   ·try dsimp only
    exact HKS.o _ h11.bl
   clear hK K
   try simp only [tkS]
   refine wpAnyH_ready (rs := [3, 4, 5]) (by kernel_rfl) (by simp) ?_;refine AllReadyH.cons rfl (fun K hK => ?_) (AllReadyH.cons rfl (fun K hK => ?_) (AllReadyH.cons rfl (fun K hK => ?_) AllReadyH.nil))
   ·go_simp;go_at_call 91;refine (HV2.o _ h11.bl).mono ?_;rintro e V12 ⟨rfl, hb12⟩;have h12 := h11.later hb12;clear hb12;go_wp2_with fail;refine hK.out _ _ ?_ (fun hHeld => ?_)
    ·try dsimp only
     exact HKS.o _ h12.bl
    clear hK K
    try simp only [tkS]
    refine wpAnyH_ready (rs := [4, 5]) (by kernel_rfl) (by simp) ?_;refine AllReadyH.cons rfl (fun K hK => ?_) (AllReadyH.cons rfl (fun K hK => ?_) AllReadyH.nil)
    ·go_simp
     obtain ⟨bX, hbX⟩ : ∃ bX, bX = V12.heap.size := ⟨_, rfl⟩
     have h13 := h12.allocX (q := bX) hbX;refine hK.out _ _ ?_ (fun hHeld => ?_)
     ·try dsimp only
      exact HKS.o _ h13.bl
     clear hK K
     try simp only [tkS]
     obtain ⟨V13, hV13⟩ : ∃ V, V = V12.alloc (.cells #[.int .u64 0, .int .u64 0] 56) := ⟨_, rfl⟩
     rw [show V12.alloc (.cells #[.int .u64 0, .int .u64 0] 56) = V13 from hV13.symm] at h13
     try rw [<- hV13] at hHeld
     rw [<- hbX, <- hV13];clear hV13 hbX;refine tkR 5 (.cons rfl (fun K hK => ?_) .nil);go_simp
     obtain ⟨bY, hbY⟩ : ∃ bY, bY = V13.heap.size := ⟨_, rfl⟩
     have h14 := h13.allocY (q := bY) hbY;refine hK.out _ _ ?_ (fun hHeld => ?_)
     ·try dsimp only
      exact HKS.o _ h14.bl
     clear hK K
     try simp only [tkS]
     obtain ⟨V14, hV14⟩ : ∃ V, V = V13.alloc (.cells #[.int .u64 0, .int .u64 0] 56) := ⟨_, rfl⟩
     rw [show V13.alloc (.cells #[.int .u64 0, .int .u64 0] 56) = V14 from hV14.symm] at h14
     try rw [<- hV14] at hHeld
     rw [<- hbY, <- hV14];clear hV14 hbY;refine tkR 6 (.cons rfl (fun K hK => ?_) .nil);obtain ⟨_, d15⟩ := h14.x _ _ rfl;have c150 := d15.cell 0;have c151 := d15.cell 1;have f150 := d15.fr 0;have f151 := d15.fr 1;go_simp;have h15 := h14.storeX (t := S);clear d15 c150 c151 f150 f151;refine hK.out _ _ ?_ (fun hHeld => ?_)
     ·try dsimp only
      exact HKS.o _ h15.bl
     clear hK K
     try simp only [tkS]
     generalize (V14.setCell ⟨bX, 0, none⟩ (.int .u64 (S.a : Int))).setCell ⟨bX, 1, none⟩ (.int .u64 (S.b : Int)) = V15 at *;refine tkR 7 (.cons rfl (fun K hK => ?_) .nil);obtain ⟨_, d16⟩ := h15.y _ _ rfl;have c160 := d16.cell 0;have c161 := d16.cell 1;have f160 := d16.fr 0;have f161 := d16.fr 1;go_simp;have h16 := h15.storeY (t := T);clear d16 c160 c161 f160 f161;refine hK.out _ _ ?_ (fun hHeld => ?_)
     ·try dsimp only
      exact HKS.o _ h16.bl
     clear hK K
     try simp only [tkS]
     generalize (V15.setCell ⟨bY, 0, none⟩ (.int .u64 (T.a : Int))).setCell ⟨bY, 1, none⟩ (.int .u64 (T.b : Int)) = V16 at *;refine wpAnyH_done (by kernel_rfl) ?_ _;have HH := lh h16;obtain ⟨_, dx⟩ := h16.x _ _ rfl;obtain ⟨_, dy⟩ := h16.y _ _ rfl;have x0 := dx.cell 0;have x1 := dx.cell 1;have y0 := dy.cell 0;have y1 := dy.cell 1;have xz := dx.lt;have yz := dy.lt;have g1 := G1.o;have g2 := G2.o;clear dx dy;go_wp2;go_ret;exact ⟨by rw [HMB.o]; rfl, HB0.o.trans (HH.o.bl.mono HB0.o.size)⟩
    go_simp
    obtain ⟨bY, hbY⟩ : ∃ bY, bY = V12.heap.size := ⟨_, rfl⟩
    have h13 := h12.allocY (q := bY) hbY;refine hK.out _ _ ?_ (fun hHeld => ?_)
    ·try dsimp only
     exact HKS.o _ h13.bl
    clear hK K
    try simp only [tkS]
    obtain ⟨V13, hV13⟩ : ∃ V, V = V12.alloc (.cells #[.int .u64 0, .int .u64 0] 56) := ⟨_, rfl⟩
    rw [show V12.alloc (.cells #[.int .u64 0, .int .u64 0] 56) = V13 from hV13.symm] at h13
    try rw [<- hV13] at hHeld
    rw [<- hbY, <- hV13];clear hV13 hbY;refine tkR 4 (.cons rfl (fun K hK => ?_) .nil);go_simp
    obtain ⟨bX, hbX⟩ : ∃ bX, bX = V13.heap.size := ⟨_, rfl⟩
    have h14 := h13.allocX (q := bX) hbX;refine hK.out _ _ ?_ (fun hHeld => ?_)
    ·try dsimp only
     exact HKS.o _ h14.bl
    clear hK K
    try simp only [tkS]
    obtain ⟨V14, hV14⟩ : ∃ V, V = V13.alloc (.cells #[.int .u64 0, .int .u64 0] 56) := ⟨_, rfl⟩
    rw [show V13.alloc (.cells #[.int .u64 0, .int .u64 0] 56) = V14 from hV14.symm] at h14
    try rw [<- hV14] at hHeld
    rw [<- hbX, <- hV14];clear hV14 hbX;refine tkR 6 (.cons rfl (fun K hK => ?_) .nil);obtain ⟨_, d15⟩ := h14.x _ _ rfl;have c150 := d15.cell 0;have c151 := d15.cell 1;have f150 := d15.fr 0;have f151 := d15.fr 1;go_simp;have h15 := h14.storeX (t := S);clear d15 c150 c151 f150 f151;refine hK.out _ _ ?_ (fun hHeld => ?_)
    ·try dsimp only
     exact HKS.o _ h15.bl
    clear hK K
    try simp only [tkS]
    generalize (V14.setCell ⟨bX, 0, none⟩ (.int .u64 (S.a : Int))).setCell ⟨bX, 1, none⟩ (.int .u64 (S.b : Int)) = V15 at *;refine tkR 7 (.cons rfl (fun K hK => ?_) .nil);obtain ⟨_, d16⟩ := h15.y _ _ rfl;have c160 := d16.cell 0;have c161 := d16.cell 1;have f160 := d16.fr 0;have f161 := d16.fr 1;go_simp;have h16 := h15.storeY (t := T);clear d16 c160 c161 f160 f161;refine hK.out _ _ ?_ (fun hHeld => ?_)
    ·try dsimp only
     exact HKS.o _ h16.bl
    clear hK K
    try simp only [tkS]
    generalize (V15.setCell ⟨bY, 0, none⟩ (.int .u64 (T.a : Int))).setCell ⟨bY, 1, none⟩ (.int .u64 (T.b : Int)) = V16 at *;refine wpAnyH_done (by kernel_rfl) ?_ _;have HH := lh h16;obtain ⟨_, dx⟩ := h16.x _ _ rfl;obtain ⟨_, dy⟩ := h16.y _ _ rfl;have x0 := dx.cell 0;have x1 := dx.cell 1;have y0 := dy.cell 0;have y1 := dy.cell 1;have xz := dx.lt;have yz := dy.lt;have g1 := G1.o;have g2 := G2.o;clear dx dy;go_wp2;go_ret;exact ⟨by rw [HMB.o]; rfl, HB0.o.trans (HH.o.bl.mono HB0.o.size)⟩
   ·go_simp
    obtain ⟨bX, hbX⟩ : ∃ bX, bX = V11.heap.size := ⟨_, rfl⟩
    have h12 := h11.allocX (q := bX) hbX;refine hK.out _ _ ?_ (fun hHeld => ?_)
    ·try dsimp only
     exact HKS.o _ h12.bl
    clear hK K
    try simp only [tkS]
    obtain ⟨V12, hV12⟩ : ∃ V, V = V11.alloc (.cells #[.int .u64 0, .int .u64 0] 56) := ⟨_, rfl⟩
    rw [show V11.alloc (.cells #[.int .u64 0, .int .u64 0] 56) = V12 from hV12.symm] at h12
    try rw [<- hV12] at hHeld
    rw [<- hbX, <- hV12];clear hV12 hbX;refine wpAnyH_ready (rs := [3, 5]) (by kernel_rfl) (by simp) ?_;refine AllReadyH.cons rfl (fun K hK => ?_) (AllReadyH.cons rfl (fun K hK => ?_) AllReadyH.nil)
    ·go_simp;go_at_call 91;refine (HV2.o _ h12.bl).mono ?_;rintro e V13 ⟨rfl, hb13⟩;have h13 := h12.later hb13;clear hb13;go_wp2_with fail;refine hK.out _ _ ?_ (fun hHeld => ?_)
     ·try dsimp only
      exact HKS.o _ h13.bl
     clear hK K
     try simp only [tkS]
     refine tkR 5 (.cons rfl (fun K hK => ?_) .nil);go_simp
     obtain ⟨bY, hbY⟩ : ∃ bY, bY = V13.heap.size := ⟨_, rfl⟩
     have h14 := h13.allocY (q := bY) hbY;refine hK.out _ _ ?_ (fun hHeld => ?_)
     ·try dsimp only
      exact HKS.o _ h14.bl
     clear hK K
     try simp only [tkS]
     obtain ⟨V14, hV14⟩ : ∃ V, V = V13.alloc (.cells #[.int .u64 0, .int .u64 0] 56) := ⟨_, rfl⟩
     rw [show V13.alloc (.cells #[.int .u64 0, .int .u64 0] 56) = V14 from hV14.symm] at h14
     try rw [<- hV14] at hHeld
     rw [<- hbY, <- hV14];clear hV14 hbY;refine tkR 6 (.cons rfl (fun K hK => ?_) .nil);obtain ⟨_, d15⟩ := h14.x _ _ rfl;have c150 := d15.cell 0;have c151 := d15.cell 1;have f150 := d15.fr 0;have f151 := d15.fr 1;go_simp;have h15 := h14.storeX (t := S);clear d15 c150 c151 f150 f151;refine hK.out _ _ ?_ (fun hHeld => ?_)
     ·try dsimp only
      exact HKS.o _ h15.bl
     clear hK K
     try simp only [tkS]
     generalize (V14.setCell ⟨bX, 0, none⟩ (.int .u64 (S.a : Int))).setCell ⟨bX, 1, none⟩ (.int .u64 (S.b : Int)) = V15 at *;refine tkR 7 (.cons rfl (fun K hK => ?_) .nil);obtain ⟨_, d16⟩ := h15.y _ _ rfl;have c160 := d16.cell 0;have c161 := d16.cell 1;have f160 := d16.fr 0;have f161 := d16.fr 1;go_simp;have h16 := h15.storeY (t := T);clear d16 c160 c161 f160 f161;refine hK.out _ _ ?_ (fun hHeld => ?_)
     ·try dsimp only
      exact HKS.o _ h16.bl
     clear hK K
     try simp only [tkS]
     generalize (V15.setCell ⟨bY, 0, none⟩ (.int .u64 (T.a : Int))).setCell ⟨bY, 1, none⟩ (.int .u64 (T.b : Int)) = V16 at *;refine wpAnyH_done (by kernel_rfl) ?_ _;have HH := lh h16;obtain ⟨_, dx⟩ := h16.x _ _ rfl;obtain ⟨_, dy⟩ := h16.y _ _ rfl;have x0 := dx.cell 0;have x1 := dx.cell 1;have y0 := dy.cell 0;have y1 := dy.cell 1;have xz := dx.lt;have yz := dy.lt;have g1 := G1.o;have g2 := G2.o;clear dx dy;go_wp2;go_ret;exact ⟨by rw [HMB.o]; rfl, HB0.o.trans (HH.o.bl.mono HB0.o.size)⟩
    go_simp
    obtain ⟨bY, hbY⟩ : ∃ bY, bY = V12.heap.size := ⟨_, rfl⟩
    have h13 := h12.allocY (q := bY) hbY;refine hK.out _ _ ?_ (fun hHeld => ?_)
    ·try dsimp only
     exact HKS.o _ h13.bl
    clear hK K
    try simp only [tkS]
    obtain ⟨V13, hV13⟩ : ∃ V, V = V12.alloc (.cells #[.int .u64 0, .int .u64 0] 56) := ⟨_, rfl⟩
    rw [show V12.alloc (.cells #[.int .u64 0, .int .u64 0] 56) = V13 from hV13.symm] at h13
    try rw [<- hV13] at hHeld
    rw [<- hbY, <- hV13];clear hV13 hbY;refine tkR 3 (.cons rfl (fun K hK => ?_) .nil);go_simp;go_at_call 91;refine (HV2.o _ h13.bl).mono ?_;rintro e V14 ⟨rfl, hb14⟩;have h14 := h13.later hb14;clear hb14;go_wp2_with fail;refine hK.out _ _ ?_ (fun hHeld => ?_)
    ·try dsimp only
     exact HKS.o _ h14.bl
    clear hK K
    try simp only [tkS]
    refine tkR 6 (.cons rfl (fun K hK => ?_) .nil);obtain ⟨_, d15⟩ := h14.x _ _ rfl;have c150 := d15.cell 0;have c151 := d15.cell 1;have f150 := d15.fr 0;have f151 := d15.fr 1;go_simp;have h15 := h14.storeX (t := S);clear d15 c150 c151 f150 f151;refine hK.out _ _ ?_ (fun hHeld => ?_)
    ·try dsimp only
     exact HKS.o _ h15.bl
    clear hK K
    try simp only [tkS]
    generalize (V14.setCell ⟨bX, 0, none⟩ (.int .u64 (S.a : Int))).setCell ⟨bX, 1, none⟩ (.int .u64 (S.b : Int)) = V15 at *;refine tkR 7 (.cons rfl (fun K hK => ?_) .nil);obtain ⟨_, d16⟩ := h15.y _ _ rfl;have c160 := d16.cell 0;have c161 := d16.cell 1;have f160 := d16.fr 0;have f161 := d16.fr 1;go_simp;have h16 := h15.storeY (t := T);clear d16 c160 c161 f160 f161;refine hK.out _ _ ?_ (fun hHeld => ?_)
    ·try dsimp only
     exact HKS.o _ h16.bl
    clear hK K
    try simp only [tkS]
    generalize (V15.setCell ⟨bY, 0, none⟩ (.int .u64 (T.a : Int))).setCell ⟨bY, 1, none⟩ (.int .u64 (T.b : Int)) = V16 at *;refine wpAnyH_done (by kernel_rfl) ?_ _;have HH := lh h16;obtain ⟨_, dx⟩ := h16.x _ _ rfl;obtain ⟨_, dy⟩ := h16.y _ _ rfl;have x0 := dx.cell 0;have x1 := dx.cell 1;have y0 := dy.cell 0;have y1 := dy.cell 1;have xz := dx.lt;have yz := dy.lt;have g1 := G1.o;have g2 := G2.o;clear dx dy;go_wp2;go_ret;exact ⟨by rw [HMB.o]; rfl, HB0.o.trans (HH.o.bl.mono HB0.o.size)⟩
   go_simp
   obtain ⟨bY, hbY⟩ : ∃ bY, bY = V11.heap.size := ⟨_, rfl⟩
   have h12 := h11.allocY (q := bY) hbY;refine hK.out _ _ ?_ (fun hHeld => ?_)
   ·try dsimp only
    exact HKS.o _ h12.bl
   clear hK K
   try simp only [tkS]
   obtain ⟨V12, hV12⟩ : ∃ V, V = V11.alloc (.cells #[.int .u64 0, .int .u64 0] 56) := ⟨_, rfl⟩
   rw [show V11.alloc (.cells #[.int .u64 0, .int .u64 0] 56) = V12 from hV12.symm] at h12
   try rw [<- hV12] at hHeld
   rw [<- hbY, <- hV12];clear hV12 hbY;refine wpAnyH_ready (rs := [3, 4]) (by kernel_rfl) (by simp) ?_;refine AllReadyH.cons rfl (fun K hK => ?_) (AllReadyH.cons rfl (fun K hK => ?_) AllReadyH.nil)
   ·go_simp;go_at_call 91;refine (HV2.o _ h12.bl).mono ?_;rintro e V13 ⟨rfl, hb13⟩;have h13 := h12.later hb13;clear hb13;go_wp2_with fail;refine hK.out _ _ ?_ (fun hHeld => ?_)
    ·try dsimp only
     exact HKS.o _ h13.bl
    clear hK K
    try simp only [tkS]
    refine tkR 4 (.cons rfl (fun K hK => ?_) .nil);go_simp
    obtain ⟨bX, hbX⟩ : ∃ bX, bX = V13.heap.size := ⟨_, rfl⟩
    have h14 := h13.allocX (q := bX) hbX;refine hK.out _ _ ?_ (fun hHeld => ?_)
    ·try dsimp only
     exact HKS.o _ h14.bl
    clear hK K
    try simp only [tkS]
    obtain ⟨V14, hV14⟩ : ∃ V, V = V13.alloc (.cells #[.int .u64 0, .int .u64 0] 56) := ⟨_, rfl⟩
    rw [show V13.alloc (.cells #[.int .u64 0, .int .u64 0] 56) = V14 from hV14.symm] at h14
    try rw [<- hV14] at hHeld
    rw [<- hbX, <- hV14];clear hV14 hbX;refine tkR 6 (.cons rfl (fun K hK => ?_) .nil);obtain ⟨_, d15⟩ := h14.x _ _ rfl;have c150 := d15.cell 0;have c151 := d15.cell 1;have f150 := d15.fr 0;have f151 := d15.fr 1;go_simp;have h15 := h14.storeX (t := S);clear d15 c150 c151 f150 f151;refine hK.out _ _ ?_ (fun hHeld => ?_)
    ·try dsimp only
     exact HKS.o _ h15.bl
    clear hK K
    try simp only [tkS]
    generalize (V14.setCell ⟨bX, 0, none⟩ (.int .u64 (S.a : Int))).setCell ⟨bX, 1, none⟩ (.int .u64 (S.b : Int)) = V15 at *;refine tkR 7 (.cons rfl (fun K hK => ?_) .nil);obtain ⟨_, d16⟩ := h15.y _ _ rfl;have c160 := d16.cell 0;have c161 := d16.cell 1;have f160 := d16.fr 0;have f161 := d16.fr 1;go_simp;have h16 := h15.storeY (t := T);clear d16 c160 c161 f160 f161;refine hK.out _ _ ?_ (fun hHeld => ?_)
    ·try dsimp only
     exact HKS.o _ h16.bl
    clear hK K
    try simp only [tkS]
    generalize (V15.setCell ⟨bY, 0, none⟩ (.int .u64 (T.a : Int))).setCell ⟨bY, 1, none⟩ (.int .u64 (T.b : Int)) = V16 at *;refine wpAnyH_done (by kernel_rfl) ?_ _;have HH := lh h16;obtain ⟨_, dx⟩ := h16.x _ _ rfl;obtain ⟨_, dy⟩ := h16.y _ _ rfl;have x0 := dx.cell 0;have x1 := dx.cell 1;have y0 := dy.cell 0;have y1 := dy.cell 1;have xz := dx.lt;have yz := dy.lt;have g1 := G1.o;have g2 := G2.o;clear dx dy;go_wp2;go_ret;exact ⟨by rw [HMB.o]; rfl, HB0.o.trans (HH.o.bl.mono HB0.o.size)⟩
   go_simp
   obtain ⟨bX, hbX⟩ : ∃ bX, bX = V12.heap.size := ⟨_, rfl⟩
   have h13 := h12.allocX (q := bX) hbX;refine hK.out _ _ ?_ (fun hHeld => ?_)
   ·try dsimp only
    exact HKS.o _ h13.bl
   clear hK K
   try simp only [tkS]
   obtain ⟨V13, hV13⟩ : ∃ V, V = V12.alloc (.cells #[.int .u64 0, .int .u64 0] 56) := ⟨_, rfl⟩
   rw [show V12.alloc (.cells #[.int .u64 0, .int .u64 0] 56) = V13 from hV13.symm] at h13
   try rw [<- hV13] at hHeld
   rw [<- hbX, <- hV13];clear hV13 hbX;refine tkR 3 (.cons rfl (fun K hK => ?_) .nil);go_simp;go_at_call 91;refine (HV2.o _ h13.bl).mono ?_;rintro e V14 ⟨rfl, hb14⟩;have h14 := h13.later hb14;clear hb14;go_wp2_with fail;refine hK.out _ _ ?_ (fun hHeld => ?_)
   ·try dsimp only
    exact HKS.o _ h14.bl
   clear hK K
   try simp only [tkS]
   refine tkR 6 (.cons rfl (fun K hK => ?_) .nil);obtain ⟨_, d15⟩ := h14.x _ _ rfl;have c150 := d15.cell 0;have c151 := d15.cell 1;have f150 := d15.fr 0;have f151 := d15.fr 1;go_simp;have h15 := h14.storeX (t := S);clear d15 c150 c151 f150 f151;refine hK.out _ _ ?_ (fun hHeld => ?_)
   ·try dsimp only
    exact HKS.o _ h15.bl
   clear hK K
   try simp only [tkS]
   generalize (V14.setCell ⟨bX, 0, none⟩ (.int .u64 (S.a : Int))).setCell ⟨bX, 1, none⟩ (.int .u64 (S.b : Int)) = V15 at *;refine tkR 7 (.cons rfl (fun K hK => ?_) .nil);obtain ⟨_, d16⟩ := h15.y _ _ rfl;have c160 := d16.cell 0;have c161 := d16.cell 1;have f160 := d16.fr 0;have f161 := d16.fr 1;go_simp;have h16 := h15.storeY (t := T);clear d16 c160 c161 f160 f161;refine hK.out _ _ ?_ (fun hHeld => ?_)
   ·try dsimp only
    exact HKS.o _ h16.bl
   clear hK K
   try simp only [tkS]
   generalize (V15.setCell ⟨bY, 0, none⟩ (.int .u64 (T.a : Int))).setCell ⟨bY, 1, none⟩ (.int .u64 (T.b : Int)) = V16 at *;refine wpAnyH_done (by kernel_rfl) ?_ _;have HH := lh h16;obtain ⟨_, dx⟩ := h16.x _ _ rfl;obtain ⟨_, dy⟩ := h16.y _ _ rfl;have x0 := dx.cell 0;have x1 := dx.cell 1;have y0 := dy.cell 0;have y1 := dy.cell 1;have xz := dx.lt;have yz := dy.lt;have g1 := G1.o;have g2 := G2.o;clear dx dy;go_wp2;go_ret;exact ⟨by rw [HMB.o]; rfl, HB0.o.trans (HH.o.bl.mono HB0.o.size)⟩
  ·go_simp
   obtain ⟨bX, hbX⟩ : ∃ bX, bX = w0.heap.size := ⟨_, rfl⟩
   have h11 := h10.allocX (q := bX) hbX;refine hK.out _ _ ?_ (fun hHeld => ?_)
   ·try dsimp only
    exact HKS.o _ h11.bl
   clear hK K
   try simp only [tkS]
   obtain ⟨V11, hV11⟩ : ∃ V, V = (w0.alloc (.cells #[.int .u64 0, .int .u64 0] 56)).drew := ⟨_, rfl⟩
   rw [show w0.drew.alloc (.cells #[.int .u64 0, .int .u64 0] 56) = V11 from hV11.symm] at h11
   try rw [<- hV11] at hHeld
   rw [<- hbX, <- hV11];clear hV11 hbX;refine wpAnyH_ready (rs := [1, 5]) (by kernel_rfl) (by simp) ?_;refine AllReadyH.cons rfl (fun K hK => ?_) (AllReadyH.cons rfl (fun K hK => ?_) AllReadyH.nil)
   ·go_simp;go_at_call 91;refine (HV1.o _ h11.bl).mono ?_;rintro e V12 ⟨rfl, hb12⟩;have h12 := h11.later hb12;clear hb12;go_wp2_with fail;refine hK.out _ _ ?_ (fun hHeld => ?_)
    ·try dsimp only
     exact HKS.o _ h12.bl
    clear hK K
    try simp only [tkS]
    refine wpAnyH_ready (rs := [3, 5]) (by kernel_rfl) (by simp) ?_;refine AllReadyH.cons rfl (fun K hK => ?_) (AllReadyH.cons rfl (fun K hK => ?_) AllReadyH.nil)
    ·go_simp;go_at_call 91;refine (HV2.o _ h12.bl).mono ?_;rintro e V13 ⟨rfl, hb13⟩;have h13 := h12.later hb13;clear hb13;go_wp2_with fail;refine hK.out _ _ ?_ (fun hHeld => ?_)
     ·try dsimp only
      exact HKS.o _ h13.bl
     clear hK K
     try simp only [tkS]
     refine tkR 5 (.cons rfl (fun K hK => ?_) .nil);go_simp
     obtain ⟨bY, hbY⟩ : ∃ bY, bY = V13.heap.size := ⟨_, rfl⟩
     have h14 := h13.allocY (q := bY) hbY;refine hK.out _ _ ?_ (fun hHeld => ?_)
     ·try dsimp only
      exact HKS.o _ h14.bl
     clear hK K
     try simp only [tkS]
     obtain ⟨V14, hV14⟩ : ∃ V, V = V13.alloc (.cells #[.int .u64 0, .int .u64 0] 56) := ⟨_, rfl⟩
     rw [show V13.alloc (.cells #[.int .u64 0, .int .u64 0] 56) = V14 from hV14.symm] at h14
     try rw [<- hV14] at hHeld
     rw [<- hbY, <- hV14];clear hV14 hbY;refine tkR 6 (.cons rfl (fun K hK => ?_) .nil);obtain ⟨_, d15⟩ := h14.x _ _ rfl;have c150 := d15.cell 0;have c151 := d15.cell 1;have f150 := d15.fr 0;have f151 := d15.fr 1;go_simp;have h15 := h14.storeX (t := S);clear d15 c150 c151 f150 f151;refine hK.out _ _ ?_ (fun hHeld => ?_)
     ·try dsimp only
      exact HKS.o _ h15.bl
     clear hK K
     try simp only [tkS]
     generalize (V14.setCell ⟨bX, 0, none⟩ (.int .u64 (S.a : Int))).setCell ⟨bX, 1, none⟩ (.int .u64 (S.b : Int)) = V15 at *;refine tkR 7 (.cons rfl (fun K hK => ?_) .nil);obtain ⟨_, d16⟩ := h15.y _ _ rfl;have c160 := d16.cell 0;have c161 := d16.cell 1;have f160 := d16.fr 0;have f161 := d16.fr 1;go_simp;have h16 := h15.storeY (t := T);clear d16 c160 c161 f160 f161;refine hK.out _ _ ?_ (fun hHeld => ?_)
     ·try dsimp only
      exact HKS.o _ h16.bl
     clear hK K
     try simp only [tkS]
     generalize (V15.setCell ⟨bY, 0, none⟩ (.int .u64 (T.a : Int))).setCell ⟨bY, 1, none⟩ (.int .u64 (T.b : Int)) = V16 at *;refine wpAnyH_done (by kernel_rfl) ?_ _;have HH := lh h16;obtain ⟨_, dx⟩ := h16.x _ _ rfl;obtain ⟨_, dy⟩ := h16.y _ _ rfl;have x0 := dx.cell 0;have x1 := dx.cell 1;have y0 := dy.cell 0;have y1 := dy.cell 1;have xz := dx.lt;have yz := dy.lt;have g1 := G1.o;have g2 := G2.o;clear dx dy;go_wp2;go_ret;exact ⟨by rw [HMB.o]; rfl, HB0.o.trans (HH.o.bl.mono HB0.o.size)⟩
    go_simp
    obtain ⟨bY, hbY⟩ : ∃ bY, bY = V12.heap.size := ⟨_, rfl⟩
    have h13 := h12.allocY (q := bY) hbY;refine hK.out _ _ ?_ (fun hHeld => ?_)
    ·try dsimp only
     exact HKS.o _ h13.bl
    clear hK K
    try simp only [tkS]
    obtain ⟨V13, hV13⟩ : ∃ V, V = V12.alloc (.cells #[.int .u64 0, .int .u64 0] 56) := ⟨_, rfl⟩
    rw [show V12.alloc (.cells #[.int .u64 0, .int .u64 0] 56) = V13 from hV13.symm] at h13
    try rw [<- hV13] at hHeld
    rw [<- hbY, <- hV13];clear hV13 hbY;refine tkR 3 (.cons rfl (fun K hK => ?_) .nil);go_simp;go_at_call 91;refine (HV2.o _ h13.bl).mono ?_;rintro e V14 ⟨rfl, hb14⟩;have h14 := h13.later hb14;clear hb14;go_wp2_with fail;refine hK.out _ _ ?_ (fun hHeld => ?_)
    ·try dsimp only
     exact HKS.o _ h14.bl
    clear hK K
    try simp only [tkS]
    refine tkR 6 (.cons rfl (fun K hK => ?_) .nil);obtain ⟨_, d15⟩ := h14.x _ _ rfl;have c150 := d15.cell 0;have c151 := d15.cell 1;have f150 := d15.fr 0;have f151 := d15.fr 1;go_simp;have h15 := h14.storeX (t := S);clear d15 c150 c151 f150 f151;refine hK.out _ _ ?_ (fun hHeld => ?_)
    ·try dsimp only
     exact HKS.o _ h15.bl
    clear hK K
    try simp only [tkS]
    generalize (V14.setCell ⟨bX, 0, none⟩ (.int .u64 (S.a : Int))).setCell ⟨bX, 1, none⟩ (.int .u64 (S.b : Int)) = V15 at *;refine tkR 7 (.cons rfl (fun K hK => ?_) .nil);obtain ⟨_, d16⟩ := h15.y _ _ rfl;have c160 := d16.cell 0;have c161 := d16.cell 1;have f160 := d16.fr 0;have f161 := d16.fr 1;go_simp;have h16 := h15.storeY (t := T);clear d16 c160 c161 f160 f161;refine hK.out _ _ ?_ (fun hHeld => ?_)
    ·try dsimp only
     exact HKS.o _ h16.bl
    clear hK K
    try simp only [tkS]
    generalize (V15.setCell ⟨bY, 0, none⟩ (.int .u64 (T.a : Int))).setCell ⟨bY, 1, none⟩ (.int .u64 (T.b : Int)) = V16 at *;refine wpAnyH_done (by kernel_rfl) ?_ _;have HH := lh h16;obtain ⟨_, dx⟩ := h16.x _ _ rfl;obtain ⟨_, dy⟩ := h16.y _ _ rfl;have x0 := dx.cell 0;have x1 := dx.cell 1;have y0 := dy.cell 0;have y1 := dy.cell 1;have xz := dx.lt;have yz := dy.lt;have g1 := G1.o;have g2 := G2.o;clear dx dy;go_wp2;go_ret;exact ⟨by rw [HMB.o]; rfl, HB0.o.trans (HH.o.bl.mono HB0.o.size)⟩
   go_simp
   obtain ⟨bY, hbY⟩ : ∃ bY, bY = V11.heap.size := ⟨_, rfl⟩
   have h12 := h11.allocY (q := bY) hbY;refine hK.out _ _ ?_ (fun hHeld => ?_)
   ·try dsimp only
    exact HKS.o _ h12.bl
   clear hK K
   try simp only [tkS]
   obtain ⟨V12, hV12⟩ : ∃ V, V = V11.alloc (.cells #[.int .u64 0, .int .u64 0] 56) := ⟨_, rfl⟩
   rw [show V11.alloc (.cells #[.int .u64 0, .int .u64 0] 56) = V12 from hV12.symm] at h12
   try rw [<- hV12] at hHeld
   rw [<- hbY, <- hV12];clear hV12 hbY;refine tkR 1 (.cons rfl (fun K hK => ?_) .nil);go_simp;go_at_call 91;refine (HV1.o _ h12.bl).mono ?_;rintro e V13 ⟨rfl, hb13⟩;have h13 := h12.later hb13;clear hb13;go_wp2_with fail;refine hK.out _ _ ?_ (fun hHeld => ?_)
   ·try dsimp only
    exact HKS.o _ h13.bl
   clear hK K
   try simp only [tkS]
   refine tkR 3 (.cons rfl (fun K hK => ?_) .nil);go_simp;go_at_call 91;refine (HV2.o _ h13.bl).mono ?_;rintro e V14 ⟨rfl, hb14⟩;have h14 := h13.later hb14;clear hb14;go_wp2_with fail;refine hK.out _ _ ?_ (fun hHeld => ?_)
   ·try dsimp only
    exact HKS.o _ h14.bl
   clear hK K
   try simp only [tkS]
   refine tkR 6 (.cons rfl (fun K hK => ?_) .nil);obtain ⟨_, d15⟩ := h14.x _ _ rfl;have c150 := d15.cell 0;have c151 := d15.cell 1;have f150 := d15.fr 0;have f151 := d15.fr 1;go_simp;have h15 := h14.storeX (t := S);clear d15 c150 c151 f150 f151;refine hK.out _ _ ?_ (fun hHeld => ?_)
   ·try dsimp only
    exact HKS.o _ h15.bl
   clear hK K
   try simp only [tkS]
   generalize (V14.setCell ⟨bX, 0, none⟩ (.int .u64 (S.a : Int))).setCell ⟨bX, 1, none⟩ (.int .u64 (S.b : Int)) = V15 at *;refine tkR 7 (.cons rfl (fun K hK => ?_) .nil);obtain ⟨_, d16⟩ := h15.y _ _ rfl;have c160 := d16.cell 0;have c161 := d16.cell 1;have f160 := d16.fr 0;have f161 := d16.fr 1;go_simp;have h16 := h15.storeY (t := T);clear d16 c160 c161 f160 f161;refine hK.out _ _ ?_ (fun hHeld => ?_)
   ·try dsimp only
    exact HKS.o _ h16.bl
   clear hK K
   try simp only [tkS]
   generalize (V15.setCell ⟨bY, 0, none⟩ (.int .u64 (T.a : Int))).setCell ⟨bY, 1, none⟩ (.int .u64 (T.b : Int)) = V16 at *;refine wpAnyH_done (by kernel_rfl) ?_ _;have HH := lh h16;obtain ⟨_, dx⟩ := h16.x _ _ rfl;obtain ⟨_, dy⟩ := h16.y _ _ rfl;have x0 := dx.cell 0;have x1 := dx.cell 1;have y0 := dy.cell 0;have y1 := dy.cell 1;have xz := dx.lt;have yz := dy.lt;have g1 := G1.o;have g2 := G2.o;clear dx dy;go_wp2;go_ret;exact ⟨by rw [HMB.o]; rfl, HB0.o.trans (HH.o.bl.mono HB0.o.size)⟩
  go_simp
  obtain ⟨bY, hbY⟩ : ∃ bY, bY = w0.heap.size := ⟨_, rfl⟩
  have h11 := h10.allocY (q := bY) hbY;refine hK.out _ _ ?_ (fun hHeld => ?_)
  ·try dsimp only
   exact HKS.o _ h11.bl
  clear hK K
  try simp only [tkS]
  obtain ⟨V11, hV11⟩ : ∃ V, V = (w0.alloc (.cells #[.int .u64 0, .int .u64 0] 56)).drew := ⟨_, rfl⟩
  rw [show w0.drew.alloc (.cells #[.int .u64 0, .int .u64 0] 56) = V11 from hV11.symm] at h11
  try rw [<- hV11] at hHeld
  rw [<- hbY, <- hV11];clear hV11 hbY;refine wpAnyH_ready (rs := [1, 4]) (by kernel_rfl) (by simp) ?_;refine AllReadyH.cons rfl (fun K hK => ?_) (AllReadyH.cons rfl (fun K hK => ?_) AllReadyH.nil)
  ·go_simp;go_at_call 91;refine (HV1.o _ h11.bl).mono ?_;rintro e V12 ⟨rfl, hb12⟩;have h12 := h11.later hb12;clear hb12;go_wp2_with fail;refine hK.out _ _ ?_ (fun hHeld => ?_)
   ·try dsimp only
    exact HKS.o _ h12.bl
   clear hK K
   try simp only [tkS]
   refine wpAnyH_ready (rs := [3, 4]) (by kernel_rfl) (by simp) ?_;refine AllReadyH.cons rfl (fun K hK => ?_) (AllReadyH.cons rfl (fun K hK => ?_) AllReadyH.nil)
   ·go_simp;go_at_call 91;refine (HV2.o _ h12.bl).mono ?_;rintro e V13 ⟨rfl, hb13⟩;have h13 := h12.later hb13;clear hb13;go_wp2_with fail;refine hK.out _ _ ?_ (fun hHeld => ?_)
    ·try dsimp only
     exact HKS.o _ h13.bl
    clear hK K
    try simp only [tkS]
    refine tkR 4 (.cons rfl (fun K hK => ?_) .nil);go_simp
    obtain ⟨bX, hbX⟩ : ∃ bX, bX = V13.heap.size := ⟨_, rfl⟩
    have h14 := h13.allocX (q := bX) hbX;refine hK.out _ _ ?_ (fun hHeld => ?_)
    ·try dsimp only
     exact HKS.o _ h14.bl
    clear hK K
    try simp only [tkS]
    obtain ⟨V14, hV14⟩ : ∃ V, V = V13.alloc (.cells #[.int .u64 0, .int .u64 0] 56) := ⟨_, rfl⟩
    rw [show V13.alloc (.cells #[.int .u64 0, .int .u64 0] 56) = V14 from hV14.symm] at h14
    try rw [<- hV14] at hHeld
    rw [<- hbX, <- hV14];clear hV14 hbX;refine tkR 6 (.cons rfl (fun K hK => ?_) .nil);obtain ⟨_, d15⟩ := h14.x _ _ rfl;have c150 := d15.cell 0;have c151 := d15.cell 1;have f150 := d15.fr 0;have f151 := d15.fr 1;go_simp;have h15 := h14.storeX (t := S);clear d15 c150 c151 f150 f151;refine hK.out _ _ ?_ (fun hHeld => ?_)
    ·try dsimp only
     exact HKS.o _ h15.bl
    clear hK K
    try simp only [tkS]
    generalize (V14.setCell ⟨bX, 0, none⟩ (.int .u64 (S.a : Int))).setCell ⟨bX, 1, none⟩ (.int .u64 (S.b : Int)) = V15 at *;refine tkR 7 (.cons rfl (fun K hK => ?_) .nil);obtain ⟨_, d16⟩ := h15.y _ _ rfl;have c160 := d16.cell 0;have c161 := d16.cell 1;have f160 := d16.fr 0;have f161 := d16.fr 1;go_simp;have h16 := h15.storeY (t := T);clear d16 c160 c161 f160 f161;refine hK.out _ _ ?_ (fun hHeld => ?_)
    ·try dsimp only
     exact HKS.o _ h16.bl
    clear hK K
    try simp only [tkS]
    generalize (V15.setCell ⟨bY, 0, none⟩ (.int .u64 (T.a : Int))).setCell ⟨bY, 1, none⟩ (.int .u64 (T.b : Int)) = V16 at *;refine wpAnyH_done (by kernel_rfl) ?_ _;have HH := lh h16;obtain ⟨_, dx⟩ := h16.x _ _ rfl;obtain ⟨_, dy⟩ := h16.y _ _ rfl;have x0 := dx.cell 0;have x1 := dx.cell 1;have y0 := dy.cell 0;have y1 := dy.cell 1;have xz := dx.lt;have yz := dy.lt;have g1 := G1.o;have g2 := G2.o;clear dx dy;go_wp2;go_ret;exact ⟨by rw [HMB.o]; rfl, HB0.o.trans (HH.o.bl.mono HB0.o.size)⟩
   go_simp
   obtain ⟨bX, hbX⟩ : ∃ bX, bX = V12.heap.size := ⟨_, rfl⟩
   have h13 := h12.allocX (q := bX) hbX;refine hK.out _ _ ?_ (fun hHeld => ?_)
   ·try dsimp only
    exact HKS.o _ h13.bl
   clear hK K
   try simp only [tkS]
   obtain ⟨V13, hV13⟩ : ∃ V, V = V12.alloc (.cells #[.int .u64 0, .int .u64 0] 56) := ⟨_, rfl⟩
   rw [show V12.alloc (.cells #[.int .u64 0, .int .u64 0] 56) = V13 from hV13.symm] at h13
   try rw [<- hV13] at hHeld
   rw [<- hbX, <- hV13];clear hV13 hbX;refine tkR 3 (.cons rfl (fun K hK => ?_) .nil);go_simp;go_at_call 91;refine (HV2.o _ h13.bl).mono ?_;rintro e V14 ⟨rfl, hb14⟩;have h14 := h13.later hb14;clear hb14;go_wp2_with fail;refine hK.out _ _ ?_ (fun hHeld => ?_)
   ·try dsimp only
    exact HKS.o _ h14.bl
   clear hK K
   try simp only [tkS]
   refine tkR 6 (.cons rfl (fun K hK => ?_) .nil);obtain ⟨_, d15⟩ := h14.x _ _ rfl;have c150 := d15.cell 0;have c151 := d15.cell 1;have f150 := d15.fr 0;have f151 := d15.fr 1;go_simp;have h15 := h14.storeX (t := S);clear d15 c150 c151 f150 f151;refine hK.out _ _ ?_ (fun hHeld => ?_)
   ·try dsimp only
    exact HKS.o _ h15.bl
   clear hK K
   try simp only [tkS]
   generalize (V14.setCell ⟨bX, 0, none⟩ (.int .u64 (S.a : Int))).setCell ⟨bX, 1, none⟩ (.int .u64 (S.b : Int)) = V15 at *;refine tkR 7 (.cons rfl (fun K hK => ?_) .nil);obtain ⟨_, d16⟩ := h15.y _ _ rfl;have c160 := d16.cell 0;have c161 := d16.cell 1;have f160 := d16.fr 0;have f161 := d16.fr 1;go_simp;have h16 := h15.storeY (t := T);clear d16 c160 c161 f160 f161;refine hK.out _ _ ?_ (fun hHeld => ?_)
   ·try dsimp only
    exact HKS.o _ h16.bl
   clear hK K
   try simp only [tkS]
   generalize (V15.setCell ⟨bY, 0, none⟩ (.int .u64 (T.a : Int))).setCell ⟨bY, 1, none⟩ (.int .u64 (T.b : Int)) = V16 at *;refine wpAnyH_done (by kernel_rfl) ?_ _;have HH := lh h16;obtain ⟨_, dx⟩ := h16.x _ _ rfl;obtain ⟨_, dy⟩ := h16.y _ _ rfl;have x0 := dx.cell 0;have x1 := dx.cell 1;have y0 := dy.cell 0;have y1 := dy.cell 1;have xz := dx.lt;have yz := dy.lt;have g1 := G1.o;have g2 := G2.o;clear dx dy;go_wp2;go_ret;exact ⟨by rw [HMB.o]; rfl, HB0.o.trans (HH.o.bl.mono HB0.o.size)⟩
  go_simp
  obtain ⟨bX, hbX⟩ : ∃ bX, bX = V11.heap.size := ⟨_, rfl⟩
  have h12 := h11.allocX (q := bX) hbX;refine hK.out _ _ ?_ (fun hHeld => ?_)
  ·try dsimp only
   exact HKS.o _ h12.bl
  clear hK K
  try simp only [tkS]
  obtain ⟨V12, hV12⟩ : ∃ V, V = V11.alloc (.cells #[.int .u64 0, .int .u64 0] 56) := ⟨_, rfl⟩
  rw [show V11.alloc (.cells #[.int .u64 0, .int .u64 0] 56) = V12 from hV12.symm] at h12
  try rw [<- hV12] at hHeld
  rw [<- hbX, <- hV12];clear hV12 hbX;refine tkR 1 (.cons rfl (fun K hK => ?_) .nil);go_simp;go_at_call 91;refine (HV1.o _ h12.bl).mono ?_;rintro e V13 ⟨rfl, hb13⟩;have h13 := h12.later hb13;clear hb13;go_wp2_with fail;refine hK.out _ _ ?_ (fun hHeld => ?_)
  ·try dsimp only
   exact HKS.o _ h13.bl
  clear hK K
  try simp only [tkS]
  refine tkR 3 (.cons rfl (fun K hK => ?_) .nil);go_simp;go_at_call 91;refine (HV2.o _ h13.bl).mono ?_;rintro e V14 ⟨rfl, hb14⟩;have h14 := h13.later hb14;clear hb14;go_wp2_with fail;refine hK.out _ _ ?_ (fun hHeld => ?_)
  ·try dsimp only
   exact HKS.o _ h14.bl
  clear hK K
  try simp only [tkS]
  refine tkR 6 (.cons rfl (fun K hK => ?_) .nil);obtain ⟨_, d15⟩ := h14.x _ _ rfl;have c150 := d15.cell 0;have c151 := d15.cell 1;have f150 := d15.fr 0;have f151 := d15.fr 1;go_simp;have h15 := h14.storeX (t := S);clear d15 c150 c151 f150 f151;refine hK.out _ _ ?_ (fun hHeld => ?_)
  ·try dsimp only
   exact HKS.o _ h15.bl
  clear hK K
  try simp only [tkS]
  generalize (V14.setCell ⟨bX, 0, none⟩ (.int .u64 (S.a : Int))).setCell ⟨bX, 1, none⟩ (.int .u64 (S.b : Int)) = V15 at *;refine tkR 7 (.cons rfl (fun K hK => ?_) .nil);obtain ⟨_, d16⟩ := h15.y _ _ rfl;have c160 := d16.cell 0;have c161 := d16.cell 1;have f160 := d16.fr 0;have f161 := d16.fr 1;go_simp;have h16 := h15.storeY (t := T);clear d16 c160 c161 f160 f161;refine hK.out _ _ ?_ (fun hHeld => ?_)
  ·try dsimp only
   exact HKS.o _ h16.bl
  clear hK K
  try simp only [tkS]
  generalize (V15.setCell ⟨bY, 0, none⟩ (.int .u64 (T.a : Int))).setCell ⟨bY, 1, none⟩ (.int .u64 (T.b : Int)) = V16 at *;refine wpAnyH_done (by kernel_rfl) ?_ _;have HH := lh h16;obtain ⟨_, dx⟩ := h16.x _ _ rfl;obtain ⟨_, dy⟩ := h16.y _ _ rfl;have x0 := dx.cell 0;have x1 := dx.cell 1;have y0 := dy.cell 0;have y1 := dy.cell 1;have xz := dx.lt;have yz := dy.lt;have g1 := G1.o;have g2 := G2.o;clear dx dy;go_wp2;go_ret;exact ⟨by rw [HMB.o]; rfl, HB0.o.trans (HH.o.bl.mono HB0.o.size)⟩
end Go.Proofs.YtfmmhjphopikgaaGreatDoor
