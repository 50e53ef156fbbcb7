/- Part of the proofs that laws of censuslaw24 return true for every input, where the tables that the rows list are laid. Texts: Eo. -/
import Derived.Test.YtfmmhjphopikgaaGreatDoorYC1
import Derived.Test.YtfmmhjphopikgaaGreatDoorYC36
import Derived.Test.YtfmmhjphopikgaaGreatDoorYC10
import Derived.Deep.RegionHeld3
set_option maxHeartbeats 8000000
set_option maxRecDepth 100000
set_option linter.unusedSimpArgs false
set_option linter.unusedVariables false
namespace Go.Proofs.YtfmmhjphopikgaaGreatDoor
open Go.RowKit Cen
structure PfAt (p : Prf) (w : World) (ta na ca : Option Addr) : Prop where
 t : LsCells w ta p.t
 n : NdCells w na p.N
 c : CmCells w ca p.C
 cp : NdCap w na p.N
theorem PfAt.keep {p : Prf} {w w' : World} {ta na ca : Option Addr} (h : PfAt p w ta na ca) (hb : Below w.heap.size w w') : PfAt p w' ta na ca := ⟨h.t.keep hb, h.n.keep hb, h.c.keep hb, h.cp.keep h.n hb⟩
structure PfOk (p : Prf) : Prop where
 n : p.n <= 128
 t : tOk p.n p.t
 N : zdi ⟨p.n, p.N⟩ = true
 C : p.C.length = p.N.length
 cl : ∀ c ∈ p.C, c.tm.length <= 1073741824 /\ c.at'.length <= 1073741824
theorem PfOk.len {p : Prf} (h : PfOk p) : 1 <= p.N.length /\ p.N.length <= 65536 := by
 have := (zeg _).1 h.N;exact ⟨this.1.2.2.1, this.1.2.2.2⟩
def zu2 (n : Nat) (o : Option (List Cl)) (w : World) (e : Ending) (w' : World) : Prop :=
 ∃ (n' : Int) (a' : Option Addr) (m' c' : Nat) (er : Int), e = .returned (.tuple #[.agg #[.int .i64 n', .slice a' m' c'], .int .i64 er]) /\ Below w.heap.size w w' /\ (er == 0) = o.isSome /\
  ∀ r, o = some r -> n' = n /\ m' = r.length /\ LsIn (fun k => w.heap.size <= k) w' a' r
theorem zr5 (p : Prf) (hp : PfOk p) (a : Option Addr) (cap : Nat) (ta : Option Addr) (tc : Nat) (aa : Option Addr) (ac : Nat) (c : Clm) (w : World) (hl : c.tm.length <= 1073741824) (hl2 : c.at'.length <= 1073741824) (hx : LsCells w a p.t) (hy : IntCells w ta c.tm) (hz : IntCells w aa c.at') :
 Calls Tryz.prog 14 #[.agg #[.int .i64 p.n, .slice a p.t.length cap], .agg #[.slice ta c.tm.length tc, .slice aa c.at'.length ac]] w (zu2 p.n (resF p.n p.t c) w) := by
 cases hf : zbk p.n p.t.length c with
 | true =>
   refine (zuh p.n hp.n a cap p.t ta tc c.tm aa ac c.at' w hp.t hl hl2 hx hy hz hf).mono ?_;rintro e w' ⟨a', c', rfl, h1, h2⟩
   have hr : resF p.n p.t c = some (zab p.n (givT c.tm (pick p.t c.at'))) := by unfold resF; rw [if_pos hf]
   refine ⟨_, a', _, c', 0, rfl, h2, by rw [hr]; rfl, fun r e => ?_⟩;rw [hr] at e;simp only [Option.some.injEq] at e;subst e;exact ⟨rfl, rfl, h1⟩
 | false =>
   refine (zr6 p.n hp.n a cap p.t ta tc c.tm aa ac c.at' w hp.t hl hl2 hx hy hz hf).mono ?_;rintro e w' ⟨rfl, h2⟩
   have hr : resF p.n p.t c = none := by unfold resF; rw [hf]; rfl
   exact ⟨_, _, _, _, 1, rfl, h2, by rw [hr]; rfl, fun r e => by rw [hr] at e; simp at e⟩
structure TB (w0 V : World) (o : Option Nat) : Prop where
 bl : Below w0.heap.size w0 V
 x : ∀ b, o = some b -> w0.heap.size <= b /\ Blk V b #[.int .i64 0, .slice none 0 0] 24
theorem TB.later {w0 V V' : World} {o : Option Nat} (h : TB w0 V o) (hb : Below V.heap.size V V') : TB w0 V' o := ⟨h.bl.trans (hb.mono h.bl.size), fun b e => ⟨(h.x b e).1, (h.x b e).2.later hb⟩⟩
theorem TB.alloc {w0 V : World} {q : Nat} (h : TB w0 V none) (hq : q = V.heap.size) : TB w0 (V.alloc (.cells #[.int .i64 0, .slice none 0 0] 24)) (some q) := by
 subst hq;refine ⟨h.bl.alloc h.bl.size _, fun b e => ?_⟩;simp only [Option.some.injEq] at e;subst e;exact ⟨h.bl.size, Blk.new _ _ _⟩
theorem TB.lt {w0 V : World} {b : Nat} (h : TB w0 V (some b)) : b < V.heap.size := (h.x b rfl).2.lt
theorem TB.store {w0 V : World} {b : Nat} (h : TB w0 V (some b)) (u v : Value) : Below w0.heap.size w0 ((V.setCell ⟨b, 0, none⟩ u).setCell ⟨b, 1, none⟩ v) /\ Blk ((V.setCell ⟨b, 0, none⟩ u).setCell ⟨b, 1, none⟩ v) b #[u, v] 24 /\ Kp (fun y => y = b) V ((V.setCell ⟨b, 0, none⟩ u).setCell ⟨b, 1, none⟩ v) := by
 obtain ⟨h1, h2⟩ := h.x b rfl;exact ⟨(h.bl.setCell h1 _).setCell h1 _, (h2.set 0 _).set 1 _, Kp.trans (M := fun y => y = b) (Kp.setCell V ⟨b, 0, none⟩ _ rfl) (Kp.setCell _ ⟨b, 1, none⟩ _ rfl)⟩
def zu1 (n : Nat) (o : Option (List Cl)) (w : World) (e : Ending) (w' : World) : Prop :=
 ∃ (n' : Int) (a' : Option Addr) (m' c' : Nat), e = .returned (.tuple #[.agg #[.int .i64 n', .slice a' m' c'], .bool o.isSome]) /\ Below w.heap.size w w' /\
  ∀ r, o = some r -> n' = n /\ m' = r.length /\ LsIn (fun k => w.heap.size <= k) w' a' r
theorem ze0 (p : Prf) (hp : PfOk p) (ta : Option Addr) (tc : Nat) (na : Option Addr) (nc : Nat) (ca : Option Addr) (cc : Nat) (i : Int) (w : World) (hi0 : 0 <= i) (hi1 : i < p.N.length) (h : PfAt p w ta na ca) :
 Calls Tryz.prog 44 #[.agg #[.int .i64 p.n, .slice ta p.t.length tc, .int .i64 p.n, .slice na p.N.length nc, .slice ca p.C.length cc], .int .i64 i] w (zu1 p.n (p.res i) w) := by
 obtain ⟨j, rfl⟩ : ∃ j : Nat, i = (j : Int) := ⟨i.toNat, by omega⟩
 have hjc : j < p.C.length := by rw [hp.C]; omega
 obtain ⟨cb, off, ma, mc, aa, ac, hca, e0, e1, e2, e3⟩ := h.c j hjc;obtain ⟨g1, g2⟩ := hp.cl _ (by rw [List.getD_eq_getElem?_getD, List.getElem?_eq_getElem hjc]; exact List.getElem_mem hjc : p.C.getD j ⟨[], []⟩ ∈ p.C);have hri : p.res (j : Int) = resF p.n p.t (p.C.getD j ⟨[], []⟩) := rfl;have hnl := hp.len;rw [hri];generalize p.C.getD j ⟨[], []⟩ = c at *
 obtain ⟨w0, hw0⟩ : ∃ w0, w0 = (w.alloc (.cells #[.int .i64 p.n, .slice ta p.t.length tc, .int .i64 p.n, .slice na p.N.length nc, .slice ca p.C.length cc] 87)).alloc (.cells #[.int .i64 0, .slice none 0 0] 24) := ⟨_, rfl⟩
 have hb0 : Below w.heap.size w w0 := by rw [hw0]; exact ((Below.refl _ _).alloc (Nat.le_refl _) _).alloc (by simp) _
 have q0 : Blk w0 w.heap.size #[.int .i64 p.n, .slice ta p.t.length tc, .int .i64 p.n, .slice na p.N.length nc, .slice ca p.C.length cc] 87 := by rw [hw0]; exact (Blk.new w _ _).alloc _
 have q1 : Blk w0 (w.heap.size + 1) #[.int .i64 0, .slice none 0 0] 24 := by rw [hw0]; exact Blk.new' _ (by simp) _ _
 have HRS : Hid (∀ W, Below w0.heap.size w0 W -> Calls Tryz.prog 14 #[.agg #[.int .i64 p.n, .slice ta p.t.length tc], .agg #[.slice ma c.tm.length mc, .slice aa c.at'.length ac]] W (zu2 p.n (resF p.n p.t c) W)) := fun W hW =>
  zr5 p hp ta tc ma mc aa ac c W g1 g2 ((h.t.keep hb0).keep hW) ((e2.keep hb0).keep hW) ((e3.keep hb0).keep hW)
 have HB0 := lh hb0;have Q1 := lh q1;have k0 := q0.cell 0;have k1 := q0.cell 1;have k4 := q0.cell 4;have z0 := q0.lt;have z1 := q1.lt;have c0 := zaa hb0 e0;have c1 := zaa hb0 e1
 have hji : (j : Int) < (p.C.length : Int) := by omega
 have HKS : Hid (∀ w' : World, Below w0.heap.size w0 w' -> w'.cell? ⟨w.heap.size, 0, none⟩ = some (.int .i64 p.n) /\ w'.cell? ⟨w.heap.size, 1, none⟩ = some (.slice ta p.t.length tc) /\ w'.cell? ⟨w.heap.size, 4, none⟩ = some (.slice ca p.C.length cc) /\ w'.cell? ⟨cb, off + j * 2, none⟩ = some (.slice ma c.tm.length mc) /\ w'.cell? ⟨cb, off + j * 2 + 1, none⟩ = some (.slice aa c.at'.length ac)) :=
  fun w' h => ⟨zaa h k0, zaa h k1, zaa h k4, zaa h c0, zaa h c1⟩
 have HZ0 : Hid (w.heap.size + 1 < w0.heap.size) := z1;subst hca;generalize resF p.n p.t c = o at *;clear h hb0 q0 q1 e0 e1 e2 e3 g1 g2 hri hp;go_enter Tryz.func44, Tryz.ntmps44;go_wp2_with fail;rw [<- hw0];clear hw0
 have h10 : TB w0 w0.drew none := ⟨(Below.refl _ _).drew, fun b e => by simp at e⟩
 refine wp_region_held_drew (S := (fun w' => w'.cell? ⟨w.heap.size, 0, none⟩ = some (.int .i64 p.n) /\ w'.cell? ⟨w.heap.size, 1, none⟩ = some (.slice ta p.t.length tc) /\ w'.cell? ⟨w.heap.size, 4, none⟩ = some (.slice (some ⟨cb, off, none⟩) p.C.length cc) /\ w'.cell? ⟨cb, off + j * 2, none⟩ = some (.slice ma c.tm.length mc) /\ w'.cell? ⟨cb, off + j * 2 + 1, none⟩ = some (.slice aa c.at'.length ac))) (by kernel_rfl) ?_ (fun hHeld => ?_)
 ·try dsimp only
  exact HKS.o _ h10.bl
 refine tkV 0 9 rfl rfl ?_; try simp only [tkS]
 refine tkV 1 10 rfl rfl ?_; try simp only [tkS]
 refine tkV 2 11 rfl rfl ?_; try simp only [tkS]
 refine tkV 3 12 rfl rfl ?_; try simp only [tkS]
 refine tkV 4 13 rfl rfl ?_; try simp only [tkS]
 refine tkV 5 14 rfl rfl ?_; try simp only [tkS]
 refine tkV 6 15 rfl rfl ?_; try simp only [tkS]
 refine wpAnyH_ready (rs := [7, 11]) (by kernel_rfl) (by simp) ?_;refine AllReadyH.cons rfl (fun K hK => ?_) (AllReadyH.cons rfl (fun K hK => ?_) AllReadyH.nil)
 ·go_simp;go_at_call 14;refine (HRS.o _ h10.bl).mono ?_;rintro e V11 ⟨n', a', m', c', er, rfl, hb11, her, hls⟩;have h11 := h10.later hb11;have hsz : w0.drew.heap.size = w0.heap.size := rfl
  have hls := fun r e => let ⟨g1, g2, g3⟩ := hls r e; And.intro g1 (And.intro g2 (g3.mono (Y := fun k => w0.heap.size <= k) fun k _ hk => by omega))
  clear hsz;clear hb11;have HER := lh her;clear her;go_wp2_with fail;refine hK.out _ _ ?_ (fun hHeld => ?_)
  ·try dsimp only
   exact HKS.o _ h11.bl
  clear hK K
  try simp only [tkS]
  refine tkV 8 8 rfl rfl ?_; try simp only [tkS]
  refine tkV 9 17 rfl rfl ?_; try simp only [tkS]
  refine tkV 10 18 rfl rfl ?_; try simp only [tkS]
  refine tkR 11 (.cons rfl (fun K hK => ?_) .nil);go_simp
  obtain ⟨bX, hbX⟩ : ∃ bX, bX = V11.heap.size := ⟨_, rfl⟩
  have h12 := h11.alloc (q := bX) hbX;refine hK.out _ _ ?_ (fun hHeld => ?_)
  ·try dsimp only
   exact HKS.o _ h12.bl
  clear hK K
  try simp only [tkS]
  obtain ⟨V12, hV12⟩ : ∃ V, V = V11.alloc (.cells #[.int .i64 0, .slice none 0 0] 24) := ⟨_, rfl⟩
  rw [show V11.alloc (.cells #[.int .i64 0, .slice none 0 0] 24) = V12 from hV12.symm] at h12;rw [<- hbX, <- hV12]
  have hls := fun r e => let ⟨g1, g2, g3⟩ := hls r e; And.intro g1 (And.intro g2 ((g3.mono (Y := fun k => w0.heap.size <= k /\ k ≠ bX) fun k hk1 hk2 => ⟨hk2, by omega⟩).later (show Below V11.heap.size V11 V12 by rw [hV12]; exact (Below.refl _ _).alloc (Nat.le_refl _) _)))
  clear hV12 hbX;refine tkR 12 (.cons rfl (fun K hK => ?_) .nil);obtain ⟨_, d13⟩ := h12.x _ rfl;have c130 := d13.cell 0;have c131 := d13.cell 1;have f130 := d13.fr 0;have f131 := d13.fr 1;go_simp;obtain ⟨h13, hq13, hk13⟩ := h12.store (.int .i64 n') (.slice a' m' c');clear d13 c130 c131 f130 f131;refine hK.out _ _ ?_ (fun hHeld => ?_)
  ·try dsimp only
   exact HKS.o _ h13
  clear hK K
  try simp only [tkS]
  generalize (V12.setCell ⟨bX, 0, none⟩ (.int .i64 n')).setCell ⟨bX, 1, none⟩ (.slice a' m' c') = V13 at *
  refine tkV 13 7 rfl rfl ?_; try simp only [tkS]
  refine wpAnyH_done (by kernel_rfl) ?_ _;have HQ := lh h13;have her := HER.o;have x0 := hq13.cell 0;have x1 := hq13.cell 1;have hxz := hq13.lt
  have R1 := (Q1.o.later h13)
  have r0 := R1.cell 0;have r1 := R1.cell 1;have rf0 := R1.fr 0;have rf1 := R1.fr 1;have rz := R1.lt;have hkk : Kp (fun y => y = w.heap.size + 1) V13 ((V13.setCell ⟨w.heap.size + 1, 0, none⟩ (.int .i64 n')).setCell ⟨w.heap.size + 1, 1, none⟩ (.slice a' m' c')) := Kp.trans (M := fun y => y = w.heap.size + 1) (Kp.setCell V13 ⟨w.heap.size + 1, 0, none⟩ _ rfl) (Kp.setCell _ ⟨w.heap.size + 1, 1, none⟩ _ rfl)
  have HLS : Hid (∀ r, o = some r -> n' = p.n /\ m' = r.length /\ LsIn (fun k => w.heap.size <= k) ((V13.setCell ⟨w.heap.size + 1, 0, none⟩ (.int .i64 n')).setCell ⟨w.heap.size + 1, 1, none⟩ (.slice a' m' c')) a' r) := fun r e =>
   let ⟨g1, g2, g3⟩ := hls r e
   ⟨g1, g2, (((g3.mono (Y := fun k => w.heap.size + 1 < k /\ k ≠ bX) fun k _ hk2 => ⟨by have := HZ0.o; have := hk2.1; omega, hk2.2⟩).kept hk13 (fun k hk => hk.2)).kept hkk (fun k hk => by omega)).mono fun k _ hk => by omega⟩
  have HBB := lh ((((HB0.o.trans (h13.mono HB0.o.size)).setCell (Nat.le_succ _) (p := ⟨w.heap.size + 1, 0, none⟩) (.int .i64 n'))).setCell (Nat.le_succ _) (p := ⟨w.heap.size + 1, 1, none⟩) (.slice a' m' c'));clear hls hq13 R1 hkk;go_wp2;exact bodyPost_ret (v := .tuple #[.agg #[.int .i64 n', .slice a' m' c'], .bool o.isSome]) (by simp [results, Tryz.results44, go_sem, r0, r1, rz]) rfl ⟨n', a', m', c', rfl, HBB.o, HLS.o⟩
 go_simp
 obtain ⟨bX, hbX⟩ : ∃ bX, bX = w0.heap.size := ⟨_, rfl⟩
 have h11 := h10.alloc (q := bX) hbX;refine hK.out _ _ ?_ (fun hHeld => ?_)
 ·try dsimp only
  exact HKS.o _ h11.bl
 clear hK K
 try simp only [tkS]
 obtain ⟨V11, hV11⟩ : ∃ V, V = (w0.alloc (.cells #[.int .i64 0, .slice none 0 0] 24)).drew := ⟨_, rfl⟩
 rw [show w0.drew.alloc (.cells #[.int .i64 0, .slice none 0 0] 24) = V11 from hV11.symm] at h11;rw [<- hbX, <- hV11];clear hV11 hbX;refine tkR 7 (.cons rfl (fun K hK => ?_) .nil);go_simp;go_at_call 14;refine (HRS.o _ h11.bl).mono ?_;rintro e V12 ⟨n', a', m', c', er, rfl, hb12, her, hls⟩;have h12 := h11.later hb12;have hbw := h11.lt;have hbs := h11.bl.size
 have hls := fun r e => let ⟨g1, g2, g3⟩ := hls r e; And.intro g1 (And.intro g2 (g3.mono (Y := fun k => w0.heap.size <= k /\ k ≠ bX) fun k _ hk => ⟨by omega, by omega⟩))
 clear hbw hbs;clear hb12;have HER := lh her;clear her;go_wp2_with fail;refine hK.out _ _ ?_ (fun hHeld => ?_)
 ·try dsimp only
  exact HKS.o _ h12.bl
 clear hK K
 try simp only [tkS]
 refine tkV 8 8 rfl rfl ?_; try simp only [tkS]
 refine tkV 9 17 rfl rfl ?_; try simp only [tkS]
 refine tkV 10 18 rfl rfl ?_; try simp only [tkS]
 refine tkR 12 (.cons rfl (fun K hK => ?_) .nil);obtain ⟨_, d13⟩ := h12.x _ rfl;have c130 := d13.cell 0;have c131 := d13.cell 1;have f130 := d13.fr 0;have f131 := d13.fr 1;go_simp;obtain ⟨h13, hq13, hk13⟩ := h12.store (.int .i64 n') (.slice a' m' c');clear d13 c130 c131 f130 f131;refine hK.out _ _ ?_ (fun hHeld => ?_)
 ·try dsimp only
  exact HKS.o _ h13
 clear hK K
 try simp only [tkS]
 generalize (V12.setCell ⟨bX, 0, none⟩ (.int .i64 n')).setCell ⟨bX, 1, none⟩ (.slice a' m' c') = V13 at *
 refine tkV 13 7 rfl rfl ?_; try simp only [tkS]
 refine wpAnyH_done (by kernel_rfl) ?_ _;have HQ := lh h13;have her := HER.o;have x0 := hq13.cell 0;have x1 := hq13.cell 1;have hxz := hq13.lt
 have R1 := (Q1.o.later h13)
 have r0 := R1.cell 0;have r1 := R1.cell 1;have rf0 := R1.fr 0;have rf1 := R1.fr 1;have rz := R1.lt;have hkk : Kp (fun y => y = w.heap.size + 1) V13 ((V13.setCell ⟨w.heap.size + 1, 0, none⟩ (.int .i64 n')).setCell ⟨w.heap.size + 1, 1, none⟩ (.slice a' m' c')) := Kp.trans (M := fun y => y = w.heap.size + 1) (Kp.setCell V13 ⟨w.heap.size + 1, 0, none⟩ _ rfl) (Kp.setCell _ ⟨w.heap.size + 1, 1, none⟩ _ rfl)
 have HLS : Hid (∀ r, o = some r -> n' = p.n /\ m' = r.length /\ LsIn (fun k => w.heap.size <= k) ((V13.setCell ⟨w.heap.size + 1, 0, none⟩ (.int .i64 n')).setCell ⟨w.heap.size + 1, 1, none⟩ (.slice a' m' c')) a' r) := fun r e =>
  let ⟨g1, g2, g3⟩ := hls r e
  ⟨g1, g2, (((g3.mono (Y := fun k => w.heap.size + 1 < k /\ k ≠ bX) fun k _ hk2 => ⟨by have := HZ0.o; have := hk2.1; omega, hk2.2⟩).kept hk13 (fun k hk => hk.2)).kept hkk (fun k hk => by omega)).mono fun k _ hk => by omega⟩
 have HBB := lh ((((HB0.o.trans (h13.mono HB0.o.size)).setCell (Nat.le_succ _) (p := ⟨w.heap.size + 1, 0, none⟩) (.int .i64 n'))).setCell (Nat.le_succ _) (p := ⟨w.heap.size + 1, 1, none⟩) (.slice a' m' c'));clear hls hq13 R1 hkk;go_wp2;exact bodyPost_ret (v := .tuple #[.agg #[.int .i64 n', .slice a' m' c'], .bool o.isSome]) (by simp [results, Tryz.results44, go_sem, r0, r1, rz]) rfl ⟨n', a', m', c', rfl, HBB.o, HLS.o⟩
end Go.Proofs.YtfmmhjphopikgaaGreatDoor
