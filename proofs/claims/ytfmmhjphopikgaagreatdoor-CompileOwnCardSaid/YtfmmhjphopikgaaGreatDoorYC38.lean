/- Part of the proofs that laws of censuslaw24 return true for every input, where the tables that the rows list are laid. Texts: Ep. -/
import Derived.Test.YtfmmhjphopikgaaGreatDoorYC1
import Derived.Test.YtfmmhjphopikgaaGreatDoorYC37
import Derived.BigRegion
import Derived.BigQuiet
set_option maxHeartbeats 8000000
set_option maxRecDepth 100000
set_option linter.unusedSimpArgs false
set_option linter.unusedVariables false
namespace Go.Proofs.YtfmmhjphopikgaaGreatDoor
open Go.RowKit Cen
theorem tOk.norm {n : Nat} (hn : n <= 128) {t : List Cl} (h : tOk n t) : tOk n (zab n t) :=
 gL.ok hn (za2 hn h.rg).gc (Nat.le_trans (zbx n t) h.len)
structure FM (p : Prf) (ta : Option Addr) (tc : Nat) (na : Option Addr) (nc : Nat) (ca : Option Addr) (cc : Nat) (ins : List Int) (w : World) (s : FS) (wr : World) : Prop where
 hb : Below w.heap.size w wr
 b0 : Blk wr w.heap.size #[.int .i64 p.n, .slice ta p.t.length tc, .int .i64 p.n, .slice na p.N.length nc, .slice ca p.C.length cc] 87
 b1 : ∃ ra rc, Blk wr (w.heap.size + 1) #[.int .i64 p.n, .slice ra s.r.length rc] 24 /\ LsIn (fun k => k ≠ w.heap.size + 1 /\ k ≠ w.heap.size + 1 + 1) wr ra s.r
 us : OwnL bc 4 1 wr (w.heap.size + 1 + 1) (.slice (some ⟨w.heap.size + 1 + 1, 0, none⟩) ins.length ins.length) s.used
 ul : s.used.length = ins.length
 ok : tOk p.n s.r
theorem FM.later {p : Prf} {ta : Option Addr} {tc : Nat} {na : Option Addr} {nc : Nat} {ca : Option Addr} {cc : Nat} {ins : List Int} {w : World} {s : FS} {wr wr' : World} (h : FM p ta tc na nc ca cc ins w s wr) (hb : Below wr.heap.size wr wr') : FM p ta tc na nc ca cc ins w s wr' :=
 ⟨h.hb.trans (hb.mono h.hb.size), h.b0.later hb, let ⟨ra, rc, h1, h2⟩ := h.b1; ⟨ra, rc, h1.later hb, h2.later hb⟩, h.us.later hb, h.ul, h.ok⟩
theorem FM.again {p : Prf} {ta : Option Addr} {tc : Nat} {na : Option Addr} {nc : Nat} {ca : Option Addr} {cc : Nat} {ins : List Int} {w : World} {s : FS} {wr : World} (h : FM p ta tc na nc ca cc ins w s wr) (b : Bool) : FM p ta tc na nc ca cc ins w ⟨s.used, s.r, b⟩ wr := ⟨h.hb, h.b0, h.b1, h.us, h.ul, h.ok⟩
def IB (p : Prf) (ins : List Int) : Prop := ∀ i ∈ ins, 0 <= i /\ i < p.N.length
structure FA (p : Prf) (ta : Option Addr) (tc : Nat) (na : Option Addr) (nc : Nat) (ca : Option Addr) (cc : Nat) (ins : List Int) (w : World) (s : FS) (ab : Nat) (A : List Cl) (L : List Sl) (oa : Option Addr) (oc : Nat) (wr : World) : Prop where
 fm : FM p ta tc na nc ca cc ins w s wr
 bl : Blk wr ab #[.int .i64 p.n, .slice oa L.length oc] 24
 own : OwnS (fun k => k ≠ ab) wr (ab + 1) (.slice oa L.length oc) L
 xs : (L.map fun e => e.xs) = A
 lo : w.heap.size + 1 + 1 < ab
 rl : ∃ ra rc, Blk wr (w.heap.size + 1) #[.int .i64 p.n, .slice ra s.r.length rc] 24 /\ LsIn (fun k => k < ab /\ k ≠ w.heap.size + 1 /\ k ≠ w.heap.size + 1 + 1) wr ra s.r
theorem FA.later {p : Prf} {ta : Option Addr} {tc : Nat} {na : Option Addr} {nc : Nat} {ca : Option Addr} {cc : Nat} {ins : List Int} {w : World} {s : FS} {ab : Nat} {A : List Cl} {L : List Sl} {oa : Option Addr} {oc : Nat} {wr wr' : World} (h : FA p ta tc na nc ca cc ins w s ab A L oa oc wr) (hb : Below wr.heap.size wr wr') : FA p ta tc na nc ca cc ins w s ab A L oa oc wr' :=
 ⟨h.fm.later hb, h.bl.later hb, h.own.later hb, h.xs, h.lo, let ⟨ra, rc, h1, h2⟩ := h.rl; ⟨ra, rc, h1.later hb, h2.later hb⟩⟩
theorem FA.ls {p : Prf} {ta : Option Addr} {tc : Nat} {na : Option Addr} {nc : Nat} {ca : Option Addr} {cc : Nat} {ins : List Int} {w : World} {s : FS} {ab : Nat} {A : List Cl} {L : List Sl} {oa : Option Addr} {oc : Nat} {wr : World} (h : FA p ta tc na nc ca cc ins w s ab A L oa oc wr) : L.length = A.length /\ LsCells wr oa A := by
 have h1 := (h.own.ls fun k hk => by omega).2;rw [h.xs] at h1;exact ⟨by rw [<- h.xs, List.length_map], h1.ls⟩
theorem FA.push {p : Prf} {ta : Option Addr} {tc : Nat} {na : Option Addr} {nc : Nat} {ca : Option Addr} {cc : Nat} {ins : List Int} {w : World} {s : FS} {ab : Nat} {A : List Cl} {L : List Sl} {oa : Option Addr} {oc : Nat} {wr w3 : World} {g3 cap3 : Nat} {e : Sl} (h : FA p ta tc na nc ca cc ins w s ab A L oa oc wr)
 (he : IntIn (fun k => k ≠ ab /\ ¬ (Value.slice oa L.length oc).ownBlock = some k) wr e.a e.xs) (ho : OwnL sle 25 1 w3 (ab + 1) (.slice (some ⟨g3, 0, none⟩) (L.length + 1) cap3) (L ++ [e])) (hg : wr.grownBy w3 (Value.slice oa L.length oc).ownBlock) (hn : (Value.slice oa L.length oc).ownBlock = some g3 \/ wr.heap.size <= g3) :
 FA p ta tc na nc ca cc ins w s ab (A ++ [e.xs]) (L ++ [e]) (some ⟨g3, 0, none⟩) cap3 (w3.setCell ⟨ab, 1, none⟩ (.slice (some ⟨g3, 0, none⟩) (L.length + 1) cap3)) := by
 have hlo : ∀ k, (Value.slice oa L.length oc).ownBlock = some k -> ab + 1 <= k := fun k e => (World.ownsRow.lt h.own.own k e).1
 have hkg : Kp (fun k => (Value.slice oa L.length oc).ownBlock = some k) wr w3 := Kp.grown hg fun k h => h
 have hks : Kp (fun y => y = ab) w3 (w3.setCell ⟨ab, 1, none⟩ (.slice (some ⟨g3, 0, none⟩) (L.length + 1) cap3)) := Kp.setCell _ _ _ rfl;have hlow := h.lo;have hzs := h.bl.lt
 have hg3' : ab + 1 <= g3 := by
  rcases hn with h | h
  ·exact hlo _ h
  omega
 have hbb : Below w.heap.size w w3 := h.fm.hb.grown hg h.fm.hb.size (fun q hq => by have := hlo _ hq; omega);obtain ⟨rb, rcb, hrb, hrl⟩ := h.rl;have hrb2 := (hrb.kept hkg fun e => by have := hlo _ e; omega).kept hks (by omega)
 have hrl2 := (hrl.kept hkg fun k hk e => by have := hlo _ e; omega).kept hks fun k hk => by omega
 refine ⟨⟨hbb.setCell (show w.heap.size <= ab by omega) _, (h.fm.b0.kept hkg fun e => by have := hlo _ e; omega).kept hks (by omega), ⟨rb, rcb, hrb2, hrl2.mono fun k _ hk => hk.2⟩, (h.fm.us.kept hkg fun k hk e => by simp [Value.ownBlock] at hk; have := hlo _ e; omega).kept hks fun k hk => by simp [Value.ownBlock] at hk; omega, h.fm.ul, h.fm.ok⟩, ?_, ?_, ?_, h.lo, rb, rcb, hrb2, hrl2⟩
 ·have := (h.bl.kept hkg fun e => by have := hlo _ e; omega).set 1 (.slice (some ⟨g3, 0, none⟩) (L.length + 1) cap3);rw [List.length_append]; exact this
 ·exact (h.own.push he ho hg hn).kept hks (fun k hk => hk) (fun k hk => by simp [Value.ownBlock] at hk; omega)
 rw [List.map_append, h.xs]; rfl
def FJ (p : Prf) (ta : Option Addr) (tc : Nat) (na : Option Addr) (nc : Nat) (ca : Option Addr) (cc : Nat) (ins : List Int) (w : World) (s : FS) (ab : Nat) (A r : List Cl) (a' : Option Addr) (c' bX lo hi : Nat) (wj : World) (i : Value) : Prop :=
 ∃ (q : Nat) (A2 : List Cl) (L2 : List Sl) (oa2 : Option Addr) (oc2 : Nat), q <= r.length /\ i = .int .i64 (q : Int) /\ FA p ta tc na nc ca cc ins w s ab A2 L2 oa2 oc2 wj /\ A2 = zcg A (r.take q) /\ Blk wj bX #[.int .i64 p.n, .slice a' r.length c'] 24 /\ LsIn (fun k => lo <= k /\ k < hi) wj a' r /\
  (∀ kk, (Value.slice oa2 L2.length oc2).ownBlock = some kk -> kk < lo \/ hi <= kk) /\ hi <= wj.heap.size /\ A2.length <= A.length + q /\ ∀ c ∈ A2, c.length <= 128
theorem zj5 (A : List Cl) {r : List Cl} {q : Nat} (h : q < r.length) : zcg A (r.take (q + 1)) = if decide (r.getD q [] ≠ []) || !zea (zcg A (r.take q)) then zcg A (r.take q) ++ [r.getD q []] else zcg A (r.take q) := zfs _ _ [] h
theorem zh8 {p : Prf} {ins : List Int} {used : List Bool} {k : Nat} (h : p.fall ins used k = none) : ∀ m, k <= m -> p.fall ins used m = none
 | 0, hm => by have : k = 0 := by omega
               subst this; exact h
 | m + 1, hm => by
   by_cases e : k = m + 1
   ·subst e; exact h
   rw [zeb, zh8 h m (by omega)]; rfl
theorem zvi {p : Prf} (hp : PfOk p) {i : Int} {r : List Cl} (h : p.res i = some r) : tOk p.n r := by
 unfold Prf.res resF at h
 split at h
 ·rename_i hf
  simp only [Option.some.injEq] at h;subst h;exact tOk.norm hp.n (zig (zr1 hp.t hf hp.n))
 simp at h
theorem zl9 (p : Prf) (hp : PfOk p) (ta : Option Addr) (tc : Nat) (na : Option Addr) (nc : Nat) (ca : Option Addr) (cc : Nat) (n' : Int) (ra : Option Addr) (rc : Nat) (r : List Cl) (ia : Option Addr) (ic : Nat) (ins : List Int) (w : World)
 (hn' : n' = p.n) (hr : tOk p.n r) (hil : ins.length <= 8192) (hib : IB p ins) (h : PfAt p w ta na ca) (hrx : LsCells w ra r) (hix : IntCells w ia ins) :
 Calls Tryz.prog 89 #[.agg #[.int .i64 p.n, .slice ta p.t.length tc, .int .i64 p.n, .slice na p.N.length nc, .slice ca p.C.length cc], .agg #[.int .i64 n', .slice ra r.length rc], .slice ia ins.length ic] w
  fun e w' => e = .returned (.bool (p.fit r ins)) /\ Below w.heap.size w w' := by
 subst hn'
 obtain ⟨w0, hw0⟩ : ∃ w0, w0 = (w.alloc (.cells #[.int .i64 p.n, .slice ta p.t.length tc, .int .i64 p.n, .slice na p.N.length nc, .slice ca p.C.length cc] 87)).alloc (.cells #[.int .i64 p.n, .slice ra r.length rc] 24) := ⟨_, rfl⟩
 have hb0 : Below w.heap.size w w0 := by rw [hw0]; exact ((Below.refl _ _).alloc (Nat.le_refl _) _).alloc (by simp) _
 have q0 : Blk w0 w.heap.size #[.int .i64 p.n, .slice ta p.t.length tc, .int .i64 p.n, .slice na p.N.length nc, .slice ca p.C.length cc] 87 := by rw [hw0]; exact (Blk.new w _ _).alloc _
 have q1 : Blk w0 (w.heap.size + 1) #[.int .i64 p.n, .slice ra r.length rc] 24 := by rw [hw0]; exact Blk.new' _ (by simp) _ _
 have hs0 : w0.heap.size = w.heap.size + 1 + 1 := by rw [hw0]; simp
 have HB0 := lh hb0;have Q0 := lh q0;have Q1 := lh q1;have HS0 := lh hs0;have HP := lh hp;have HAT := lh h;have HRX := lh hrx;have HIX := lh hix;have HIB := lh hib;have HROK := lh hr;have HF : Hid (p.fit r ins = p.fend ins (p.floop ins (ins.length + 1) ⟨List.replicate ins.length false, r, true⟩)) := rfl;have hpn := hp.n;generalize p.fit r ins = R at *;clear hb0 q0 q1 hs0 hp h hrx hix hib hr;go_enter Tryz.func89, Tryz.ntmps89;go_wp2_with (at_make; refine mk zk0 rfl _ _ rfl (w.heap.size + 1 + 1) .i64 .i64 _ _ ins.length rfl rfl rfl rfl (by omega) (by unfold maxLen; omega) (by simp) bc false rfl ?_)
 intro w1 hown1 hg1;rw [<- hw0] at hg1
 have hb1 : Below w0.heap.size w0 w1 := Kp.toBelow (M := fun _ => False) (Kp.grown hg1 fun k h => by cases h) (Nat.le_refl _) fun k _ h => h
 have HIN : Hid (FM p ta tc na nc ca cc ins w ⟨List.replicate ins.length false, r, true⟩ w1) :=
  ⟨HB0.o.trans (hb1.mono HB0.o.size), Q0.o.later hb1, ⟨ra, rc, Q1.o.later hb1, (((LsIn.old HRX.o).later HB0.o).later hb1).mono fun k _ hk => ⟨by omega, by omega⟩⟩, hown1, by simp, HROK.o⟩
 clear hown1 hg1 hw0 hb1;go_wp2_with fail
 go_loopg [8] (ins.length + 1) (fun f again wr => ∃ s : FS, again = .bool s.again /\ FM p ta tc na nc ca cc ins w s wr /\ (s.again = true -> zhc s.used < f /\ p.floop ins (ins.length + 1) ⟨List.replicate ins.length false, r, true⟩ = p.floop ins f s) /\ (s.again = false -> p.floop ins (ins.length + 1) ⟨List.replicate ins.length false, r, true⟩ = s))
 case atStart => exact ⟨_, rfl, HIN.o, fun _ => ⟨Nat.lt_succ_of_le (by unfold zhc; exact Nat.le_trans List.countP_le_length (by simp)), rfl⟩, fun h => by simp at h⟩
 obtain ⟨s, rfl, hfm, hr1, hr2⟩ := hrel;have HFM := lh hfm;have HR1 := lh hr1;have HR2 := lh hr2;clear hfm hr1 hr2
 cases hag : s.again with
 | true =>
   obtain ⟨hop, hfl⟩ := HR1.o hag
   obtain ⟨f, rfl⟩ : ∃ f, gk = f + 1 := ⟨gk - 1, by omega⟩
   have HOP := lh hop;have HFL := lh hfl;clear hop hfl hag HR1 HR2;go_wp2_with fail
   go_loopw [8, 9] (fun again i wi => ∃ k : Nat, k <= ins.length /\ i = .int .i64 k /\ again = .bool (p.fpass ins k s).again /\ FM p ta tc na nc ca cc ins w (p.fpass ins k s) wi) (fun _ i _ => ins.length - (intOf i).toNat)
   case atStart => exact ⟨0, Nat.zero_le _, rfl, rfl, HFM.o.again false⟩
   obtain ⟨k, hk, rfl, rfl, hfm⟩ := hrel
   rename World => wi
   by_cases hlt : k < ins.length
   ·have hij := HIB.o _ (zbd hlt);obtain ⟨b2, off2, hae, e0⟩ := (HIX.o.keep hfm.hb) k hlt;have HSC := lh (zdm p ins k s)
    have HST : Hid (∀ s' : FS, p.fstep ins s' k = if p.cond ins s' k then ⟨s'.used.set k true, zab p.n (givT [(nd p.N (ins.getD k 0)).lit] s'.r), true⟩ else s') := fun _ => rfl
    have HCO : Hid (∀ s' : FS, p.cond ins s' k = ((!s'.used.getD k true) && (decide ((nd p.N (ins.getD k 0)).kind = 2) && hasU s'.r (nd p.N (ins.getD k 0)).lit))) := fun _ => rfl
    generalize ins.getD k 0 = x at *
    obtain ⟨j, rfl⟩ : ∃ j : Nat, x = (j : Int) := ⟨x.toNat, by omega⟩
    have hjl : j < p.N.length := by omega
    obtain ⟨nb, noff, hne, d0, d1, xa, xc, d2, hxi, hxl⟩ := (HAT.o.n.keep hfm.hb) j hjl;have hnd : nd p.N (j : Int) = p.N.getD j default := rfl;rw [hnd] at HST HCO
    have hlok : (p.N.getD j default).kind = 2 -> litN p.n (p.N.getD j default).lit := fun hk2 => by
     have h1 := ((zeg _).1 HP.o.N).2 j hjl;unfold ndOk zcr at h1;simp only [Bool.and_eq_true] at h1;rw [if_neg (by rw [hk2]; decide), if_pos hk2] at h1;simp only [Bool.and_eq_true] at h1;exact (zc2 hpn).1 h1.2.1
    generalize p.N.getD j default = y at *
    obtain ⟨s', hs'⟩ : ∃ s', s' = p.fpass ins k s := ⟨_, rfl⟩
    rw [<- hs'] at hfm HSC ⊢;obtain ⟨ra2, rc2, g1, g2⟩ := hfm.b1;have G2 := lh g2;have k3 := hfm.b0.cell 3;have u00 := hfm.us.cell hfm.ul.symm (fun _ => rfl) k 0 (by rw [hfm.ul]; exact hlt) (by omega)
    have huf : s'.used.getD k true = s'.used[k]'(by rw [hfm.ul]; exact hlt) := by rw [List.getD_eq_getElem?_getD, List.getElem?_eq_getElem (by rw [hfm.ul]; exact hlt)]; rfl
    have u0 : wi.cell? ⟨w.heap.size + 1 + 1, k, none⟩ = some (.bool (s'.used.getD k true)) := by rw [huf]; simpa [bc] using u00
    have z0 := hfm.b0.lt;have z1 := g1.lt;have m0 := g1.cell 0;have m1 := g1.cell 1;have zb2 : b2 < wi.heap.size := zak e0;have znb : nb < wi.heap.size := zak d0
    have hki : (k : Int) < (ins.length : Int) := by omega
    have hji : (j : Int) < (p.N.length : Int) := by omega
    have hnl : p.N.length <= 65536 := HP.o.len.2;have HFX := lh hfm;have HS' := lh hs';have HXI := lh hxi;have HLK := lh hlok;subst hae hne;clear u00 huf;clear hfm hs' hij hnd hxi g1 g2 hlok;go_wp2_with fail;go_region
    obtain ⟨V, hV⟩ : ∃ V, V = (wi.alloc (.cells #[.int .i64 y.kind, .int .i64 y.lit, .slice xa y.ins.length xc] 48)).drew := ⟨_, rfl⟩
    obtain ⟨bx, hbx⟩ : ∃ bx, bx = wi.heap.size := ⟨_, rfl⟩
    have hbv : Below wi.heap.size wi V := by rw [hV]; exact ((Below.refl _ _).alloc (Nat.le_refl _) _).drew
    have hxv : Blk V bx #[.int .i64 y.kind, .int .i64 y.lit, .slice xa y.ins.length xc] 48 := by rw [hV, hbx]; exact Blk.new _ _ _
    rw [<- hV, <- hbx];have HFV := lh (HFX.o.later hbv);have HXV := lh hxv;have x0 := hxv.cell 0;have x1 := hxv.cell 1;have xz := hxv.lt;have u1 := zaa hbv u0;have m2 := zaa hbv m0;have m3 := zaa hbv m1;have y0 : w.heap.size < V.heap.size := Nat.lt_of_lt_of_le z0 hbv.size;have y1 : w.heap.size + 1 < V.heap.size := Nat.lt_of_lt_of_le z1 hbv.size;have GV := lh (G2.o.later hbv);clear hV hbx hbv hxv u0 m0 m1 z0 z1 e0 d0 d1 d2 k3 zb2 znb
    have hul : (p.fpass ins k s).used.length = ins.length := by rw [<- HS'.out]; exact HFV.o.ul
    cases hu : s'.used.getD k true with
    | true =>
      have HE : Hid (p.fpass ins (k + 1) s = s') := by show _ = _; rw [HSC.o, HST.o, HCO.o, hu]; rfl
      rw [hu] at u1;clear hu;go_wp2;go_roundw
      case rel => exact ⟨k + 1, by omega, by go_num, by rw [HE.o], by rw [HE.o]; exact HFV.o⟩
      case measure => simp [intOf]; omega
    | false =>
      rw [hu] at u1
      by_cases hk2 : y.kind = 2
      ·have hlit := HLK.o hk2;have HHAS := lh (zmf p.n ra2 rc2 s'.r y.lit V (by have := HFV.o.ok.len; omega) (fun c hc => by have := (HFV.o.ok.cl c hc).1; omega) GV.o.ls)
       have hkd : (y.kind == 2) = true := by simpa using hk2
       have HLIT := lh hlit
       cases hh : hasU s'.r y.lit with
       | false =>
         have HE : Hid (p.fpass ins (k + 1) s = s') := by show _ = _; rw [HSC.o, HST.o, HCO.o, hu, hh]; simp
         rw [hh] at HHAS;clear hu hh hlit hk2;go_wp2_with fail;refine HHAS.o.mono ?_;rintro e w3 ⟨rfl, hb3⟩;have HF3 := lh (HFV.o.later hb3);clear hb3;go_wp2;go_roundw
         case rel => exact ⟨k + 1, by omega, by go_num, by rw [HE.o], by rw [HE.o]; exact HF3.o⟩
         case measure => simp [intOf]; omega
       | true =>
         have HE : Hid (p.fpass ins (k + 1) s = ⟨s'.used.set k true, zab p.n (givT [y.lit] s'.r), true⟩) := by
          show _ = _; rw [HSC.o, HST.o, HCO.o, hu, hh, hk2]; rfl
         rw [hh] at HHAS;clear hu hh hlit hk2;go_wp2_with fail;refine HHAS.o.mono ?_;rintro e w3 ⟨rfl, hb3⟩;have HF3 := lh (HFV.o.later hb3);have HX3 := lh (HXV.o.later hb3);have HGV := lh (zfa p.n hpn ra2 rc2 s'.r y.lit w3 HF3.o.ok HLIT.o (GV.o.later hb3).ls);have n0 := zaa hb3 m2;have n1 := zaa hb3 m3;have j1 := HX3.o.cell 1;have jz := HX3.o.lt;have v0 : w.heap.size < w3.heap.size := Nat.lt_of_lt_of_le y0 hb3.size;have v1 : w.heap.size + 1 < w3.heap.size := Nat.lt_of_lt_of_le y1 hb3.size;have u2 := zaa hb3 u1;clear hb3 x0 x1 xz u1 m2 m3 y0 y1;go_wp2_with fail;refine HGV.o.mono ?_;rintro e w5 ⟨ga, gc, rfl, hgl, hb5⟩
         have HF5 := lh (HF3.o.later hb5);obtain ⟨ra5, rc5, g5, g6⟩ := HF5.o.b1;have q0' := g5.cell 0;have q1' := g5.cell 1;have qf0 := g5.fr 0;have qf1 := g5.fr 1;have qz := g5.lt;have u5 := zaa hb5 u2;have uf5 := HF5.o.us.fr HF5.o.ul.symm k;have uz : w.heap.size + 1 + 1 < w5.heap.size := HF5.o.us.lt.1;have hw3 : w.heap.size + 1 + 1 < w3.heap.size := HF3.o.us.lt.1;have hk6 : Kp (fun y => y = w.heap.size + 1) w5 ((w5.setCell ⟨w.heap.size + 1, 0, none⟩ (.int .i64 p.n)).setCell ⟨w.heap.size + 1, 1, none⟩ (.slice ga (zab p.n (givT [y.lit] s'.r)).length gc)) := Kp.trans (M := fun y => y = w.heap.size + 1) (Kp.setCell w5 ⟨w.heap.size + 1, 0, none⟩ _ rfl) (Kp.setCell _ ⟨w.heap.size + 1, 1, none⟩ _ rfl)
         have hus := (HF5.o.us.kept hk6 fun k hk => by simp [Value.ownBlock] at hk; omega).put1 HF5.o.ul.symm (fun _ => rfl) k (by rw [HF5.o.ul]; exact hlt) true (.bool true) rfl;have hk7 : Kp (fun y => y = w.heap.size + 1 + 1) ((w5.setCell ⟨w.heap.size + 1, 0, none⟩ (.int .i64 p.n)).setCell ⟨w.heap.size + 1, 1, none⟩ (.slice ga (zab p.n (givT [y.lit] s'.r)).length gc)) (((w5.setCell ⟨w.heap.size + 1, 0, none⟩ (.int .i64 p.n)).setCell ⟨w.heap.size + 1, 1, none⟩ (.slice ga (zab p.n (givT [y.lit] s'.r)).length gc)).setCell ⟨w.heap.size + 1 + 1, k, none⟩ (.bool true)) := Kp.setCell _ ⟨w.heap.size + 1 + 1, k, none⟩ _ rfl
         have HFN : Hid (FM p ta tc (some ⟨nb, noff, none⟩) nc ca cc ins w ⟨s'.used.set k true, zab p.n (givT [y.lit] s'.r), true⟩ (((w5.setCell ⟨w.heap.size + 1, 0, none⟩ (.int .i64 p.n)).setCell ⟨w.heap.size + 1, 1, none⟩ (.slice ga (zab p.n (givT [y.lit] s'.r)).length gc)).setCell ⟨w.heap.size + 1 + 1, k, none⟩ (.bool true))) :=
          ⟨((HF5.o.hb.setCell (Nat.le_succ _) _).setCell (Nat.le_succ _) _).setCell (show w.heap.size <= w.heap.size + 1 + 1 by omega) _, (HF5.o.b0.kept hk6 (by omega)).kept hk7 (by omega),
            ⟨ga, gc, ((g5.set 0 _).set 1 _).kept hk7 (by omega), (((hgl.mono (Y := fun k => k ≠ w.heap.size + 1 /\ k ≠ w.heap.size + 1 + 1) fun k _ hk => ⟨by omega, by omega⟩).kept hk6 fun k hk => hk.1).kept hk7 fun k hk => hk.2)⟩, hus, by rw [List.length_set]; exact HF5.o.ul, tOk.norm hpn (zig HF5.o.ok)⟩
         clear hgl hb5 g5 g6 hk6 hk7 hus n0 n1 j1 jz v0 v1 u2 hw3;go_wp2;go_roundw
         case rel => exact ⟨k + 1, by omega, by go_num, by rw [HE.o], by rw [HE.o]; exact HFN.o⟩
         case measure => simp [intOf]; omega
      have HE : Hid (p.fpass ins (k + 1) s = s') := by show _ = _; rw [HSC.o, HST.o, HCO.o, decide_eq_false hk2]; simp
      have hkd : (y.kind == 2) = false := by simpa using hk2
      clear hu hk2;go_wp2;go_roundw
      case rel => exact ⟨k + 1, by omega, by go_num, by rw [HE.o], by rw [HE.o]; exact HFV.o⟩
      case measure => simp [intOf]; omega
   have hke : k = ins.length := by omega
   subst hke;have HFM2 := lh hfm;have hop2 := zgf p ins s ins.length;have HFP : Hid (p.floop ins (f + 1) s = if (p.fpass ins ins.length s).again then p.floop ins f (p.fpass ins ins.length s) else p.fpass ins ins.length s) := rfl
   have HNX : Hid (∃ s2 : FS, Value.bool (p.fpass ins ins.length s).again = .bool s2.again /\ FM p ta tc na nc ca cc ins w s2 wi /\ (s2.again = true -> zhc s2.used < f /\ p.floop ins (ins.length + 1) ⟨List.replicate ins.length false, r, true⟩ = p.floop ins f s2) /\ (s2.again = false -> p.floop ins (ins.length + 1) ⟨List.replicate ins.length false, r, true⟩ = s2)) := by
    refine ⟨_, rfl, HFM2.o, fun ha => ⟨?_, ?_⟩, fun ha => ?_⟩
    ·have := HOP.o;rw [ha] at hop2;simp at hop2;omega
    ·rw [HFL.o, HFP.o, ha]; rfl
    rw [HFL.o, HFP.o, ha]; rfl
   generalize (p.fpass ins ins.length s).again = ag at *;clear hfm hop2;go_wp2;go_roundg f
   case measure => omega
   case rel => exact HNX.o
 | false =>
   have HR := lh (HR2.o hag);clear HR1 HR2 hag;rw [HR.o] at HF;have k0 := HFM.o.b0.cell 0;have z0 := HFM.o.b0.lt
   obtain ⟨ab, hab⟩ : ∃ ab, ab = wr.heap.size := ⟨_, rfl⟩
   have hbn : Below wr.heap.size wr (wr.alloc (.cells #[.int .i64 p.n, .slice none 0 0] 24)) := (Below.refl _ _).alloc (Nat.le_refl _) _
   have HIN2 : Hid (∃ (k : Nat) (A : List Cl) (L : List Sl) (oa : Option Addr) (oc : Nat), k <= ins.length /\ Value.int .i64 0 = .int .i64 (k : Int) /\ FA p ta tc na nc ca cc ins w s ab A L oa oc (wr.alloc (.cells #[.int .i64 p.n, .slice none 0 0] 24)) /\ p.fall ins s.used k = some A /\ A.length <= k * 4096 /\ ∀ c ∈ A, c.length <= 128) :=
    ⟨0, [], [], none, 0, Nat.zero_le _, rfl, ⟨HFM.o.later hbn, by rw [hab]; exact Blk.new _ _ _, OwnS.nil _ _ _, rfl, by rw [hab]; exact HFM.o.us.lt.1, let ⟨ra, rc, h1, h2⟩ := HFM.o.b1; ⟨ra, rc, h1.later hbn, (h2.mono fun k hk h => ⟨by omega, h.1, h.2⟩).later hbn⟩⟩, rfl, by simp, fun c h => by simp at h⟩
   go_wp2_with fail;rw [<- hab];clear hab hbn
   go_loopw [12] (fun i wi => ∃ (k : Nat) (A : List Cl) (L : List Sl) (oa : Option Addr) (oc : Nat), k <= ins.length /\ i = .int .i64 (k : Int) /\ FA p ta tc na nc ca cc ins w s ab A L oa oc wi /\ p.fall ins s.used k = some A /\ A.length <= k * 4096 /\ ∀ c ∈ A, c.length <= 128) (fun i _ => ins.length - (intOf i).toNat)
   case atStart => exact HIN2.o
   obtain ⟨k, A, L, oa, oc, hk, rfl, hfa, hfall, hAl, hA128⟩ := hrel
   rename World => wi
   have HFA := lh hfa;have HFALL := lh hfall;have HAL := lh hAl;have HA8 := lh hA128;clear hfa hfall hAl hA128 k0 z0
   by_cases hlt : k < ins.length
   ·have hij := HIB.o _ (zbd hlt);obtain ⟨b2, off2, hae, e0⟩ := (HIX.o.keep HFA.o.fm.hb) k hlt;have HSU := lh (zeb p ins s.used k)
    have HONE : Hid (∀ all, p.fone ins s.used all k = if s.used.getD k true then some all else match p.res (ins.getD k 0) with | none => none | some x => if decide ((nd p.N (ins.getD k 0)).kind = 2) || zd6 p.n all x then none else some (zcg all x)) := fun _ => rfl
    have u00 := HFA.o.fm.us.cell HFA.o.fm.ul.symm (fun _ => rfl) k 0 (by rw [HFA.o.fm.ul]; exact hlt) (by omega)
    have huf : s.used.getD k true = s.used[k]'(by rw [HFA.o.fm.ul]; exact hlt) := by rw [List.getD_eq_getElem?_getD, List.getElem?_eq_getElem (by rw [HFA.o.fm.ul]; exact hlt)]; rfl
    have u0 : wi.cell? ⟨w.heap.size + 1 + 1, k, none⟩ = some (.bool (s.used.getD k true)) := by rw [huf]; simpa [bc] using u00
    have hki : (k : Int) < (ins.length : Int) := by omega
    clear u00 huf
    cases hu : s.used.getD k true with
    | true =>
      have HE : Hid (p.fall ins s.used (k + 1) = some A) := by show _ = _; rw [HSU.o, HFALL.o]; show p.fone ins s.used A k = _; rw [HONE.o, hu]; rfl
      rw [hu] at u0;clear hu;go_wp2;go_roundw
      case rel => exact ⟨k + 1, A, L, oa, oc, by omega, by go_num, HFA.o, HE.o, by have := HAL.o; omega, HA8.o⟩
      case measure => simp [intOf]; omega
    | false =>
      have HE1 : Hid (p.fall ins s.used (k + 1) = match p.res (ins.getD k 0) with | none => none | some x => if decide ((nd p.N (ins.getD k 0)).kind = 2) || zd6 p.n A x then none else some (zcg A x)) := by
       show _ = _; rw [HSU.o, HFALL.o]; show p.fone ins s.used A k = _; rw [HONE.o, hu]; rfl
      rw [hu] at u0;generalize ins.getD k 0 = x at *
      obtain ⟨j, rfl⟩ : ∃ j : Nat, x = (j : Int) := ⟨x.toNat, by omega⟩
      have hjl : j < p.N.length := by omega
      have HRD := lh (fun W (hW : Below wi.heap.size wi W) => ze0 p HP.o ta tc na nc ca cc (j : Int) W (by omega) (by omega) ((HAT.o.keep HFA.o.fm.hb).keep hW))
      have HRO : Hid (∀ r, p.res (j : Int) = some r -> tOk p.n r) := fun r e => zvi HP.o e
      have k0 := HFA.o.fm.b0.cell 0;have k1 := HFA.o.fm.b0.cell 1;have k2 := HFA.o.fm.b0.cell 2;have k3 := HFA.o.fm.b0.cell 3;have k4 := HFA.o.fm.b0.cell 4;have z0 := HFA.o.fm.b0.lt;have zb2 : b2 < wi.heap.size := zak e0
      have HKS : Hid (∀ w' : World, Below wi.heap.size wi w' -> w'.cell? ⟨w.heap.size, 0, none⟩ = some (.int .i64 p.n) /\ w'.cell? ⟨w.heap.size, 1, none⟩ = some (.slice ta p.t.length tc) /\ w'.cell? ⟨w.heap.size, 2, none⟩ = some (.int .i64 p.n) /\ w'.cell? ⟨w.heap.size, 3, none⟩ = some (.slice na p.N.length nc) /\ w'.cell? ⟨w.heap.size, 4, none⟩ = some (.slice ca p.C.length cc) /\ w'.cell? ⟨b2, off2 + k, none⟩ = some (.int .i64 (j : Int))) :=
       fun w' h => ⟨zaa h k0, zaa h k1, zaa h k2, zaa h k3, zaa h k4, zaa h e0⟩
      subst hae
      have HHO : Hid (∃ o, o = p.res (j : Int)) := ⟨_, rfl⟩
      generalize p.res (j : Int) = o at *;clear hu hij;go_wp2_with fail
      have h10 : TB wi wi.drew none := ⟨(Below.refl _ _).drew, fun b e => by simp at e⟩
      refine wp_region_held_drew (S := (fun w' => w'.cell? ⟨w.heap.size, 0, none⟩ = some (.int .i64 p.n) /\ w'.cell? ⟨w.heap.size, 1, none⟩ = some (.slice ta p.t.length tc) /\ w'.cell? ⟨w.heap.size, 2, none⟩ = some (.int .i64 p.n) /\ w'.cell? ⟨w.heap.size, 3, none⟩ = some (.slice na p.N.length nc) /\ w'.cell? ⟨w.heap.size, 4, none⟩ = some (.slice ca p.C.length cc) /\ w'.cell? ⟨b2, off2 + k, none⟩ = some (.int .i64 (j : Int)))) (by kernel_rfl) ?_ (fun hHeld => ?_)
      ·try dsimp only
       exact HKS.o _ h10.bl
      refine tkV 0 75 rfl rfl ?_; try simp only [tkS]
      refine tkV 1 76 rfl rfl ?_; try simp only [tkS]
      refine tkV 2 77 rfl rfl ?_; try simp only [tkS]
      refine tkV 3 78 rfl rfl ?_; try simp only [tkS]
      refine tkV 4 79 rfl rfl ?_; try simp only [tkS]
      refine wpAnyH_ready (rs := [5, 9]) (by kernel_rfl) (by simp) ?_;refine AllReadyH.cons rfl (fun K hK => ?_) (AllReadyH.cons rfl (fun K hK => ?_) AllReadyH.nil)
      ·go_simp;go_at_call 44;refine (HRD.o _ h10.bl).mono ?_;rintro e V11 ⟨n', a', m', c', rfl, hb11, hls⟩;have h11 := h10.later hb11;have hsz : wi.drew.heap.size = wi.heap.size := rfl
       have hls := fun r e => let ⟨g1, g2, g3⟩ := hls r e; And.intro g1 (And.intro g2 (g3.mono (Y := fun k => wi.heap.size <= k) fun k _ hk => by omega))
       clear hsz;clear hb11;go_wp2_with fail;refine hK.out _ _ ?_ (fun hHeld => ?_)
       ·try dsimp only
        exact HKS.o _ h11.bl
       clear hK K
       try simp only [tkS]
       refine tkV 6 74 rfl rfl ?_; try simp only [tkS]
       refine tkV 7 81 rfl rfl ?_; try simp only [tkS]
       refine tkV 8 82 rfl rfl ?_; try simp only [tkS]
       refine tkR 9 (.cons rfl (fun K hK => ?_) .nil);go_simp
       obtain ⟨bX, hbX⟩ : ∃ bX, bX = V11.heap.size := ⟨_, rfl⟩
       have h12 := h11.alloc (q := bX) hbX;refine hK.out _ _ ?_ (fun hHeld => ?_)
       ·try dsimp only
        exact HKS.o _ h12.bl
       clear hK K
       try simp only [tkS]
       obtain ⟨V12, hV12⟩ : ∃ V, V = V11.alloc (.cells #[.int .i64 0, .slice none 0 0] 24) := ⟨_, rfl⟩
       rw [show V11.alloc (.cells #[.int .i64 0, .slice none 0 0] 24) = V12 from hV12.symm] at h12;rw [<- hbX, <- hV12]
       have hls := fun r e => let ⟨g1, g2, g3⟩ := hls r e; And.intro g1 (And.intro g2 ((g3.mono (Y := fun k => wi.heap.size <= k /\ k ≠ bX) fun k hk1 hk2 => ⟨hk2, by omega⟩).later (show Below V11.heap.size V11 V12 by rw [hV12]; exact (Below.refl _ _).alloc (Nat.le_refl _) _)))
       clear hV12 hbX;refine tkR 10 (.cons rfl (fun K hK => ?_) .nil);obtain ⟨_, d13⟩ := h12.x _ rfl;have c130 := d13.cell 0;have c131 := d13.cell 1;have f130 := d13.fr 0;have f131 := d13.fr 1;go_simp;have hbx := (h12.x _ rfl).1;obtain ⟨h13, hq13, hk13⟩ := h12.store (.int .i64 n') (.slice a' m' c');clear d13 c130 c131 f130 f131;refine hK.out _ _ ?_ (fun hHeld => ?_)
       ·try dsimp only
        exact HKS.o _ h13
       clear hK K
       try simp only [tkS]
       generalize (V12.setCell ⟨bX, 0, none⟩ (.int .i64 n')).setCell ⟨bX, 1, none⟩ (.slice a' m' c') = V13 at *
       refine tkV 11 14 rfl rfl ?_; try simp only [tkS]
       refine wpAnyH_done (by kernel_rfl) ?_ _;have HBV := lh h13;have HXV := lh hq13;have HBX := lh hbx
       have HLS : Hid (∀ r, o = some r -> n' = p.n /\ m' = r.length /\ LsIn (fun k => wi.heap.size <= k /\ k ≠ bX) V13 a' r) := fun r e => let ⟨g1, g2, g3⟩ := hls r e; ⟨g1, g2, g3.kept hk13 (fun k hk => hk.2)⟩
       clear hls hq13 hk13 hbx
       have HRF : Hid (p.fall ins s.used (k + 1) = none -> R = false) := fun e => by
        rw [HF.o]; unfold Prf.fend; rw [zh8 e ins.length (by omega)]
       obtain ⟨ok, hok⟩ : ∃ ok, ok = o.isSome := ⟨_, rfl⟩
       rw [<- hok];have HOK := lh hok;clear hok;have HF13 := lh (HFA.o.later HBV.o);have HBW13 := lh (HFA.o.fm.hb.trans (HBV.o.mono HFA.o.fm.hb.size))
       cases ok with
       | false =>
         have ho : o = none := by have := HOK.o; cases o with | none => rfl | some _ => simp at this
         have HR : Hid (R = false) := HRF.o (by rw [HE1.o, ho]);clear ho;go_wp2_with fail
         go_quiet (fail)
         go_wp2;go_ret;exact ⟨by rw [HR.o]; rfl, HBW13.o.trans (zad _ _)⟩
       | true =>
         obtain ⟨r', ho⟩ : ∃ r', o = some r' := by have := HOK.o; cases o with | none => simp at this | some r' => exact ⟨r', rfl⟩
         obtain ⟨hn1, hm1, hls1⟩ := HLS.o r' ho;subst hn1 hm1;have HTR := lh (HRO.o r' ho)
         have HE2 : Hid (p.fall ins s.used (k + 1) = if decide ((nd p.N (j : Int)).kind = 2) || zd6 p.n A r' then none else some (zcg A r')) := by show _ = _; rw [HE1.o, ho]
         have HL1 := lh (hls1.mono (Y := fun k => wi.heap.size <= k /\ k < V13.heap.size) fun k h1 h2 => ⟨h2.1, h1⟩);obtain ⟨nb, noff, hne, d0, d1, xa, xc, d2, hxi, hxl⟩ := (HAT.o.n.keep HFA.o.fm.hb) j hjl;have hnd : nd p.N (j : Int) = p.N.getD j default := rfl;rw [hnd] at HE2;generalize p.N.getD j default = y at *;subst hne;have v3 := zaa HBV.o k3;have e9 := zaa HBV.o e0;have d9 := zaa HBV.o d0;obtain ⟨hLA, hlsA⟩ := HF13.o.ls;have s0 := HF13.o.bl.cell 0
         have s1 : V13.cell? ⟨ab, 1, none⟩ = some (.slice oa A.length oc) := by rw [<- hLA]; exact HF13.o.bl.cell 1
         have t0 := HXV.o.cell 0;have t1 := HXV.o.cell 1
         have hji : (j : Int) < (p.N.length : Int) := by omega
         have hnl : p.N.length <= 65536 := HP.o.len.2;have zz0 := HF13.o.fm.b0.lt;have zz1 := HF13.o.bl.lt;have zz2 := HXV.o.lt
         have HME : Hid (∀ W, Below V13.heap.size V13 W -> Calls Tryz.prog 123 #[.agg #[.int .i64 p.n, .slice oa A.length oc], .agg #[.int .i64 p.n, .slice a' r'.length c']] W fun e w' => e = .returned (.bool (zd6 p.n A r')) /\ Below W.heap.size W w') := fun W hW =>
          zka p.n hpn oa oc A a' c' r' W (by have := HAL.o; omega) (fun c hc => by have := HA8.o c hc; omega) (by have := HTR.o.len; omega) (fun c hc => by have := (HTR.o.cl c hc).1; omega) (hlsA.keep hW) ((HL1.o.later hW).ls)
         have HLA := lh hLA;clear hls1 hnd hxi d0 d1 d2 hxl k0 k1 k2 k3 k4 e0 u0 ho hLA hlsA HKS HRD z0 zb2
         by_cases hk2 : y.kind = 2
         ·have HR : Hid (R = false) := HRF.o (by rw [HE2.o, hk2]; rfl)
          have hkd : (y.kind == 2) = true := by simpa using hk2
          clear hk2;go_wp2_with fail
          go_quiet (fail)
          go_wp2;go_ret;exact ⟨by rw [HR.o]; rfl, HBW13.o.trans (zad _ _)⟩
         have hkd : (y.kind == 2) = false := by simpa using hk2
         have HE3 : Hid (p.fall ins s.used (k + 1) = if zd6 p.n A r' then none else some (zcg A r')) := by show _ = _; rw [HE2.o, decide_eq_false hk2]; simp
         clear hk2
         cases hme : zd6 p.n A r' with
         | true =>
           have HR : Hid (R = false) := HRF.o (by rw [HE3.o, hme]; rfl);rw [hme] at HME;clear hme;go_wp2_with fail
           have HK2 : Hid (∀ w' : World, Below V13.heap.size V13 w' -> w'.cell? ⟨w.heap.size, 3, none⟩ = some (.slice (some ⟨nb, noff, none⟩) p.N.length nc) /\ w'.cell? ⟨b2, off2 + k, none⟩ = some (.int .i64 (j : Int)) /\ w'.cell? ⟨nb, noff + j * 3, none⟩ = some (.int .i64 y.kind) /\ w'.cell? ⟨ab, 0, none⟩ = some (.int .i64 p.n) /\ w'.cell? ⟨ab, 1, none⟩ = some (.slice oa A.length oc) /\ w'.cell? ⟨bX, 0, none⟩ = some (.int .i64 p.n) /\ w'.cell? ⟨bX, 1, none⟩ = some (.slice a' r'.length c')) := fun w' h => ⟨zaa h v3, zaa h e9, zaa h d9, zaa h s0, zaa h s1, zaa h t0, zaa h t1⟩
           refine wp_region_held_drew (S := (fun w' => w'.cell? ⟨w.heap.size, 3, none⟩ = some (.slice (some ⟨nb, noff, none⟩) p.N.length nc) /\ w'.cell? ⟨b2, off2 + k, none⟩ = some (.int .i64 (j : Int)) /\ w'.cell? ⟨nb, noff + j * 3, none⟩ = some (.int .i64 y.kind) /\ w'.cell? ⟨ab, 0, none⟩ = some (.int .i64 p.n) /\ w'.cell? ⟨ab, 1, none⟩ = some (.slice oa A.length oc) /\ w'.cell? ⟨bX, 0, none⟩ = some (.int .i64 p.n) /\ w'.cell? ⟨bX, 1, none⟩ = some (.slice a' r'.length c'))) (by kernel_rfl) ?_ (fun hHeld => ?_)
           ·try dsimp only
            exact HK2.o _ (Below.refl _ _).drew
           refine tkV 0 83 rfl rfl ?_; try simp only [tkS]
           refine tkV 1 84 rfl rfl ?_; try simp only [tkS]
           refine tkV 2 85 rfl rfl ?_; try simp only [tkS]
           refine tkV 3 86 rfl rfl ?_; try simp only [tkS]
           refine tkV 4 87 rfl rfl ?_; try simp only [tkS]
           refine tkV 5 88 rfl rfl ?_; try simp only [tkS]
           refine tkV 6 89 rfl rfl ?_; try simp only [tkS]
           refine tkV 7 90 rfl rfl ?_; try simp only [tkS]
           refine tkV 8 91 rfl rfl ?_; try simp only [tkS]
           refine tkV 9 92 rfl rfl ?_; try simp only [tkS]
           refine tkV 10 93 rfl rfl ?_; try simp only [tkS]
           refine tkV 11 94 rfl rfl ?_; try simp only [tkS]
           refine tkV 12 95 rfl rfl ?_; try simp only [tkS]
           refine tkV 13 96 rfl rfl ?_; try simp only [tkS]
           refine tkV 14 97 rfl rfl ?_; try simp only [tkS]
           refine tkV 15 98 rfl rfl ?_; try simp only [tkS]
           refine tkV 16 99 rfl rfl ?_; try simp only [tkS]
           refine tkV 17 100 rfl rfl ?_; try simp only [tkS]
           refine tkR 18 (.cons rfl (fun K hK => ?_) .nil);go_simp;go_at_call 123;refine (HME.o _ (Below.refl _ _).drew).mono ?_;rintro e w5 ⟨rfl, hb5⟩;have hw5 : Below V13.heap.size V13 w5 := zay hb5;go_wp2_with fail;refine hK.out _ _ ?_ (fun hHeld => ?_)
           ·try dsimp only
            exact HK2.o _ hw5
           clear hK K
           try simp only [tkS]
           refine tkV 19 102 rfl rfl ?_; try simp only [tkS]
           refine wpAnyH_done (by kernel_rfl) ?_ _;go_wp2;go_ret;exact ⟨by rw [HR.o]; rfl, HBW13.o.trans (hw5.mono HBW13.o.size)⟩
         | false =>
           have HE4 : Hid (p.fall ins s.used (k + 1) = some (zcg A r')) := by show _ = _; rw [HE3.o, hme]; rfl
           rw [hme] at HME;clear hme;go_wp2_with fail
           have HK2 : Hid (∀ w' : World, Below V13.heap.size V13 w' -> w'.cell? ⟨w.heap.size, 3, none⟩ = some (.slice (some ⟨nb, noff, none⟩) p.N.length nc) /\ w'.cell? ⟨b2, off2 + k, none⟩ = some (.int .i64 (j : Int)) /\ w'.cell? ⟨nb, noff + j * 3, none⟩ = some (.int .i64 y.kind) /\ w'.cell? ⟨ab, 0, none⟩ = some (.int .i64 p.n) /\ w'.cell? ⟨ab, 1, none⟩ = some (.slice oa A.length oc) /\ w'.cell? ⟨bX, 0, none⟩ = some (.int .i64 p.n) /\ w'.cell? ⟨bX, 1, none⟩ = some (.slice a' r'.length c')) := fun w' h => ⟨zaa h v3, zaa h e9, zaa h d9, zaa h s0, zaa h s1, zaa h t0, zaa h t1⟩
           refine wp_region_held_drew (S := (fun w' => w'.cell? ⟨w.heap.size, 3, none⟩ = some (.slice (some ⟨nb, noff, none⟩) p.N.length nc) /\ w'.cell? ⟨b2, off2 + k, none⟩ = some (.int .i64 (j : Int)) /\ w'.cell? ⟨nb, noff + j * 3, none⟩ = some (.int .i64 y.kind) /\ w'.cell? ⟨ab, 0, none⟩ = some (.int .i64 p.n) /\ w'.cell? ⟨ab, 1, none⟩ = some (.slice oa A.length oc) /\ w'.cell? ⟨bX, 0, none⟩ = some (.int .i64 p.n) /\ w'.cell? ⟨bX, 1, none⟩ = some (.slice a' r'.length c'))) (by kernel_rfl) ?_ (fun hHeld => ?_)
           ·try dsimp only
            exact HK2.o _ (Below.refl _ _).drew
           refine tkV 0 83 rfl rfl ?_; try simp only [tkS]
           refine tkV 1 84 rfl rfl ?_; try simp only [tkS]
           refine tkV 2 85 rfl rfl ?_; try simp only [tkS]
           refine tkV 3 86 rfl rfl ?_; try simp only [tkS]
           refine tkV 4 87 rfl rfl ?_; try simp only [tkS]
           refine tkV 5 88 rfl rfl ?_; try simp only [tkS]
           refine tkV 6 89 rfl rfl ?_; try simp only [tkS]
           refine tkV 7 90 rfl rfl ?_; try simp only [tkS]
           refine tkV 8 91 rfl rfl ?_; try simp only [tkS]
           refine tkV 9 92 rfl rfl ?_; try simp only [tkS]
           refine tkV 10 93 rfl rfl ?_; try simp only [tkS]
           refine tkV 11 94 rfl rfl ?_; try simp only [tkS]
           refine tkV 12 95 rfl rfl ?_; try simp only [tkS]
           refine tkV 13 96 rfl rfl ?_; try simp only [tkS]
           refine tkV 14 97 rfl rfl ?_; try simp only [tkS]
           refine tkV 15 98 rfl rfl ?_; try simp only [tkS]
           refine tkV 16 99 rfl rfl ?_; try simp only [tkS]
           refine tkV 17 100 rfl rfl ?_; try simp only [tkS]
           refine tkR 18 (.cons rfl (fun K hK => ?_) .nil);go_simp;go_at_call 123;refine (HME.o _ (Below.refl _ _).drew).mono ?_;rintro e w5 ⟨rfl, hb5⟩;have hw5 : Below V13.heap.size V13 w5 := zay hb5;go_wp2_with fail;refine hK.out _ _ ?_ (fun hHeld => ?_)
           ·try dsimp only
            exact HK2.o _ hw5
           clear hK K
           try simp only [tkS]
           refine tkV 19 102 rfl rfl ?_; try simp only [tkS]
           refine wpAnyH_done (by kernel_rfl) ?_ _;have HW5 := lh hw5;have HABW : Hid (ab < wi.heap.size) := HFA.o.bl.lt
           have HSP : Hid (∀ kk, (Value.slice oa L.length oc).ownBlock = some kk -> kk < wi.heap.size \/ V13.heap.size <= kk) := fun kk e => .inl (World.ownsRow.lt HFA.o.own.own kk e).2
           have HIN4 : Hid (FJ p ta tc (some ⟨nb, noff, none⟩) nc ca cc ins w s ab A r' a' c' bX wi.heap.size V13.heap.size w5 (.int .i64 0)) :=
            ⟨0, A, L, oa, oc, Nat.zero_le _, rfl, HF13.o.later hw5, rfl, HXV.o.later hw5, HL1.o.later hw5, HSP.o, hw5.size, by omega, HA8.o⟩
           clear v3 e9 d9 s0 s1 t0 t1 zz0 zz1 zz2 hw5 hb5;go_wp2_with fail
           go_loopw [15] (fun i wj => FJ p ta tc (some ⟨nb, noff, none⟩) nc ca cc ins w s ab A r' a' c' bX wi.heap.size V13.heap.size wj i) (fun i _ => r'.length - (intOf i).toNat)
           case atStart => exact HIN4.o
           obtain ⟨q, A2, L2, oa2, oc2, hq, rfl, hfa, hA2, hbx, hls, hsp, hhi, hal, ha8⟩ := hrel
           rename World => wj
           have HFJ := lh hfa;have HFJX := lh hbx;have HSPJ := lh hsp;have HALJ := lh hal;have HA8J := lh ha8;have HAJ := lh hA2;have HHI := lh hhi;have HBXV : Hid (bX < V13.heap.size) := HXV.o.lt;have x1 := hbx.cell 1;have xz := hbx.lt;have s0 := hfa.bl.cell 0;have s1 := hfa.bl.cell 1;have sz := hfa.bl.lt;have hrl4 : r'.length <= 4096 := HTR.o.len;clear hfa hA2 hbx hsp hal ha8 hhi
           by_cases hqr : q < r'.length
           ·obtain ⟨b5, off5, ai, ci, hae5, hc5, hi5⟩ := hls.get hqr;have HFJL := lh hls;have HJ := lh (zj5 A hqr);rw [<- HAJ.o] at HJ;have HC8 : Hid ((r'.getD q []).length <= 128) := (HTR.o.cl _ (by rw [List.getD_eq_getElem?_getD, List.getElem?_eq_getElem hqr]; exact List.getElem_mem hqr)).1
            have hqi : (q : Int) < (r'.length : Int) := by omega
            generalize r'.getD q [] = c at *;have HI5 := lh hi5
            obtain ⟨e, hee⟩ : ∃ e : Sl, e = ⟨ai, ci, c⟩ := ⟨_, rfl⟩
            have HEE := lh hee
            have HLM : Hid (L2.length <= 1073741824) := by have h1 := HFJ.o.ls.1; have h2 := HALJ.o; have h3 := HAL.o; show _ <= _; omega
            have hc128 : c.length <= 128 := HC8.o;have zb5 : b5 < wj.heap.size := zak hc5;subst hae5;clear hls hi5 hee
            by_cases hc0 : c.length = 0
            ·have hcn : c = [] := List.eq_nil_of_length_eq_zero hc0
             have hgd : decide ((0 : Int) < (c.length : Int)) = false := by rw [hc0]; rfl
             have hgn : decide (0 < c.length) = false := by rw [hc0]; rfl
             have hgp : ¬ 0 < c.length := by omega
             have HEM := lh (zh6 p.n oa2 oc2 A2 wj (by have := HALJ.o; have := HAL.o; omega) (fun d hd => by have := HA8J.o d hd; omega) HFJ.o.ls.2);rw [<- HFJ.o.ls.1] at HEM
             cases hem : zea A2 with
             | true =>
               have HJN : Hid (zcg A (r'.take (q + 1)) = A2) := by show _ = _; rw [HJ.o, hcn, hem]; rfl
               rw [hem] at HEM;clear hem hcn hc0;go_wp2_with fail;refine HEM.o.mono ?_;rintro e2 w7 ⟨rfl, hb7⟩
               have HF : Hid (FJ p ta tc (some ⟨nb, noff, none⟩) nc ca cc ins w s ab A r' (some ⟨b5, off5, none⟩) c' bX wi.heap.size V13.heap.size w7 (.int .i64 ((q : Int) + 1))) :=
                ⟨q + 1, A2, L2, oa2, oc2, by omega, by go_num, HFJ.o.later hb7, HJN.o.symm, HFJX.o.later hb7, HFJL.o.later hb7, HSPJ.o, Nat.le_trans HHI.o hb7.size, by have := HALJ.o; omega, HA8J.o⟩
               clear hb7;go_wp2;go_roundw
               case rel => exact HF.o
               case measure => simp [intOf]; omega
             | false =>
               have HJN : Hid (zcg A (r'.take (q + 1)) = A2 ++ [c]) := by show _ = _; rw [HJ.o, hem]; simp
               rw [hem] at HEM;clear hem hcn hc0;go_wp2_with fail;refine HEM.o.mono ?_;rintro e2 w7 ⟨rfl, hb7⟩;have HF7 := lh (HFJ.o.later hb7);have HF7X := lh (HFJX.o.later hb7);have HF7L := lh (HFJL.o.later hb7);have HI7 := lh (HI5.o.later hb7);have HHI := lh (Nat.le_trans HHI.o hb7.size);have x1 := HF7X.o.cell 1;have xz := HF7X.o.lt;have s1 := HF7.o.bl.cell 1;have sz := HF7.o.bl.lt;have hc5 := zaa hb7 hc5;have zb5 : b5 < w7.heap.size := zak hc5;clear hb7
               have HNW : Hid (∀ j u, (sle e)[j]? = some u -> (w7.alloc (.cells #[.slice ai c.length ci] 25)).cell? ⟨w7.heap.size, j, none⟩ = some u) := fun j u h => by
                rw [World.cell?_alloc_at _ _ _ _ rfl]; rw [HEE.o] at h; simpa [sle] using h
               have HNB : Hid (¬ (Value.slice oa2 L2.length oc2).ownBlock = some ab) := fun e => by have := (World.ownsRow.lt HF7.o.own.own _ e).1; omega
               have HZS : Hid (ab + 1 <= w7.heap.size) := HF7.o.bl.lt;go_wp2_with fail
               go_region_law (first | (refine zbn zd5 rfl _ _ rfl (ab + 1) (.slice oa2 L2.length oc2) L2 e rfl (HF7.o.own.own.alloc _).drew w7.heap.size rfl rfl HNW.o (zcp _) HLM.o (by decide) (Nat.le_trans HZS.o (by simp [World.drew])) ?_; intro g3 cap3 w3 ho3 hg3 hl3; have hk3 := Kp.grown (M := fun k => (Value.slice oa2 L2.length oc2).ownBlock = some k) hg3 (fun k hk => hk); have hb3 : Blk w3 ab #[.int .i64 p.n, .slice oa2 L2.length oc2] 24 := Blk.kept (by exact HF7.o.bl.alloc _) hk3 HNB.o; have mm1 : w3.cell? ⟨ab, 1, none⟩ = some (.slice oa2 L2.length oc2) := hb3.cell 1; have mm2 := hb3.fr 1))
               all_goals
                have HG3 : Hid (w7.grownBy w3 (Value.slice oa2 L2.length oc2).ownBlock) := by first | exact zaz hg3 | exact za1 hg3
                have hl3' : (Value.slice oa2 L2.length oc2).ownBlock = some g3 \/ w7.heap.size <= g3 := hl3.imp id (fun h => by rw [h]; simp)
                have hkg : Kp (fun k => (Value.slice oa2 L2.length oc2).ownBlock = some k) w7 w3 := Kp.grown HG3.o fun k h => h
                have hks : Kp (fun y => y = ab) w3 (w3.setCell ⟨ab, 1, none⟩ (.slice (some ⟨g3, 0, none⟩) (L2.length + 1) cap3)) := Kp.setCell _ _ _ rfl;have hfa3 := HF7.o.push (e := e) (by rw [HEE.o]; exact HI7.o.mono fun k _ hk => ⟨by have := HABW.o; omega, fun e => by have := HSPJ.o _ e; omega⟩) ho3 HG3.o hl3';rw [show e.xs = c by rw [HEE.o]] at hfa3;have hbx3 := (HF7X.o.kept hkg fun e => by have h1 := HSPJ.o _ e; have h2 := HBX.o; have h3 := HBXV.o; omega).kept hks (by have h1 := HABW.o; have h2 := HBX.o; omega);have hls3 := (HF7L.o.kept hkg fun k hk e => by have := HSPJ.o _ e; omega).kept hks (fun k hk => by have := HABW.o; omega)
                have hwz : w7.heap.size <= w3.heap.size := hkg.size
                have HF : Hid (FJ p ta tc (some ⟨nb, noff, none⟩) nc ca cc ins w s ab A r' (some ⟨b5, off5, none⟩) c' bX wi.heap.size V13.heap.size (w3.setCell ⟨ab, 1, none⟩ (.slice (some ⟨g3, 0, none⟩) (L2.length + 1) cap3)) (.int .i64 ((q : Int) + 1))) :=
                 ⟨q + 1, A2 ++ [c], L2 ++ [e], some ⟨g3, 0, none⟩, cap3, by omega, by go_num, hfa3, HJN.o.symm, hbx3, hls3, fun kk e => by
                   simp [Value.ownBlock] at e
                   subst e
                   rcases hl3' with h | h
                   ·exact HSPJ.o _ h
                   ·right; have := HHI.o; omega, by have := HHI.o; rw [World.size_setCell']; omega, by have := HALJ.o; simp; omega, fun d hd => by
                   rcases List.mem_append.1 hd with hd | hd
                   ·exact HA8J.o d hd
                   simp at hd; subst hd; exact HC8.o⟩
                clear ho3 hg3 hl3 hk3 hb3 mm1 mm2 hl3' hkg hks hfa3 hbx3 hls3 hwz;go_wp2;go_roundw
                case rel => exact HF.o
                case measure => simp [intOf]; omega
            have hgd : decide ((0 : Int) < (c.length : Int)) = true := by simp; omega
            have HJN : Hid (zcg A (r'.take (q + 1)) = A2 ++ [c]) := by
             show _ = _; rw [HJ.o]; simp [show c ≠ [] from fun e => hc0 (by rw [e]; rfl)]
            have hcp : 0 < c.length := by omega
            clear hc0
            have HNW : Hid (∀ j u, (sle e)[j]? = some u -> (wj.alloc (.cells #[.slice ai c.length ci] 25)).cell? ⟨wj.heap.size, j, none⟩ = some u) := fun j u h => by
             rw [World.cell?_alloc_at _ _ _ _ rfl]; rw [HEE.o] at h; simpa [sle] using h
            have HNB : Hid (¬ (Value.slice oa2 L2.length oc2).ownBlock = some ab) := fun e => by have := (World.ownsRow.lt HFJ.o.own.own _ e).1; omega
            have HZS : Hid (ab + 1 <= wj.heap.size) := HFJ.o.bl.lt;go_wp2_with fail
            go_region_law (first | (refine zbn zd5 rfl _ _ rfl (ab + 1) (.slice oa2 L2.length oc2) L2 e rfl (HFJ.o.own.own.alloc _).drew wj.heap.size rfl rfl HNW.o (zcp _) HLM.o (by decide) (Nat.le_trans HZS.o (by simp [World.drew])) ?_; intro g3 cap3 w3 ho3 hg3 hl3; have hk3 := Kp.grown (M := fun k => (Value.slice oa2 L2.length oc2).ownBlock = some k) hg3 (fun k hk => hk); have hb3 : Blk w3 ab #[.int .i64 p.n, .slice oa2 L2.length oc2] 24 := Blk.kept (by exact HFJ.o.bl.alloc _) hk3 HNB.o; have mm1 : w3.cell? ⟨ab, 1, none⟩ = some (.slice oa2 L2.length oc2) := hb3.cell 1; have mm2 := hb3.fr 1))
            all_goals
             have HG3 : Hid (wj.grownBy w3 (Value.slice oa2 L2.length oc2).ownBlock) := by first | exact zaz hg3 | exact za1 hg3
             have hl3' : (Value.slice oa2 L2.length oc2).ownBlock = some g3 \/ wj.heap.size <= g3 := hl3.imp id (fun h => by rw [h]; simp)
             have hkg : Kp (fun k => (Value.slice oa2 L2.length oc2).ownBlock = some k) wj w3 := Kp.grown HG3.o fun k h => h
             have hks : Kp (fun y => y = ab) w3 (w3.setCell ⟨ab, 1, none⟩ (.slice (some ⟨g3, 0, none⟩) (L2.length + 1) cap3)) := Kp.setCell _ _ _ rfl;have hfa3 := HFJ.o.push (e := e) (by rw [HEE.o]; exact HI5.o.mono fun k _ hk => ⟨by have := HABW.o; omega, fun e => by have := HSPJ.o _ e; omega⟩) ho3 HG3.o hl3';rw [show e.xs = c by rw [HEE.o]] at hfa3;have hbx3 := (HFJX.o.kept hkg fun e => by have h1 := HSPJ.o _ e; have h2 := HBX.o; have h3 := HBXV.o; omega).kept hks (by have h1 := HABW.o; have h2 := HBX.o; omega);have hls3 := (HFJL.o.kept hkg fun k hk e => by have := HSPJ.o _ e; omega).kept hks (fun k hk => by have := HABW.o; omega)
             have hwz : wj.heap.size <= w3.heap.size := hkg.size
             have HF : Hid (FJ p ta tc (some ⟨nb, noff, none⟩) nc ca cc ins w s ab A r' (some ⟨b5, off5, none⟩) c' bX wi.heap.size V13.heap.size (w3.setCell ⟨ab, 1, none⟩ (.slice (some ⟨g3, 0, none⟩) (L2.length + 1) cap3)) (.int .i64 ((q : Int) + 1))) :=
              ⟨q + 1, A2 ++ [c], L2 ++ [e], some ⟨g3, 0, none⟩, cap3, by omega, by go_num, hfa3, HJN.o.symm, hbx3, hls3, fun kk e => by
                simp [Value.ownBlock] at e
                subst e
                rcases hl3' with h | h
                ·exact HSPJ.o _ h
                ·right; have := HHI.o; omega, by have := HHI.o; rw [World.size_setCell']; omega, by have := HALJ.o; simp; omega, fun d hd => by
                rcases List.mem_append.1 hd with hd | hd
                ·exact HA8J.o d hd
                simp at hd; subst hd; exact HC8.o⟩
             clear ho3 hg3 hl3 hk3 hb3 mm1 mm2 hl3' hkg hks hfa3 hbx3 hls3 hwz;go_wp2;go_roundw
             case rel => exact HF.o
             case measure => simp [intOf]; omega
           have hqe : q = r'.length := by omega
           subst hqe;rw [List.take_length] at HAJ;rw [<- HAJ.o] at HE4
           have HAL2 : Hid (A2.length <= (k + 1) * 4096) := by have h1 := HALJ.o; have h2 := HAL.o; show _ <= _; omega
           clear hls;go_wp2;go_roundw
           case rel => exact ⟨k + 1, A2, L2, oa2, oc2, by omega, by go_num, HFJ.o, HE4.o, HAL2.o, HA8J.o⟩
           case measure => simp [intOf]; omega
      go_simp
      obtain ⟨bX, hbX⟩ : ∃ bX, bX = wi.heap.size := ⟨_, rfl⟩
      have h11 := h10.alloc (q := bX) hbX;refine hK.out _ _ ?_ (fun hHeld => ?_)
      ·try dsimp only
       exact HKS.o _ h11.bl
      clear hK K
      try simp only [tkS]
      obtain ⟨V11, hV11⟩ : ∃ V, V = (wi.alloc (.cells #[.int .i64 0, .slice none 0 0] 24)).drew := ⟨_, rfl⟩
      rw [show wi.drew.alloc (.cells #[.int .i64 0, .slice none 0 0] 24) = V11 from hV11.symm] at h11;rw [<- hbX, <- hV11];clear hV11 hbX;refine tkR 5 (.cons rfl (fun K hK => ?_) .nil);go_simp;go_at_call 44;refine (HRD.o _ h11.bl).mono ?_;rintro e V12 ⟨n', a', m', c', rfl, hb12, hls⟩;have h12 := h11.later hb12;have hbw := h11.lt;have hbs := h11.bl.size
      have hls := fun r e => let ⟨g1, g2, g3⟩ := hls r e; And.intro g1 (And.intro g2 (g3.mono (Y := fun k => wi.heap.size <= k /\ k ≠ bX) fun k _ hk => ⟨by omega, by omega⟩))
      clear hbw hbs;clear hb12;go_wp2_with fail;refine hK.out _ _ ?_ (fun hHeld => ?_)
      ·try dsimp only
       exact HKS.o _ h12.bl
      clear hK K
      try simp only [tkS]
      refine tkV 6 74 rfl rfl ?_; try simp only [tkS]
      refine tkV 7 81 rfl rfl ?_; try simp only [tkS]
      refine tkV 8 82 rfl rfl ?_; try simp only [tkS]
      refine tkR 10 (.cons rfl (fun K hK => ?_) .nil);obtain ⟨_, d13⟩ := h12.x _ rfl;have c130 := d13.cell 0;have c131 := d13.cell 1;have f130 := d13.fr 0;have f131 := d13.fr 1;go_simp;have hbx := (h12.x _ rfl).1;obtain ⟨h13, hq13, hk13⟩ := h12.store (.int .i64 n') (.slice a' m' c');clear d13 c130 c131 f130 f131;refine hK.out _ _ ?_ (fun hHeld => ?_)
      ·try dsimp only
       exact HKS.o _ h13
      clear hK K
      try simp only [tkS]
      generalize (V12.setCell ⟨bX, 0, none⟩ (.int .i64 n')).setCell ⟨bX, 1, none⟩ (.slice a' m' c') = V13 at *
      refine tkV 11 14 rfl rfl ?_; try simp only [tkS]
      refine wpAnyH_done (by kernel_rfl) ?_ _;have HBV := lh h13;have HXV := lh hq13;have HBX := lh hbx
      have HLS : Hid (∀ r, o = some r -> n' = p.n /\ m' = r.length /\ LsIn (fun k => wi.heap.size <= k /\ k ≠ bX) V13 a' r) := fun r e => let ⟨g1, g2, g3⟩ := hls r e; ⟨g1, g2, g3.kept hk13 (fun k hk => hk.2)⟩
      clear hls hq13 hk13 hbx
      have HRF : Hid (p.fall ins s.used (k + 1) = none -> R = false) := fun e => by
       rw [HF.o]; unfold Prf.fend; rw [zh8 e ins.length (by omega)]
      obtain ⟨ok, hok⟩ : ∃ ok, ok = o.isSome := ⟨_, rfl⟩
      rw [<- hok];have HOK := lh hok;clear hok;have HF13 := lh (HFA.o.later HBV.o);have HBW13 := lh (HFA.o.fm.hb.trans (HBV.o.mono HFA.o.fm.hb.size))
      cases ok with
      | false =>
        have ho : o = none := by have := HOK.o; cases o with | none => rfl | some _ => simp at this
        have HR : Hid (R = false) := HRF.o (by rw [HE1.o, ho]);clear ho;go_wp2_with fail
        go_quiet (fail)
        go_wp2;go_ret;exact ⟨by rw [HR.o]; rfl, HBW13.o.trans (zad _ _)⟩
      | true =>
        obtain ⟨r', ho⟩ : ∃ r', o = some r' := by have := HOK.o; cases o with | none => simp at this | some r' => exact ⟨r', rfl⟩
        obtain ⟨hn1, hm1, hls1⟩ := HLS.o r' ho;subst hn1 hm1;have HTR := lh (HRO.o r' ho)
        have HE2 : Hid (p.fall ins s.used (k + 1) = if decide ((nd p.N (j : Int)).kind = 2) || zd6 p.n A r' then none else some (zcg A r')) := by show _ = _; rw [HE1.o, ho]
        have HL1 := lh (hls1.mono (Y := fun k => wi.heap.size <= k /\ k < V13.heap.size) fun k h1 h2 => ⟨h2.1, h1⟩);obtain ⟨nb, noff, hne, d0, d1, xa, xc, d2, hxi, hxl⟩ := (HAT.o.n.keep HFA.o.fm.hb) j hjl;have hnd : nd p.N (j : Int) = p.N.getD j default := rfl;rw [hnd] at HE2;generalize p.N.getD j default = y at *;subst hne;have v3 := zaa HBV.o k3;have e9 := zaa HBV.o e0;have d9 := zaa HBV.o d0;obtain ⟨hLA, hlsA⟩ := HF13.o.ls;have s0 := HF13.o.bl.cell 0
        have s1 : V13.cell? ⟨ab, 1, none⟩ = some (.slice oa A.length oc) := by rw [<- hLA]; exact HF13.o.bl.cell 1
        have t0 := HXV.o.cell 0;have t1 := HXV.o.cell 1
        have hji : (j : Int) < (p.N.length : Int) := by omega
        have hnl : p.N.length <= 65536 := HP.o.len.2;have zz0 := HF13.o.fm.b0.lt;have zz1 := HF13.o.bl.lt;have zz2 := HXV.o.lt
        have HME : Hid (∀ W, Below V13.heap.size V13 W -> Calls Tryz.prog 123 #[.agg #[.int .i64 p.n, .slice oa A.length oc], .agg #[.int .i64 p.n, .slice a' r'.length c']] W fun e w' => e = .returned (.bool (zd6 p.n A r')) /\ Below W.heap.size W w') := fun W hW =>
         zka p.n hpn oa oc A a' c' r' W (by have := HAL.o; omega) (fun c hc => by have := HA8.o c hc; omega) (by have := HTR.o.len; omega) (fun c hc => by have := (HTR.o.cl c hc).1; omega) (hlsA.keep hW) ((HL1.o.later hW).ls)
        have HLA := lh hLA;clear hls1 hnd hxi d0 d1 d2 hxl k0 k1 k2 k3 k4 e0 u0 ho hLA hlsA HKS HRD z0 zb2
        by_cases hk2 : y.kind = 2
        ·have HR : Hid (R = false) := HRF.o (by rw [HE2.o, hk2]; rfl)
         have hkd : (y.kind == 2) = true := by simpa using hk2
         clear hk2;go_wp2_with fail
         go_quiet (fail)
         go_wp2;go_ret;exact ⟨by rw [HR.o]; rfl, HBW13.o.trans (zad _ _)⟩
        have hkd : (y.kind == 2) = false := by simpa using hk2
        have HE3 : Hid (p.fall ins s.used (k + 1) = if zd6 p.n A r' then none else some (zcg A r')) := by show _ = _; rw [HE2.o, decide_eq_false hk2]; simp
        clear hk2
        cases hme : zd6 p.n A r' with
        | true =>
          have HR : Hid (R = false) := HRF.o (by rw [HE3.o, hme]; rfl);rw [hme] at HME;clear hme;go_wp2_with fail
          have HK2 : Hid (∀ w' : World, Below V13.heap.size V13 w' -> w'.cell? ⟨w.heap.size, 3, none⟩ = some (.slice (some ⟨nb, noff, none⟩) p.N.length nc) /\ w'.cell? ⟨b2, off2 + k, none⟩ = some (.int .i64 (j : Int)) /\ w'.cell? ⟨nb, noff + j * 3, none⟩ = some (.int .i64 y.kind) /\ w'.cell? ⟨ab, 0, none⟩ = some (.int .i64 p.n) /\ w'.cell? ⟨ab, 1, none⟩ = some (.slice oa A.length oc) /\ w'.cell? ⟨bX, 0, none⟩ = some (.int .i64 p.n) /\ w'.cell? ⟨bX, 1, none⟩ = some (.slice a' r'.length c')) := fun w' h => ⟨zaa h v3, zaa h e9, zaa h d9, zaa h s0, zaa h s1, zaa h t0, zaa h t1⟩
          refine wp_region_held_drew (S := (fun w' => w'.cell? ⟨w.heap.size, 3, none⟩ = some (.slice (some ⟨nb, noff, none⟩) p.N.length nc) /\ w'.cell? ⟨b2, off2 + k, none⟩ = some (.int .i64 (j : Int)) /\ w'.cell? ⟨nb, noff + j * 3, none⟩ = some (.int .i64 y.kind) /\ w'.cell? ⟨ab, 0, none⟩ = some (.int .i64 p.n) /\ w'.cell? ⟨ab, 1, none⟩ = some (.slice oa A.length oc) /\ w'.cell? ⟨bX, 0, none⟩ = some (.int .i64 p.n) /\ w'.cell? ⟨bX, 1, none⟩ = some (.slice a' r'.length c'))) (by kernel_rfl) ?_ (fun hHeld => ?_)
          ·try dsimp only
           exact HK2.o _ (Below.refl _ _).drew
          refine tkV 0 83 rfl rfl ?_; try simp only [tkS]
          refine tkV 1 84 rfl rfl ?_; try simp only [tkS]
          refine tkV 2 85 rfl rfl ?_; try simp only [tkS]
          refine tkV 3 86 rfl rfl ?_; try simp only [tkS]
          refine tkV 4 87 rfl rfl ?_; try simp only [tkS]
          refine tkV 5 88 rfl rfl ?_; try simp only [tkS]
          refine tkV 6 89 rfl rfl ?_; try simp only [tkS]
          refine tkV 7 90 rfl rfl ?_; try simp only [tkS]
          refine tkV 8 91 rfl rfl ?_; try simp only [tkS]
          refine tkV 9 92 rfl rfl ?_; try simp only [tkS]
          refine tkV 10 93 rfl rfl ?_; try simp only [tkS]
          refine tkV 11 94 rfl rfl ?_; try simp only [tkS]
          refine tkV 12 95 rfl rfl ?_; try simp only [tkS]
          refine tkV 13 96 rfl rfl ?_; try simp only [tkS]
          refine tkV 14 97 rfl rfl ?_; try simp only [tkS]
          refine tkV 15 98 rfl rfl ?_; try simp only [tkS]
          refine tkV 16 99 rfl rfl ?_; try simp only [tkS]
          refine tkV 17 100 rfl rfl ?_; try simp only [tkS]
          refine tkR 18 (.cons rfl (fun K hK => ?_) .nil);go_simp;go_at_call 123;refine (HME.o _ (Below.refl _ _).drew).mono ?_;rintro e w5 ⟨rfl, hb5⟩;have hw5 : Below V13.heap.size V13 w5 := zay hb5;go_wp2_with fail;refine hK.out _ _ ?_ (fun hHeld => ?_)
          ·try dsimp only
           exact HK2.o _ hw5
          clear hK K
          try simp only [tkS]
          refine tkV 19 102 rfl rfl ?_; try simp only [tkS]
          refine wpAnyH_done (by kernel_rfl) ?_ _;go_wp2;go_ret;exact ⟨by rw [HR.o]; rfl, HBW13.o.trans (hw5.mono HBW13.o.size)⟩
        | false =>
          have HE4 : Hid (p.fall ins s.used (k + 1) = some (zcg A r')) := by show _ = _; rw [HE3.o, hme]; rfl
          rw [hme] at HME;clear hme;go_wp2_with fail
          have HK2 : Hid (∀ w' : World, Below V13.heap.size V13 w' -> w'.cell? ⟨w.heap.size, 3, none⟩ = some (.slice (some ⟨nb, noff, none⟩) p.N.length nc) /\ w'.cell? ⟨b2, off2 + k, none⟩ = some (.int .i64 (j : Int)) /\ w'.cell? ⟨nb, noff + j * 3, none⟩ = some (.int .i64 y.kind) /\ w'.cell? ⟨ab, 0, none⟩ = some (.int .i64 p.n) /\ w'.cell? ⟨ab, 1, none⟩ = some (.slice oa A.length oc) /\ w'.cell? ⟨bX, 0, none⟩ = some (.int .i64 p.n) /\ w'.cell? ⟨bX, 1, none⟩ = some (.slice a' r'.length c')) := fun w' h => ⟨zaa h v3, zaa h e9, zaa h d9, zaa h s0, zaa h s1, zaa h t0, zaa h t1⟩
          refine wp_region_held_drew (S := (fun w' => w'.cell? ⟨w.heap.size, 3, none⟩ = some (.slice (some ⟨nb, noff, none⟩) p.N.length nc) /\ w'.cell? ⟨b2, off2 + k, none⟩ = some (.int .i64 (j : Int)) /\ w'.cell? ⟨nb, noff + j * 3, none⟩ = some (.int .i64 y.kind) /\ w'.cell? ⟨ab, 0, none⟩ = some (.int .i64 p.n) /\ w'.cell? ⟨ab, 1, none⟩ = some (.slice oa A.length oc) /\ w'.cell? ⟨bX, 0, none⟩ = some (.int .i64 p.n) /\ w'.cell? ⟨bX, 1, none⟩ = some (.slice a' r'.length c'))) (by kernel_rfl) ?_ (fun hHeld => ?_)
          ·try dsimp only
           exact HK2.o _ (Below.refl _ _).drew
          refine tkV 0 83 rfl rfl ?_; try simp only [tkS]
          refine tkV 1 84 rfl rfl ?_; try simp only [tkS]
          refine tkV 2 85 rfl rfl ?_; try simp only [tkS]
          refine tkV 3 86 rfl rfl ?_; try simp only [tkS]
          refine tkV 4 87 rfl rfl ?_; try simp only [tkS]
          refine tkV 5 88 rfl rfl ?_; try simp only [tkS]
          refine tkV 6 89 rfl rfl ?_; try simp only [tkS]
          refine tkV 7 90 rfl rfl ?_; try simp only [tkS]
          refine tkV 8 91 rfl rfl ?_; try simp only [tkS]
          refine tkV 9 92 rfl rfl ?_; try simp only [tkS]
          refine tkV 10 93 rfl rfl ?_; try simp only [tkS]
          refine tkV 11 94 rfl rfl ?_; try simp only [tkS]
          refine tkV 12 95 rfl rfl ?_; try simp only [tkS]
          refine tkV 13 96 rfl rfl ?_; try simp only [tkS]
          refine tkV 14 97 rfl rfl ?_; try simp only [tkS]
          refine tkV 15 98 rfl rfl ?_; try simp only [tkS]
          refine tkV 16 99 rfl rfl ?_; try simp only [tkS]
          refine tkV 17 100 rfl rfl ?_; try simp only [tkS]
          refine tkR 18 (.cons rfl (fun K hK => ?_) .nil);go_simp;go_at_call 123;refine (HME.o _ (Below.refl _ _).drew).mono ?_;rintro e w5 ⟨rfl, hb5⟩;have hw5 : Below V13.heap.size V13 w5 := zay hb5;go_wp2_with fail;refine hK.out _ _ ?_ (fun hHeld => ?_)
          ·try dsimp only
           exact HK2.o _ hw5
          clear hK K
          try simp only [tkS]
          refine tkV 19 102 rfl rfl ?_; try simp only [tkS]
          refine wpAnyH_done (by kernel_rfl) ?_ _;have HW5 := lh hw5;have HABW : Hid (ab < wi.heap.size) := HFA.o.bl.lt
          have HSP : Hid (∀ kk, (Value.slice oa L.length oc).ownBlock = some kk -> kk < wi.heap.size \/ V13.heap.size <= kk) := fun kk e => .inl (World.ownsRow.lt HFA.o.own.own kk e).2
          have HIN4 : Hid (FJ p ta tc (some ⟨nb, noff, none⟩) nc ca cc ins w s ab A r' a' c' bX wi.heap.size V13.heap.size w5 (.int .i64 0)) :=
           ⟨0, A, L, oa, oc, Nat.zero_le _, rfl, HF13.o.later hw5, rfl, HXV.o.later hw5, HL1.o.later hw5, HSP.o, hw5.size, by omega, HA8.o⟩
          clear v3 e9 d9 s0 s1 t0 t1 zz0 zz1 zz2 hw5 hb5;go_wp2_with fail
          go_loopw [15] (fun i wj => FJ p ta tc (some ⟨nb, noff, none⟩) nc ca cc ins w s ab A r' a' c' bX wi.heap.size V13.heap.size wj i) (fun i _ => r'.length - (intOf i).toNat)
          case atStart => exact HIN4.o
          obtain ⟨q, A2, L2, oa2, oc2, hq, rfl, hfa, hA2, hbx, hls, hsp, hhi, hal, ha8⟩ := hrel
          rename World => wj
          have HFJ := lh hfa;have HFJX := lh hbx;have HSPJ := lh hsp;have HALJ := lh hal;have HA8J := lh ha8;have HAJ := lh hA2;have HHI := lh hhi;have HBXV : Hid (bX < V13.heap.size) := HXV.o.lt;have x1 := hbx.cell 1;have xz := hbx.lt;have s0 := hfa.bl.cell 0;have s1 := hfa.bl.cell 1;have sz := hfa.bl.lt;have hrl4 : r'.length <= 4096 := HTR.o.len;clear hfa hA2 hbx hsp hal ha8 hhi
          by_cases hqr : q < r'.length
          ·obtain ⟨b5, off5, ai, ci, hae5, hc5, hi5⟩ := hls.get hqr;have HFJL := lh hls;have HJ := lh (zj5 A hqr);rw [<- HAJ.o] at HJ;have HC8 : Hid ((r'.getD q []).length <= 128) := (HTR.o.cl _ (by rw [List.getD_eq_getElem?_getD, List.getElem?_eq_getElem hqr]; exact List.getElem_mem hqr)).1
           have hqi : (q : Int) < (r'.length : Int) := by omega
           generalize r'.getD q [] = c at *;have HI5 := lh hi5
           obtain ⟨e, hee⟩ : ∃ e : Sl, e = ⟨ai, ci, c⟩ := ⟨_, rfl⟩
           have HEE := lh hee
           have HLM : Hid (L2.length <= 1073741824) := by have h1 := HFJ.o.ls.1; have h2 := HALJ.o; have h3 := HAL.o; show _ <= _; omega
           have hc128 : c.length <= 128 := HC8.o;have zb5 : b5 < wj.heap.size := zak hc5;subst hae5;clear hls hi5 hee
           by_cases hc0 : c.length = 0
           ·have hcn : c = [] := List.eq_nil_of_length_eq_zero hc0
            have hgd : decide ((0 : Int) < (c.length : Int)) = false := by rw [hc0]; rfl
            have hgn : decide (0 < c.length) = false := by rw [hc0]; rfl
            have hgp : ¬ 0 < c.length := by omega
            have HEM := lh (zh6 p.n oa2 oc2 A2 wj (by have := HALJ.o; have := HAL.o; omega) (fun d hd => by have := HA8J.o d hd; omega) HFJ.o.ls.2);rw [<- HFJ.o.ls.1] at HEM
            cases hem : zea A2 with
            | true =>
              have HJN : Hid (zcg A (r'.take (q + 1)) = A2) := by show _ = _; rw [HJ.o, hcn, hem]; rfl
              rw [hem] at HEM;clear hem hcn hc0;go_wp2_with fail;refine HEM.o.mono ?_;rintro e2 w7 ⟨rfl, hb7⟩
              have HF : Hid (FJ p ta tc (some ⟨nb, noff, none⟩) nc ca cc ins w s ab A r' (some ⟨b5, off5, none⟩) c' bX wi.heap.size V13.heap.size w7 (.int .i64 ((q : Int) + 1))) :=
               ⟨q + 1, A2, L2, oa2, oc2, by omega, by go_num, HFJ.o.later hb7, HJN.o.symm, HFJX.o.later hb7, HFJL.o.later hb7, HSPJ.o, Nat.le_trans HHI.o hb7.size, by have := HALJ.o; omega, HA8J.o⟩
              clear hb7;go_wp2;go_roundw
              case rel => exact HF.o
              case measure => simp [intOf]; omega
            | false =>
              have HJN : Hid (zcg A (r'.take (q + 1)) = A2 ++ [c]) := by show _ = _; rw [HJ.o, hem]; simp
              rw [hem] at HEM;clear hem hcn hc0;go_wp2_with fail;refine HEM.o.mono ?_;rintro e2 w7 ⟨rfl, hb7⟩;have HF7 := lh (HFJ.o.later hb7);have HF7X := lh (HFJX.o.later hb7);have HF7L := lh (HFJL.o.later hb7);have HI7 := lh (HI5.o.later hb7);have HHI := lh (Nat.le_trans HHI.o hb7.size);have x1 := HF7X.o.cell 1;have xz := HF7X.o.lt;have s1 := HF7.o.bl.cell 1;have sz := HF7.o.bl.lt;have hc5 := zaa hb7 hc5;have zb5 : b5 < w7.heap.size := zak hc5;clear hb7
              have HNW : Hid (∀ j u, (sle e)[j]? = some u -> (w7.alloc (.cells #[.slice ai c.length ci] 25)).cell? ⟨w7.heap.size, j, none⟩ = some u) := fun j u h => by
               rw [World.cell?_alloc_at _ _ _ _ rfl]; rw [HEE.o] at h; simpa [sle] using h
              have HNB : Hid (¬ (Value.slice oa2 L2.length oc2).ownBlock = some ab) := fun e => by have := (World.ownsRow.lt HF7.o.own.own _ e).1; omega
              have HZS : Hid (ab + 1 <= w7.heap.size) := HF7.o.bl.lt;go_wp2_with fail
              go_region_law (first | (refine zbn zd5 rfl _ _ rfl (ab + 1) (.slice oa2 L2.length oc2) L2 e rfl (HF7.o.own.own.alloc _).drew w7.heap.size rfl rfl HNW.o (zcp _) HLM.o (by decide) (Nat.le_trans HZS.o (by simp [World.drew])) ?_; intro g3 cap3 w3 ho3 hg3 hl3; have hk3 := Kp.grown (M := fun k => (Value.slice oa2 L2.length oc2).ownBlock = some k) hg3 (fun k hk => hk); have hb3 : Blk w3 ab #[.int .i64 p.n, .slice oa2 L2.length oc2] 24 := Blk.kept (by exact HF7.o.bl.alloc _) hk3 HNB.o; have mm1 : w3.cell? ⟨ab, 1, none⟩ = some (.slice oa2 L2.length oc2) := hb3.cell 1; have mm2 := hb3.fr 1))
              all_goals
               have HG3 : Hid (w7.grownBy w3 (Value.slice oa2 L2.length oc2).ownBlock) := by first | exact zaz hg3 | exact za1 hg3
               have hl3' : (Value.slice oa2 L2.length oc2).ownBlock = some g3 \/ w7.heap.size <= g3 := hl3.imp id (fun h => by rw [h]; simp)
               have hkg : Kp (fun k => (Value.slice oa2 L2.length oc2).ownBlock = some k) w7 w3 := Kp.grown HG3.o fun k h => h
               have hks : Kp (fun y => y = ab) w3 (w3.setCell ⟨ab, 1, none⟩ (.slice (some ⟨g3, 0, none⟩) (L2.length + 1) cap3)) := Kp.setCell _ _ _ rfl;have hfa3 := HF7.o.push (e := e) (by rw [HEE.o]; exact HI7.o.mono fun k _ hk => ⟨by have := HABW.o; omega, fun e => by have := HSPJ.o _ e; omega⟩) ho3 HG3.o hl3';rw [show e.xs = c by rw [HEE.o]] at hfa3;have hbx3 := (HF7X.o.kept hkg fun e => by have h1 := HSPJ.o _ e; have h2 := HBX.o; have h3 := HBXV.o; omega).kept hks (by have h1 := HABW.o; have h2 := HBX.o; omega);have hls3 := (HF7L.o.kept hkg fun k hk e => by have := HSPJ.o _ e; omega).kept hks (fun k hk => by have := HABW.o; omega)
               have hwz : w7.heap.size <= w3.heap.size := hkg.size
               have HF : Hid (FJ p ta tc (some ⟨nb, noff, none⟩) nc ca cc ins w s ab A r' (some ⟨b5, off5, none⟩) c' bX wi.heap.size V13.heap.size (w3.setCell ⟨ab, 1, none⟩ (.slice (some ⟨g3, 0, none⟩) (L2.length + 1) cap3)) (.int .i64 ((q : Int) + 1))) :=
                ⟨q + 1, A2 ++ [c], L2 ++ [e], some ⟨g3, 0, none⟩, cap3, by omega, by go_num, hfa3, HJN.o.symm, hbx3, hls3, fun kk e => by
                  simp [Value.ownBlock] at e
                  subst e
                  rcases hl3' with h | h
                  ·exact HSPJ.o _ h
                  ·right; have := HHI.o; omega, by have := HHI.o; rw [World.size_setCell']; omega, by have := HALJ.o; simp; omega, fun d hd => by
                  rcases List.mem_append.1 hd with hd | hd
                  ·exact HA8J.o d hd
                  simp at hd; subst hd; exact HC8.o⟩
               clear ho3 hg3 hl3 hk3 hb3 mm1 mm2 hl3' hkg hks hfa3 hbx3 hls3 hwz;go_wp2;go_roundw
               case rel => exact HF.o
               case measure => simp [intOf]; omega
           have hgd : decide ((0 : Int) < (c.length : Int)) = true := by simp; omega
           have HJN : Hid (zcg A (r'.take (q + 1)) = A2 ++ [c]) := by
            show _ = _; rw [HJ.o]; simp [show c ≠ [] from fun e => hc0 (by rw [e]; rfl)]
           have hcp : 0 < c.length := by omega
           clear hc0
           have HNW : Hid (∀ j u, (sle e)[j]? = some u -> (wj.alloc (.cells #[.slice ai c.length ci] 25)).cell? ⟨wj.heap.size, j, none⟩ = some u) := fun j u h => by
            rw [World.cell?_alloc_at _ _ _ _ rfl]; rw [HEE.o] at h; simpa [sle] using h
           have HNB : Hid (¬ (Value.slice oa2 L2.length oc2).ownBlock = some ab) := fun e => by have := (World.ownsRow.lt HFJ.o.own.own _ e).1; omega
           have HZS : Hid (ab + 1 <= wj.heap.size) := HFJ.o.bl.lt;go_wp2_with fail
           go_region_law (first | (refine zbn zd5 rfl _ _ rfl (ab + 1) (.slice oa2 L2.length oc2) L2 e rfl (HFJ.o.own.own.alloc _).drew wj.heap.size rfl rfl HNW.o (zcp _) HLM.o (by decide) (Nat.le_trans HZS.o (by simp [World.drew])) ?_; intro g3 cap3 w3 ho3 hg3 hl3; have hk3 := Kp.grown (M := fun k => (Value.slice oa2 L2.length oc2).ownBlock = some k) hg3 (fun k hk => hk); have hb3 : Blk w3 ab #[.int .i64 p.n, .slice oa2 L2.length oc2] 24 := Blk.kept (by exact HFJ.o.bl.alloc _) hk3 HNB.o; have mm1 : w3.cell? ⟨ab, 1, none⟩ = some (.slice oa2 L2.length oc2) := hb3.cell 1; have mm2 := hb3.fr 1))
           all_goals
            have HG3 : Hid (wj.grownBy w3 (Value.slice oa2 L2.length oc2).ownBlock) := by first | exact zaz hg3 | exact za1 hg3
            have hl3' : (Value.slice oa2 L2.length oc2).ownBlock = some g3 \/ wj.heap.size <= g3 := hl3.imp id (fun h => by rw [h]; simp)
            have hkg : Kp (fun k => (Value.slice oa2 L2.length oc2).ownBlock = some k) wj w3 := Kp.grown HG3.o fun k h => h
            have hks : Kp (fun y => y = ab) w3 (w3.setCell ⟨ab, 1, none⟩ (.slice (some ⟨g3, 0, none⟩) (L2.length + 1) cap3)) := Kp.setCell _ _ _ rfl;have hfa3 := HFJ.o.push (e := e) (by rw [HEE.o]; exact HI5.o.mono fun k _ hk => ⟨by have := HABW.o; omega, fun e => by have := HSPJ.o _ e; omega⟩) ho3 HG3.o hl3';rw [show e.xs = c by rw [HEE.o]] at hfa3;have hbx3 := (HFJX.o.kept hkg fun e => by have h1 := HSPJ.o _ e; have h2 := HBX.o; have h3 := HBXV.o; omega).kept hks (by have h1 := HABW.o; have h2 := HBX.o; omega);have hls3 := (HFJL.o.kept hkg fun k hk e => by have := HSPJ.o _ e; omega).kept hks (fun k hk => by have := HABW.o; omega)
            have hwz : wj.heap.size <= w3.heap.size := hkg.size
            have HF : Hid (FJ p ta tc (some ⟨nb, noff, none⟩) nc ca cc ins w s ab A r' (some ⟨b5, off5, none⟩) c' bX wi.heap.size V13.heap.size (w3.setCell ⟨ab, 1, none⟩ (.slice (some ⟨g3, 0, none⟩) (L2.length + 1) cap3)) (.int .i64 ((q : Int) + 1))) :=
             ⟨q + 1, A2 ++ [c], L2 ++ [e], some ⟨g3, 0, none⟩, cap3, by omega, by go_num, hfa3, HJN.o.symm, hbx3, hls3, fun kk e => by
               simp [Value.ownBlock] at e
               subst e
               rcases hl3' with h | h
               ·exact HSPJ.o _ h
               ·right; have := HHI.o; omega, by have := HHI.o; rw [World.size_setCell']; omega, by have := HALJ.o; simp; omega, fun d hd => by
               rcases List.mem_append.1 hd with hd | hd
               ·exact HA8J.o d hd
               simp at hd; subst hd; exact HC8.o⟩
            clear ho3 hg3 hl3 hk3 hb3 mm1 mm2 hl3' hkg hks hfa3 hbx3 hls3 hwz;go_wp2;go_roundw
            case rel => exact HF.o
            case measure => simp [intOf]; omega
          have hqe : q = r'.length := by omega
          subst hqe;rw [List.take_length] at HAJ;rw [<- HAJ.o] at HE4
          have HAL2 : Hid (A2.length <= (k + 1) * 4096) := by have h1 := HALJ.o; have h2 := HAL.o; show _ <= _; omega
          clear hls;go_wp2;go_roundw
          case rel => exact ⟨k + 1, A2, L2, oa2, oc2, by omega, by go_num, HFJ.o, HE4.o, HAL2.o, HA8J.o⟩
          case measure => simp [intOf]; omega
   have hke : k = ins.length := by omega
   subst hke
   have HFIN : Hid (R = (okT p.n A && decide (s.r = zab p.n A))) := by show _ = _; rw [HF.o]; unfold Prf.fend; rw [HFALL.o]
   have HCK := lh (zrv hpn A);have HZC := lh (zbu hpn (t := A));obtain ⟨rb, rcb, hrb, hrl⟩ := HFA.o.rl;have HRB := lh hrb;have HRL := lh hrl;obtain ⟨hLA, hlsA⟩ := HFA.o.ls;have s0 := HFA.o.bl.cell 0;have s1 := HFA.o.bl.cell 1;have sz := HFA.o.bl.lt;have HBI := lh HFA.o.fm.hb
   have hA30 : A.length <= 1073741824 := by have := HAL.o; omega
   have HRK := lh HFA.o.fm.ok;clear hrb hrl
   by_cases hz : chkT p.n A = 0
   ·have ht := HZC.o.1 hz;have HNM := lh (zer p.n hpn oa oc A wi ht hlsA);rw [<- hLA] at HNM
    have HFI2 : Hid (R = decide (s.r = zab p.n A)) := by show _ = _; rw [HFIN.o, HCK.o, decide_eq_true hz]; rfl
    have HNT := lh (tOk.norm hpn ht);clear hz ht hLA hlsA;go_wp2_with fail;refine HNM.o.mono ?_;rintro e w5 ⟨ya, yc, rfl, hyl, hb5⟩
    obtain ⟨w6, hw6⟩ : ∃ w6, w6 = w5.alloc (.cells #[.int .i64 p.n, .slice ya (zab p.n A).length yc] 24) := ⟨_, rfl⟩
    have hb6 : Below w5.heap.size w5 w6 := by rw [hw6]; exact (Below.refl _ _).alloc (Nat.le_refl _) _
    have hb56 := hb5.trans (hb6.mono hb5.size);have HSM := lh (zkh p.n rb rcb s.r p.n ya yc (zab p.n A) w6 (by have := HRK.o.len; omega) (fun c hc => by have := (HRK.o.cl c hc).1; omega) (by have := HNT.o.len; omega) (fun c hc => by have := (HNT.o.cl c hc).1; omega) (HRL.o.later hb56).ls (hyl.later hb6).ls);have r0 : w5.cell? ⟨w.heap.size + 1, 0, none⟩ = some (.int .i64 p.n) := (HRB.o.later hb5).cell 0;have r1 : w5.cell? ⟨w.heap.size + 1, 1, none⟩ = some (.slice rb s.r.length rcb) := (HRB.o.later hb5).cell 1;have rz : w.heap.size + 1 < w5.heap.size := (HRB.o.later hb5).lt;have HB6 := lh (HBI.o.trans (hb56.mono HBI.o.size))
    clear hyl hb5 hb6 hb56 s0 s1 sz;rw [hw6] at HSM;have HW6 := lh hw6;clear hw6;go_wp2_with fail;refine HSM.o.mono ?_;rintro e w7 ⟨rfl, hb7⟩;rw [<- HW6.o] at hb7;have HB7 := lh (HB6.o.trans (hb7.mono HB6.o.size));clear hb7;generalize decide (s.r = zab p.n A) = D at *;go_wp2;go_ret;exact ⟨by rw [HFI2.o]; rfl, HB7.o⟩
   have HNM := lh (znp p.n oa oc A wi hA30 (fun c hc => by have := HA8.o c hc; omega) hlsA hz);rw [<- hLA] at HNM
   have HFI2 : Hid (R = false) := by show _ = _; rw [HFIN.o, HCK.o, decide_eq_false hz]; rfl
   have hcz : (chkT p.n A == 0) = false := by simpa using hz
   generalize chkT p.n A = ce at *;clear hz hLA hlsA;go_wp2_with fail;refine HNM.o.mono ?_;rintro e w5 ⟨rfl, hb5⟩;have HB5 := lh (HBI.o.trans (hb5.mono HBI.o.size));clear hb5;go_wp2;go_ret;exact ⟨by rw [HFI2.o]; rfl, HB5.o.alloc HB5.o.size _⟩
end Go.Proofs.YtfmmhjphopikgaaGreatDoor
