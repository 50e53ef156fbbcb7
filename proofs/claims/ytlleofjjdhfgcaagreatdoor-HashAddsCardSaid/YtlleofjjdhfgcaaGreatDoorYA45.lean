/- Parts of the proofs of laws. Texts: Jk. -/
import Derived.Test.YtlleofjjdhfgcaaGreatDoorYA44
set_option maxHeartbeats 8000000
set_option maxRecDepth 100000
set_option linter.all false
namespace Go.Proofs.YtlleofjjdhfgcaaGreatDoor
open Go.RowKit Cen
theorem hwith_any {n : Nat} {t : List Cl} (hg : Gdt n t []) (h8 : n <= 8) (ta : Option Addr) (tc tb ob : Nat) (oa : Option Addr) (oc : Nat) (own : List Pr) (hol : own.length <= 5) (hoi : InP n own) (pa : Option Addr) (pc : Nat) (ps : List Pr) (w : World) (hE : AEnv w n ta tc t tb ob oa oc own)
 (hpl : ps.length <= 3) (hpi : InP n ps) (hp : PrCells w pa ps) :
 Calls Tryz.prog 14 #[.slice pa ps.length pc, .pointer (some ⟨tb, 0, none⟩), .pointer (some ⟨ob, 0, none⟩)] w fun e w' => e = .returned (.agg #[.string (natB (cellT n t (own ++ ps)))]) /\ Below w.heap.size w w' := by
 obtain ⟨w0, hw0⟩ := nm (w.alloc (.cells #[.string ⟨#[]⟩] 44))
 have hb0 : Below w.heap.size w w0 := by rw [hw0]; exact ba _ _
 have q0 : Blk w0 w.heap.size #[.string ⟨#[]⟩] 44 := by rw [hw0]; exact Blk.new _ _ _
 have hE0 := hE.later hb0
 have HCE : Hid (∀ V, Below w0.heap.size w0 V -> ∀ la lc, PrCells V la (own ++ ps) -> Calls Tryz.prog 15 #[.agg #[.int .i64 (n : Int), .slice ta t.length tc], .slice la (own ++ ps).length lc] V (zls (cellT n t (own ++ ps)) 0 V)) := fun V hV la lc hl => by
  have hEV := hE0.later hV;exact cellT_any hg h8 ta tc la lc (own ++ ps) V hEV.tx (by rw [List.length_append]; omega) hl (hoi.append hpi) hEV.tab hEV.dt
 have HOX := lh (fun V (hV : Below w0.heap.size w0 V) => hE0.ox.keep hV);have HPX := lh (fun V (hV : Below w0.heap.size w0 V) => (hp.keep hb0).keep hV)
 have HOL : Hid (own.length <= 65536) := by show _ <= _; omega
 have HPL : Hid (ps.length <= 65536) := by show _ <= _; omega
 have HB0 := lh hb0;have HQ0 := lh q0;have HT := lh hE0.tt;have HO := lh hE0.oo;generalize cellT n t (own ++ ps) = q at *;obtain ⟨PL, hPL⟩ := nm (own ++ ps);have HPE : Hid (own ++ ps = PL) := hPL.symm;rw [<- hPL] at HCE;clear hPL;have k0 := hE0.tt.cell 0;have k1 := hE0.tt.cell 1;have kz := hE0.tt.lt;have o0 := hE0.oo.cell 0;have oz := hE0.oo.lt;clear hg h8 hol hoi hpl hpi hp hb0 q0 hE hE0;go_enter Tryz.func14, Tryz.ntmps14
 go_upto_region 1 with fail
 rw [<- hw0];clear hw0
 have HKS : Hid (∀ w' : World, Below w0.heap.size w0 w' -> (fun w' => w'.cell? ⟨tb, 0, none⟩ = some (.int .i64 (n : Int)) /\ w'.cell? ⟨tb, 1, none⟩ = some (.slice ta t.length tc) /\ w'.cell? ⟨ob, 0, none⟩ = some (.slice oa own.length oc)) w') := fun w' hb => ⟨zab hb k0, zab hb k1, zab hb o0⟩
 go_cut [5, 6] (fun p x wx => ∃ j, p = .pointer (some ⟨j, 0, none⟩) /\ x = .int .i64 0 /\ Blk wx j #[.string (natB q)] 44 /\ Below w0.heap.size w0 wx)
 case first =>
  refine wp_region_held_drew (S := (fun w' => w'.cell? ⟨tb, 0, none⟩ = some (.int .i64 (n : Int)) /\ w'.cell? ⟨tb, 1, none⟩ = some (.slice ta t.length tc) /\ w'.cell? ⟨ob, 0, none⟩ = some (.slice oa own.length oc))) (by kernel_rfl) (by exact HKS.o _ ((Below.refl w0.heap.size w0).drew)) fun hH => ?_
  refine tkV 0 8 rfl rfl ?_; try simp only [tkS]
  refine tkV 2 10 rfl rfl ?_; try simp only [tkS]
  refine tkV 4 12 rfl rfl ?_; try simp only [tkS]
  refine wpAnyH_ready (rs := [1, 10]) (by kernel_rfl) (by simp) ?_;refine AllReadyH.cons rfl (fun K hK => ?_) (AllReadyH.cons rfl (fun K hK => ?_) AllReadyH.nil)
  focus
   go_simp;obtain ⟨sb, hj⟩ := nm w0.heap.size
   have hjwsb : w0.heap.size <= sb := by rw [hj]; exact Nat.le_refl _
   have hv21 : Below w0.heap.size w0 ((w0.alloc (.cells #[] 42)).drew) := (Below.alloc (Below.refl w0.heap.size w0) (Nat.le_refl _) _).drew
   have o21 : OwnP ((w0.alloc (.cells #[] 42)).drew) w0.heap.size (.slice (some ⟨sb, 0, none⟩) 0 0) [] := by rw [hj]; exact World.ownsRow_lit w0 #[] 0 (Nat.le_refl _) (by unfold maxLen; omega) rfl
   refine hK.out _ _ (by exact HKS.o _ hv21) fun hH => ?_
   clear hK K
   try simp only [tkS]
   rw [<- hj];generalize (w0.alloc (.cells #[] 42)).drew = V21 at *;clear hj;refine wpAnyH_ready (rs := [3, 10]) (by kernel_rfl) (by simp) ?_;refine AllReadyH.cons rfl (fun K hK => ?_) (AllReadyH.cons rfl (fun K hK => ?_) AllReadyH.nil)
   focus
    refine step_append_prs (by kernel_rfl) _ _ rfl w0.heap.size _ [] rfl o21 oa oc own rfl (HOX.o _ hv21) (by simp) HOL.o (Below.size hv21) ?_;intro v22 V22 o22 hgr22 hjn22;rw [List.nil_append] at o22;have hv22 : Below w0.heap.size w0 V22 := hv21.grown hgr22 (Below.size hv21) (fun q hq => (World.ownsRow.lt o21 q hq).1);clear hgr22 hjn22
    refine hK.out _ _ (by exact HKS.o _ hv22) fun hH => ?_
    clear hK K
    try simp only [tkS]
    refine wpAnyH_ready (rs := [5, 10]) (by kernel_rfl) (by simp) ?_;refine AllReadyH.cons rfl (fun K hK => ?_) (AllReadyH.cons rfl (fun K hK => ?_) AllReadyH.nil)
    focus
     refine step_append_prs (by kernel_rfl) _ _ rfl w0.heap.size _ own rfl o22 pa pc ps rfl (HPX.o _ hv22) HOL.o HPL.o (Below.size hv22) ?_;intro v23 V23 o23 hgr23 hjn23;have hv23 : Below w0.heap.size w0 V23 := hv22.grown hgr23 (Below.size hv22) (fun q hq => (World.ownsRow.lt o22 q hq).1);clear hgr23 hjn23;rw [HPE.o] at o23;obtain ⟨pa2, pc2, rfl, pr23⟩ := OwnP.pc o23
     refine hK.out _ _ (by exact HKS.o _ hv23) fun hH => ?_
     clear hK K
     try simp only [tkS]
     refine wpAnyH_ready (rs := [6, 10]) (by kernel_rfl) (by simp) ?_;refine AllReadyH.cons rfl (fun K hK => ?_) (AllReadyH.cons rfl (fun K hK => ?_) AllReadyH.nil)
     focus
      go_simp;go_at_call 15;refine Calls.mono (HCE.o _ hv23 _ _ pr23) ?_;rintro e V24 ⟨rfl, hb24⟩;have hv24 : Below w0.heap.size w0 V24 := Below.trans hv23 (Below.mono hb24 (Below.size hv23));clear hb24;go_wp2_with fail
      refine hK.out _ _ (by exact HKS.o _ hv24) fun hH => ?_
      clear hK K
      try simp only [tkS]
      refine tkV 7 7 rfl rfl ?_; try simp only [tkS]
      refine tkV 8 15 rfl rfl ?_; try simp only [tkS]
      refine tkV 9 16 rfl rfl ?_; try simp only [tkS]
      refine tkR 10 (.cons rfl (fun K hK => ?_) .nil);go_simp;obtain ⟨j, hj⟩ := nm V24.heap.size
      have hjwj : w0.heap.size <= j := by rw [hj]; exact Below.size hv24
      have hv25 : Below w0.heap.size w0 (V24.alloc (.cells #[.string ⟨#[]⟩] 44)) := Below.alloc hv24 (Below.size hv24) _;have q25 : Blk (V24.alloc (.cells #[.string ⟨#[]⟩] 44)) j #[.string ⟨#[]⟩] 44 := Blk.new' _ hj.symm _ _
      refine hK.out _ _ (by exact HKS.o _ hv25) fun hH => ?_
      clear hK K
      try simp only [tkS]
      rw [<- hj];generalize V24.alloc (.cells #[.string ⟨#[]⟩] 44) = V25 at *;clear hj
     rotate_left
     focus
      go_simp;obtain ⟨j, hj⟩ := nm V23.heap.size
      have hjwj : w0.heap.size <= j := by rw [hj]; exact Below.size hv23
      have hv24 : Below w0.heap.size w0 (V23.alloc (.cells #[.string ⟨#[]⟩] 44)) := Below.alloc hv23 (Below.size hv23) _;have q24 : Blk (V23.alloc (.cells #[.string ⟨#[]⟩] 44)) j #[.string ⟨#[]⟩] 44 := Blk.new' _ hj.symm _ _;have pr24 := PrCells.keep pr23 (show Below V23.heap.size V23 (V23.alloc (.cells #[.string ⟨#[]⟩] 44)) from ba _ _)
      refine hK.out _ _ (by exact HKS.o _ hv24) fun hH => ?_
      clear hK K
      try simp only [tkS]
      rw [<- hj];generalize V23.alloc (.cells #[.string ⟨#[]⟩] 44) = V24 at *;clear hj;refine tkR 6 (.cons rfl (fun K hK => ?_) .nil);go_simp;go_at_call 15;refine Calls.mono (HCE.o _ hv24 _ _ pr24) ?_;rintro e V25 ⟨rfl, hb25⟩;have hv25 : Below w0.heap.size w0 V25 := Below.trans hv24 (Below.mono hb25 (Below.size hv24));have q25 := q24.later hb25;clear hb25;go_wp2_with fail
      refine hK.out _ _ (by exact HKS.o _ hv25) fun hH => ?_
      clear hK K
      try simp only [tkS]
      refine tkV 7 7 rfl rfl ?_; try simp only [tkS]
      refine tkV 8 15 rfl rfl ?_; try simp only [tkS]
      refine tkV 9 16 rfl rfl ?_; try simp only [tkS]
     rotate_left
    rotate_left 2
    focus
     go_simp;obtain ⟨j, hj⟩ := nm V22.heap.size
     have hjwj : w0.heap.size <= j := by rw [hj]; exact Below.size hv22
     have hv23 : Below w0.heap.size w0 (V22.alloc (.cells #[.string ⟨#[]⟩] 44)) := Below.alloc hv22 (Below.size hv22) _;have q23 : Blk (V22.alloc (.cells #[.string ⟨#[]⟩] 44)) j #[.string ⟨#[]⟩] 44 := Blk.new' _ hj.symm _ _
     have jn23 : Value.ownBlock v22 ≠ some j := fun e => by have h1 := (World.ownsRow.lt o22 _ e).2; omega
     have o23 := OwnL.alloc o22 (.cells #[.string ⟨#[]⟩] 44)
     refine hK.out _ _ (by exact HKS.o _ hv23) fun hH => ?_
     clear hK K
     try simp only [tkS]
     rw [<- hj];generalize V22.alloc (.cells #[.string ⟨#[]⟩] 44) = V23 at *;clear hj;refine tkR 5 (.cons rfl (fun K hK => ?_) .nil);refine step_append_prs (by kernel_rfl) _ _ rfl w0.heap.size _ own rfl o23 pa pc ps rfl (HPX.o _ hv23) HOL.o HPL.o (Below.size hv23) ?_;intro v24 V24 o24 hgr24 hjn24;have hv24 : Below w0.heap.size w0 V24 := hv23.grown hgr24 (Below.size hv23) (fun q hq => (World.ownsRow.lt o23 q hq).1);have q24 := Blk.kept q23 (Kp.grown (M := fun y => Value.ownBlock v22 = some y) hgr24 (fun k e => e)) jn23;have jn24 := hjn24 _ q23.lt jn23;clear hgr24 hjn24;rw [HPE.o] at o24;clear jn24
     obtain ⟨pa2, pc2, rfl, pr24⟩ := OwnP.pc o24
     refine hK.out _ _ (by exact HKS.o _ hv24) fun hH => ?_
     clear hK K
     try simp only [tkS]
     refine tkR 6 (.cons rfl (fun K hK => ?_) .nil);go_simp;go_at_call 15;refine Calls.mono (HCE.o _ hv24 _ _ pr24) ?_;rintro e V25 ⟨rfl, hb25⟩;have hv25 : Below w0.heap.size w0 V25 := Below.trans hv24 (Below.mono hb25 (Below.size hv24));have q25 := q24.later hb25;clear hb25;go_wp2_with fail
     refine hK.out _ _ (by exact HKS.o _ hv25) fun hH => ?_
     clear hK K
     try simp only [tkS]
     refine tkV 7 7 rfl rfl ?_; try simp only [tkS]
     refine tkV 8 15 rfl rfl ?_; try simp only [tkS]
     refine tkV 9 16 rfl rfl ?_; try simp only [tkS]
    rotate_left
   rotate_left 3
   focus
    go_simp;obtain ⟨j, hj⟩ := nm V21.heap.size
    have hjwj : w0.heap.size <= j := by rw [hj]; exact Below.size hv21
    have hv22 : Below w0.heap.size w0 (V21.alloc (.cells #[.string ⟨#[]⟩] 44)) := Below.alloc hv21 (Below.size hv21) _;have q22 : Blk (V21.alloc (.cells #[.string ⟨#[]⟩] 44)) j #[.string ⟨#[]⟩] 44 := Blk.new' _ hj.symm _ _
    have jn22 : Value.ownBlock (Value.slice (some ⟨sb, 0, none⟩) 0 0) ≠ some j := fun e => by have h1 := (World.ownsRow.lt o21 _ e).2; omega
    have o22 := OwnL.alloc o21 (.cells #[.string ⟨#[]⟩] 44)
    refine hK.out _ _ (by exact HKS.o _ hv22) fun hH => ?_
    clear hK K
    try simp only [tkS]
    rw [<- hj];generalize V21.alloc (.cells #[.string ⟨#[]⟩] 44) = V22 at *;clear hj;refine tkR 3 (.cons rfl (fun K hK => ?_) .nil);refine step_append_prs (by kernel_rfl) _ _ rfl w0.heap.size _ [] rfl o22 oa oc own rfl (HOX.o _ hv22) (by simp) HOL.o (Below.size hv22) ?_;intro v23 V23 o23 hgr23 hjn23;rw [List.nil_append] at o23;have hv23 : Below w0.heap.size w0 V23 := hv22.grown hgr23 (Below.size hv22) (fun q hq => (World.ownsRow.lt o22 q hq).1);have q23 := Blk.kept q22 (Kp.grown (M := fun y => Value.ownBlock (Value.slice (some ⟨sb, 0, none⟩) 0 0) = some y) hgr23 (fun k e => e)) jn22;have jn23 := hjn23 _ q22.lt jn22
    clear hgr23 hjn23
    refine hK.out _ _ (by exact HKS.o _ hv23) fun hH => ?_
    clear hK K
    try simp only [tkS]
    refine tkR 5 (.cons rfl (fun K hK => ?_) .nil);refine step_append_prs (by kernel_rfl) _ _ rfl w0.heap.size _ own rfl o23 pa pc ps rfl (HPX.o _ hv23) HOL.o HPL.o (Below.size hv23) ?_;intro v24 V24 o24 hgr24 hjn24;have hv24 : Below w0.heap.size w0 V24 := hv23.grown hgr24 (Below.size hv23) (fun q hq => (World.ownsRow.lt o23 q hq).1);have q24 := Blk.kept q23 (Kp.grown (M := fun y => Value.ownBlock v23 = some y) hgr24 (fun k e => e)) jn23;have jn24 := hjn24 _ q23.lt jn23;clear hgr24 hjn24;rw [HPE.o] at o24;clear jn24;obtain ⟨pa2, pc2, rfl, pr24⟩ := OwnP.pc o24
    refine hK.out _ _ (by exact HKS.o _ hv24) fun hH => ?_
    clear hK K
    try simp only [tkS]
    refine tkR 6 (.cons rfl (fun K hK => ?_) .nil);go_simp;go_at_call 15;refine Calls.mono (HCE.o _ hv24 _ _ pr24) ?_;rintro e V25 ⟨rfl, hb25⟩;have hv25 : Below w0.heap.size w0 V25 := Below.trans hv24 (Below.mono hb25 (Below.size hv24));have q25 := q24.later hb25;clear hb25;go_wp2_with fail
    refine hK.out _ _ (by exact HKS.o _ hv25) fun hH => ?_
    clear hK K
    try simp only [tkS]
    refine tkV 7 7 rfl rfl ?_; try simp only [tkS]
    refine tkV 8 15 rfl rfl ?_; try simp only [tkS]
    refine tkV 9 16 rfl rfl ?_; try simp only [tkS]
   rotate_left
  rotate_left 4
  focus
   go_simp;obtain ⟨j, hj⟩ := nm w0.heap.size
   have hjwj : w0.heap.size <= j := by rw [hj]; exact Nat.le_refl _
   have hv21 : Below w0.heap.size w0 ((w0.alloc (.cells #[.string ⟨#[]⟩] 44)).drew) := (Below.alloc (Below.refl w0.heap.size w0) (Nat.le_refl _) _).drew;have q21 : Blk ((w0.alloc (.cells #[.string ⟨#[]⟩] 44)).drew) j #[.string ⟨#[]⟩] 44 := Blk.new' _ hj.symm _ _
   refine hK.out _ _ (by exact HKS.o _ hv21) fun hH => ?_
   clear hK K
   try simp only [tkS]
   rw [<- hj];generalize (w0.alloc (.cells #[.string ⟨#[]⟩] 44)).drew = V21 at *;clear hj;refine tkR 1 (.cons rfl (fun K hK => ?_) .nil);go_simp;obtain ⟨sb, hj⟩ := nm V21.heap.size
   have hjwsb : w0.heap.size <= sb := by rw [hj]; exact Below.size hv21
   have hv22 : Below w0.heap.size w0 (V21.alloc (.cells #[] 42)) := Below.alloc hv21 (Below.size hv21) _
   have o22 : OwnP (V21.alloc (.cells #[] 42)) w0.heap.size (.slice (some ⟨sb, 0, none⟩) 0 0) [] := by rw [hj]; exact World.ownsRow_lit V21 #[] 0 (Below.size hv21) (by unfold maxLen; omega) rfl
   have jn22 : Value.ownBlock (Value.slice (some ⟨sb, 0, none⟩) 0 0) ≠ some j := fun e => by have h1 := q21.lt; simp only [Value.ownBlock, Option.some.injEq] at e; rw [<- e, hj] at h1; exact absurd h1 (Nat.lt_irrefl _)
   have q22 := q21.alloc (.cells #[] 42)
   refine hK.out _ _ (by exact HKS.o _ hv22) fun hH => ?_
   clear hK K
   try simp only [tkS]
   rw [<- hj];generalize V21.alloc (.cells #[] 42) = V22 at *;clear hj;refine tkR 3 (.cons rfl (fun K hK => ?_) .nil);refine step_append_prs (by kernel_rfl) _ _ rfl w0.heap.size _ [] rfl o22 oa oc own rfl (HOX.o _ hv22) (by simp) HOL.o (Below.size hv22) ?_;intro v23 V23 o23 hgr23 hjn23;rw [List.nil_append] at o23;have hv23 : Below w0.heap.size w0 V23 := hv22.grown hgr23 (Below.size hv22) (fun q hq => (World.ownsRow.lt o22 q hq).1);have q23 := Blk.kept q22 (Kp.grown (M := fun y => Value.ownBlock (Value.slice (some ⟨sb, 0, none⟩) 0 0) = some y) hgr23 (fun k e => e)) jn22;have jn23 := hjn23 _ q22.lt jn22
   clear hgr23 hjn23
   refine hK.out _ _ (by exact HKS.o _ hv23) fun hH => ?_
   clear hK K
   try simp only [tkS]
   refine tkR 5 (.cons rfl (fun K hK => ?_) .nil);refine step_append_prs (by kernel_rfl) _ _ rfl w0.heap.size _ own rfl o23 pa pc ps rfl (HPX.o _ hv23) HOL.o HPL.o (Below.size hv23) ?_;intro v24 V24 o24 hgr24 hjn24;have hv24 : Below w0.heap.size w0 V24 := hv23.grown hgr24 (Below.size hv23) (fun q hq => (World.ownsRow.lt o23 q hq).1);have q24 := Blk.kept q23 (Kp.grown (M := fun y => Value.ownBlock v23 = some y) hgr24 (fun k e => e)) jn23;have jn24 := hjn24 _ q23.lt jn23;clear hgr24 hjn24;rw [HPE.o] at o24;clear jn24;obtain ⟨pa2, pc2, rfl, pr24⟩ := OwnP.pc o24
   refine hK.out _ _ (by exact HKS.o _ hv24) fun hH => ?_
   clear hK K
   try simp only [tkS]
   refine tkR 6 (.cons rfl (fun K hK => ?_) .nil);go_simp;go_at_call 15;refine Calls.mono (HCE.o _ hv24 _ _ pr24) ?_;rintro e V25 ⟨rfl, hb25⟩;have hv25 : Below w0.heap.size w0 V25 := Below.trans hv24 (Below.mono hb25 (Below.size hv24));have q25 := q24.later hb25;clear hb25;go_wp2_with fail
   refine hK.out _ _ (by exact HKS.o _ hv25) fun hH => ?_
   clear hK K
   try simp only [tkS]
   refine tkV 7 7 rfl rfl ?_; try simp only [tkS]
   refine tkV 8 15 rfl rfl ?_; try simp only [tkS]
   refine tkV 9 16 rfl rfl ?_; try simp only [tkS]
  rotate_left
  all_goals
   refine tkR 11 (.cons rfl (fun K hK => ?_) .nil);have d0 := q25.cell 0;have f0 := q25.fr 0;have dl := q25.lt;go_simp;have hvs := Below.setCell hv25 (p := ⟨j, 0, none⟩) hjwj (.string (natB q));have qs := q25.set 0 (.string (natB q))
   refine hK.out _ _ (by exact HKS.o _ hvs) fun hH => ?_
   clear hK K
   try simp only [tkS]
   refine tkV 12 6 rfl rfl ?_; try simp only [tkS]
   refine wpAnyH_done (by kernel_rfl) ?_ _;go_wp2_with fail
   go_meet
   exact ⟨j, rfl, rfl, qs, hvs⟩
 obtain ⟨j, rfl, rfl, qj, hbx⟩ := hcut
 rename World => wx
 clear k0 k1 kz o0 oz HKS;have qr := HQ0.o.later hbx;have j0 := qj.cell 0;have jz := qj.lt;have r0 := qr.cell 0;have rf := qr.fr 0;have rz := qr.lt;go_wp2_with fail;have g0 := (qr.set 0 (.string (natB q))).cell 0;exact bodyPost_ret (v := .agg #[.string (natB q)]) (by simp [results, Tryz.results14, go_sem, g0]) rfl ⟨rfl, (HB0.o.trans (hbx.mono HB0.o.size)).setCell (Nat.le_refl _) _⟩
end Go.Proofs.YtlleofjjdhfgcaaGreatDoor
