/- Part of the proofs that laws return true for every input, where the tables that the rows list are laid. Texts: Hv, Hy, ArgB, Arg2, Arg4, ArgU. -/
import Derived.Test.YtflhbcnhaeijbaaGreatDoorYH39
import Derived.Test.YtflhbcnhaeijbaaGreatDoorYH32
import Derived.Test.YtflhbcnhaeijbaaGreatDoorRows
import Derived.Test.YtflhbcnhaeijbaaGreatDoorYH4
import Derived.ProofKit
import Derived.LaidMore
import Derived.LaidSub
import Derived.OpenShut
import Derived.Stop.Joined
import Derived.Deep.Slices
import Derived.Deep.Fields
import Derived.Lib.SmallJoins
import Derived.Lib.LaidTab
import Derived.Lay
import Derived.Test.YtflhbcnhaeijbaaGreatDoorYH29
import Derived.Test.YtflhbcnhaeijbaaGreatDoorYH30
import Derived.Test.YtflhbcnhaeijbaaGreatDoorYH1
set_option maxHeartbeats 8000000
set_option maxRecDepth 100000
set_option linter.unusedSimpArgs false
set_option linter.unusedVariables false
namespace Go.Proofs.YtflhbcnhaeijbaaGreatDoor
open Go.RowKit Cen
theorem run_eql_nat (x y : ByteArray) (w : World) : (binOp .eql 44 (.agg #[.string x]) (.agg #[.string y])).run Tryz.prog w = .ok (.bool (x.toList == y.toList)) w := by
 have hp0 : ∀ (x : Value) w, (part 9 #[x] 0).run Tryz.prog w = .ok x w := fun x w => by kernel_rfl
 rw [run_eql_struct, run_equalIn_struct w 9999 _ _ _ (by kernel_rfl) (by kernel_rfl)];rw [show (Tryz.prog.fieldsOf 44).toList = [{ name := "b", type := 9, offset := 0, embedded := false, tag := "", pkgPath := "census/nat", byteOffset := 0 }] by kernel_rfl];simp only [Op.eqFields, Sem.run_bind, Sem.run_ite, hp0, Result.andThen_ok, run_equalIn_string w 9998 9 x y Tryz.underlying9]
 cases (x.toList == y.toList) <;> simp
theorem eqGuard_nat : Tryz.prog.eqGuardType Tryz.prog.depth 44 = false := by kernel_rfl
theorem u8_one {w : World} {b x : Nat} (h : Blk w b #[.int .u8 (x : Int)] 5) (hx : x < 256) : U8Cells w (some ⟨b, 0, none⟩) [x] := by
 intro i hi
 obtain rfl : i = 0 := by simpa using hi
 exact ⟨b, 0, rfl, h.cell 0, hx⟩
theorem sam_out (bs : List Nat) (h : (parsF bs 3 1).any (outP 3) = false) (q : Nat) (hc : cellO 3 samN (parsF bs 3 1) = some q) (hl : bs.length = 1) (hq : q * 2 ^ 1 <= 255) : EstOk 3 samT 1 bs q := ⟨by omega, by omega, h, hc, hq⟩
theorem sam_o1 : (parsF [192] 3 1).any (outP 3) = false := by decide +kernel
theorem sam_o2 : (parsF [208] 3 1).any (outP 3) = false := by decide +kernel
theorem sam_o3 : (parsF [16] 3 1).any (outP 3) = false := by decide +kernel
theorem sam_ow : ([⟨⟨3, 0⟩, true⟩, ⟨⟨4, 0⟩, true⟩] : List Pr).any (outP 3) = false := by decide +kernel
theorem med3 {l' : List Nat} (hp : l'.Perm [2, 6, 0]) (hs : Sd leN l' 0 3) : gd l' 1 = 2 := by
 have hl := hp.length_eq
 match l', hl with
 | [a, b, c], _ =>
   have h1 := hs 0 1 (by omega) (by omega) (by omega);have h2 := hs 1 2 (by omega) (by omega) (by omega);have m0 : a ∈ [2, 6, 0] := hp.mem_iff.1 (by simp);have m1 : b ∈ [2, 6, 0] := hp.mem_iff.1 (by simp);have m2 : c ∈ [2, 6, 0] := hp.mem_iff.1 (by simp);have hsum := hp.sum_nat
   simp [gd, leN] at *
   omega
theorem pr_two {w : World} {b : Nat} (h : Blk w b #[.int .u64 3, .int .u64 0, .bool true, .int .u64 4, .int .u64 0, .bool true] 36) : PrCells w (some ⟨b, 0, none⟩) [⟨⟨3, 0⟩, true⟩, ⟨⟨4, 0⟩, true⟩] := by
 intro i hi
 have : i = 0 \/ i = 1 := by simp at hi; omega
 rcases this with rfl | rfl
 ·exact ⟨b, 0, rfl, h.cell 0, h.cell 1, h.cell 2⟩
 exact ⟨b, 0, rfl, h.cell 3, h.cell 4, h.cell 5⟩
theorem sd_three {w : World} {a b c d : Nat} (ha : Blk w a #[.int .u8 192] 5) (hb : Blk w b #[.int .u8 208] 5) (hc : Blk w c #[.int .u8 16] 5)
 (hd : Blk w d #[.slice (some ⟨a, 0, none⟩) 1 1, .slice (some ⟨b, 0, none⟩) 1 1, .slice (some ⟨c, 0, none⟩) 1 1] 22) : SdCells w (some ⟨d, 0, none⟩) [[192], [208], [16]] := by
 intro i hi
 have : i = 0 \/ i = 1 \/ i = 2 := by simp at hi; omega
 rcases this with rfl | rfl | rfl
 ·exact ⟨d, 0, _, _, rfl, hd.cell 0, u8_one ha (by decide)⟩
 ·exact ⟨d, 0, _, _, rfl, hd.cell 1, u8_one hb (by decide)⟩
 exact ⟨d, 0, _, _, rfl, hd.cell 2, u8_one hc (by decide)⟩
theorem works45_any (w : World) (htab : Tab w) (hdt : Dtab w) : Calls Tryz.prog 5 #[] w fun e w' => e = .returned (.bool true) /\ Below w.heap.size w w' := by
 have HPR : Hid (∀ V b, Blk V b #[.int .u8 193] 5 -> Calls Tryz.prog 6 #[.slice (some ⟨b, 0, none⟩) 1 1, .int .i64 3, .int .i64 2] V fun e w' => ∃ g, e = .returned (.tuple #[.slice (some ⟨g, 0, none⟩) 2 2, .int .i64 0]) /\ OwnP w' V.heap.size (.slice (some ⟨g, 0, none⟩) 2 2) (parsF [193] 3 2) /\ Below V.heap.size V w') :=
  fun V b hb => pars_any (some ⟨b, 0, none⟩) 1 [193] 3 2 V (by decide) (u8_one hb (by decide)) (by omega) (by omega) (by decide)
 have HSM := lh (fun V => sample_any V)
 have HCE : Hid (∀ V, Below w.heap.size w V -> ∀ a cap la, LsCells V a samT -> PrCells V la [⟨⟨3, 0⟩, true⟩, ⟨⟨4, 0⟩, true⟩] -> Calls Tryz.prog 11 #[.agg #[.int .i64 3, .slice a 2 cap], .slice la 2 2] V (CellPost 2 0 V)) :=
  fun V hV a cap la hx hp => cell_any 3 a cap samT la 2 [⟨⟨3, 0⟩, true⟩, ⟨⟨4, 0⟩, true⟩] 2 V sam_gd hx (by decide) hp (by intro p hp; simp at hp; rcases hp with rfl | rfl <;> exact ⟨by decide, by decide⟩) sam_ow sam_w (htab.keep hV) (hdt.keep hV)
 have HMD : Hid (∀ V, Below w.heap.size w V -> ∀ a cap sa, LsCells V a samT -> SdCells V sa [[192], [208], [16]] -> Calls Tryz.prog 14 #[.agg #[.int .i64 3, .slice a 2 cap], .slice sa 3 3, .int .i64 1] V (MdPost [2, 6, 0] V)) :=
  fun V hV a cap sa hx hp => median_any 3 a cap samT sa 3 [[192], [208], [16]] 1 [1, 3, 0] V sam_gd hx hp (by decide) (by decide) (by decide) rfl (fun i hi => by
   have : i = 0 \/ i = 1 \/ i = 2 := by simp at hi; omega
   rcases this with rfl | rfl | rfl
   ·exact sam_out _ sam_o1 _ sam_e1 rfl (by decide)
   ·exact sam_out _ sam_o2 _ sam_e2 rfl (by decide)
   exact sam_out _ sam_o3 _ sam_e3 rfl (by decide)) (htab.keep hV) (hdt.keep hV)
 have HOF : Hid (∀ V : World, Calls Tryz.prog 13 #[.int .u64 2] V fun e w' => e = .returned (.agg #[.string (natB 2)]) /\ Below V.heap.size V w') := fun V => of_any 2 (by decide) V
 clear htab hdt;go_enter Tryz.func5, Tryz.ntmps5;go_wp2_with fail;have HB1 : Hid (Below w.heap.size w (w.alloc (.cells #[.int .u8 193] 5))) := (Below.refl _ _).alloc (Nat.le_refl _) _;refine (HPR.o _ _ (Blk.new _ _ _)).mono ?_;rintro e w2 ⟨g, rfl, hown, hb2⟩;rw [sam_p] at hown;have HB2 := lh (HB1.o.trans (hb2.mono HB1.o.size));have HO2 := lh hown;clear hb2 hown HPR HB1;go_wp2_with fail;refine (HSM.o _).mono ?_;rintro e w3 ⟨a3, c3, rfl, hl3, hb3⟩;have HB3 := lh (HB2.o.trans (hb3.mono HB2.o.size));have HO3 := lh (HO2.o.later hb3);have HL3 := lh hl3;clear hb3 hl3 HO2;go_wp2_with fail;have hb4 : Below w3.heap.size w3 (w3.alloc (.cells #[.int .u64 3, .int .u64 0, .bool true, .int .u64 4, .int .u64 0, .bool true] 36)) := (Below.refl _ _).alloc (Nat.le_refl _) _
 have HB4 := lh (HB3.o.trans (hb4.mono HB3.o.size));refine (HCE.o _ HB4.o _ _ _ (HL3.o.keep hb4) (pr_two (Blk.new _ _ _))).mono ?_;rintro e w5 ⟨rfl, hb5⟩;have HO5 := lh ((HO3.o.later hb4).later hb5);have HB5 := lh (HB4.o.trans (hb5.mono HB4.o.size));clear hb4 hb5 HO3 HL3;go_wp2_with fail
 obtain ⟨t3, ht3⟩ : ∃ b, b = w5.heap.size := ⟨_, rfl⟩
 obtain ⟨w6, hw6⟩ : ∃ W, W = w5.alloc (.cells #[.string (natB 2)] 44) := ⟨_, rfl⟩
 have hb6 : Below w5.heap.size w5 w6 := by rw [hw6]; exact (Below.refl _ _).alloc (Nat.le_refl _) _
 have q6 : Blk w6 t3 #[.string (natB 2)] 44 := by rw [hw6, ht3]; exact Blk.new _ _ _
 have HB6 := lh (HB5.o.trans (hb6.mono HB5.o.size));have HO6 := lh (HO5.o.later hb6);have HQ6 := lh q6;rw [<- hw6, <- ht3];clear hb6 q6 hw6 ht3 HO5;refine (HSM.o _).mono ?_;rintro e w7 ⟨a7, c7, rfl, hl7, hb7⟩;have HB7 := lh (HB6.o.trans (hb7.mono HB6.o.size));have HO7 := lh (HO6.o.later hb7);have HQ7 := lh (HQ6.o.later hb7);have HL7 := lh hl7;clear hb7 hl7 HO6 HQ6;go_wp2_with fail
 obtain ⟨B, hB⟩ : ∃ b, b = w7.heap.size := ⟨_, rfl⟩
 obtain ⟨w8, hw8⟩ : ∃ W, W = (((w7.alloc (.cells #[.int .u8 192] 5)).alloc (.cells #[.int .u8 208] 5)).alloc (.cells #[.int .u8 16] 5)).alloc (.cells #[.slice (some ⟨B, 0, none⟩) 1 1, .slice (some ⟨B + 1, 0, none⟩) 1 1, .slice (some ⟨B + 1 + 1, 0, none⟩) 1 1] 22) := ⟨_, rfl⟩
 have hb8 : Below w7.heap.size w7 w8 := by rw [hw8]; exact ((((Below.refl _ _).alloc (Nat.le_refl _) _).alloc (by simp) _).alloc (by simp; omega) _).alloc (by simp; omega) _
 have s1 : Blk w8 B #[.int .u8 192] 5 := by rw [hw8, hB]; exact (((Blk.new _ _ _).alloc _).alloc _).alloc _
 have s2 : Blk w8 (B + 1) #[.int .u8 208] 5 := by rw [hw8, hB]; exact ((Blk.new' _ (by simp) _ _).alloc _).alloc _
 have s3 : Blk w8 (B + 1 + 1) #[.int .u8 16] 5 := by rw [hw8, hB]; exact (Blk.new' _ (by simp) _ _).alloc _
 have s4 : Blk w8 (B + 1 + 1 + 1) #[.slice (some ⟨B, 0, none⟩) 1 1, .slice (some ⟨B + 1, 0, none⟩) 1 1, .slice (some ⟨B + 1 + 1, 0, none⟩) 1 1] 22 := by rw [hw8, hB]; exact Blk.new' _ (by simp) _ _
 have HB8 := lh (HB7.o.trans (hb8.mono HB7.o.size));have HO8 := lh (HO7.o.later hb8);have HQ8 := lh (HQ7.o.later hb8);have HL8 := lh (HL7.o.keep hb8);have HSD := lh (sd_three s1 s2 s3 s4);rw [<- hB, <- hw8];clear hb8 s1 s2 s3 s4 hw8 hB HO7 HQ7 HL7;refine (HMD.o _ HB8.o _ _ _ HL8.o HSD.o).mono ?_;rintro e w9 ⟨l', hpm, hsd, rfl, hb9⟩;have hm2 : gd l' 1 = 2 := med3 hpm hsd;have HB9 := lh (HB8.o.trans (hb9.mono HB8.o.size));have HO9 := lh (HO8.o.later hb9);have HQ9 := lh (HQ8.o.later hb9);rw [show (([2, 6, 0] : List Nat).length - 1) / 2 = 1 from rfl, hm2];clear hpm hsd hm2 hb9 HO8 HQ8 HSD HL8
 obtain ⟨t5, ht5⟩ : ∃ b, b = w9.heap.size := ⟨_, rfl⟩
 obtain ⟨wx, hwx⟩ : ∃ W, W = w9.alloc (.cells #[.string (natB 2)] 44) := ⟨_, rfl⟩
 have hbx : Below w9.heap.size w9 wx := by rw [hwx]; exact (Below.refl _ _).alloc (Nat.le_refl _) _
 have qx : Blk wx t5 #[.string (natB 2)] 44 := by rw [hwx, ht5]; exact Blk.new _ _ _
 have HBX := lh (HB9.o.trans (hbx.mono HB9.o.size));have hox := HO9.o.later hbx;have qy := HQ9.o.later hbx;have c0 := hox.cell rfl prc_len 0 0 (by simp) (by omega);have c1 := hox.cell rfl prc_len 0 1 (by simp) (by omega);have c2 := hox.cell rfl prc_len 0 2 (by simp) (by omega);have c3 := hox.cell rfl prc_len 1 0 (by simp) (by omega);have c4 := hox.cell rfl prc_len 1 1 (by simp) (by omega);have c5 := hox.cell rfl prc_len 1 2 (by simp) (by omega);simp only [prc, List.getElem_cons_zero, List.getElem_cons_succ, List.getElem?_cons_zero, List.getElem?_cons_succ, Nat.zero_mul, Nat.one_mul, Nat.zero_add, Nat.add_zero] at c0 c1 c2 c3 c4 c5
 have x3 := qy.cell 0;have x5 := qx.cell 0;have gz := hox.lt.1;have z3 := qy.lt;have z5 := qx.lt
 have HKS : Hid (∀ w' : World, Below wx.heap.size wx w' -> (fun w' => w'.cell? ⟨g, 0, none⟩ = some (.int .u64 3) /\ w'.cell? ⟨g, 1, none⟩ = some (.int .u64 0) /\ w'.cell? ⟨g, 2, none⟩ = some (.bool false) /\ w'.cell? ⟨g, 3, none⟩ = some (.int .u64 0) /\ w'.cell? ⟨g, 4, none⟩ = some (.int .u64 0) /\ w'.cell? ⟨g, 5, none⟩ = some (.bool true) /\ w'.cell? ⟨t3, 0, none⟩ = some (.string (natB 2)) /\ w'.cell? ⟨t5, 0, none⟩ = some (.string (natB 2))) w') := fun w' hb => ⟨zaa hb c0, zaa hb c1, zaa hb c2, zaa hb c3, zaa hb c4, zaa hb c5, zaa hb x3, zaa hb x5⟩
 have hE1 := run_eql_nat (natB 2) (natB 2);rw [show ((natB 2).toList == (natB 2).toList) = true by simp] at hE1
 have hE2 : ∀ w, (binOp .eql 36 (.agg #[.int .u64 3, .int .u64 0, .bool false]) (.agg #[.int .u64 3, .int .u64 0, .bool false])).run Tryz.prog w = .ok (.bool true) w := fun w => run_eql_pr ⟨⟨3, 0⟩, false⟩ ⟨⟨3, 0⟩, false⟩ w
 have hE3 : ∀ w, (binOp .eql 36 (.agg #[.int .u64 0, .int .u64 0, .bool true]) (.agg #[.int .u64 0, .int .u64 0, .bool true])).run Tryz.prog w = .ok (.bool true) w := fun w => run_eql_pr ⟨⟨0, 0⟩, true⟩ ⟨⟨0, 0⟩, true⟩ w
 have hgp := eqGuard_pr;have hgn := eqGuard_nat
 go_upto_region 4 with fail
 rw [<- hwx, <- ht5];clear hbx qx hox qy hwx ht5 HO9 HQ9 HCE HMD HSM;refine wp_region_held_drew (S := (fun w' => w'.cell? ⟨g, 0, none⟩ = some (.int .u64 3) /\ w'.cell? ⟨g, 1, none⟩ = some (.int .u64 0) /\ w'.cell? ⟨g, 2, none⟩ = some (.bool false) /\ w'.cell? ⟨g, 3, none⟩ = some (.int .u64 0) /\ w'.cell? ⟨g, 4, none⟩ = some (.int .u64 0) /\ w'.cell? ⟨g, 5, none⟩ = some (.bool true) /\ w'.cell? ⟨t3, 0, none⟩ = some (.string (natB 2)) /\ w'.cell? ⟨t5, 0, none⟩ = some (.string (natB 2)))) (by kernel_rfl) ?_ (fun hHeld => ?_)
 ·try dsimp only
  exact HKS.o _ (Below.refl wx.heap.size wx).drew
 refine tkV 0 31 rfl rfl ?_; try simp only [tkS]
 refine tkV 1 32 rfl rfl ?_; try simp only [tkS]
 refine tkV 2 33 rfl rfl ?_; try simp only [tkS]
 refine tkV 3 34 rfl rfl ?_; try simp only [tkS]
 refine tkV 4 35 rfl rfl ?_; try simp only [tkS]
 refine tkV 5 36 rfl rfl ?_; try simp only [tkS]
 refine tkV 6 37 rfl rfl ?_; try simp only [tkS]
 refine tkV 7 38 rfl rfl ?_; try simp only [tkS]
 refine tkV 8 39 rfl rfl ?_; try simp only [tkS]
 refine tkV 9 40 rfl rfl ?_; try simp only [tkS]
 refine tkV 10 41 rfl rfl ?_; try simp only [tkS]
 refine tkV 11 42 rfl rfl ?_; try simp only [tkS]
 refine tkV 12 43 rfl rfl ?_; try simp only [tkS]
 refine tkV 13 44 rfl rfl ?_; try simp only [tkS]
 refine tkV 14 45 rfl rfl ?_; try simp only [tkS]
 refine tkV 15 46 rfl rfl ?_; try simp only [tkS]
 refine tkV 16 47 rfl rfl ?_; try simp only [tkS]
 refine tkV 17 48 rfl rfl ?_; try simp only [tkS]
 refine tkV 18 49 rfl rfl ?_; try simp only [tkS]
 refine tkV 19 50 rfl rfl ?_; try simp only [tkS]
 refine tkV 20 51 rfl rfl ?_; try simp only [tkS]
 refine tkV 21 52 rfl rfl ?_; try simp only [tkS]
 refine tkV 22 53 rfl rfl ?_; try simp only [tkS]
 refine tkV 23 54 rfl rfl ?_; try simp only [tkS]
 refine tkR 24 (.cons rfl (fun K hK => ?_) .nil);go_simp;go_at_call 13;refine Calls.mono (HOF.o _) ?_;rintro e V20 ⟨rfl, hb20⟩;have hv20 : Below wx.heap.size wx V20 := Below.trans (Below.refl wx.heap.size wx).drew (Below.mono hb20 (Below.size (Below.refl wx.heap.size wx).drew));clear hb20;go_wp2_with fail;refine hK.out _ _ ?_ (fun hHeld => ?_)
 ·try dsimp only
  exact HKS.o _ hv20
 clear hK K
 try simp only [tkS]
 refine tkV 25 56 rfl rfl ?_; try simp only [tkS]
 refine tkV 26 57 rfl rfl ?_; try simp only [tkS]
 refine tkV 27 58 rfl rfl ?_; try simp only [tkS]
 refine tkV 28 59 rfl rfl ?_; try simp only [tkS]
 refine tkV 29 60 rfl rfl ?_; try simp only [tkS]
 refine tkV 30 61 rfl rfl ?_; try simp only [tkS]
 refine tkV 31 62 rfl rfl ?_; try simp only [tkS]
 refine tkV 32 63 rfl rfl ?_; try simp only [tkS]
 refine tkR 33 (.cons rfl (fun K hK => ?_) .nil);go_simp;go_at_call 13;refine Calls.mono (HOF.o _) ?_;rintro e V21 ⟨rfl, hb21⟩;have hv21 : Below wx.heap.size wx V21 := Below.trans hv20 (Below.mono hb21 (Below.size hv20));clear hb21;go_wp2_with fail;refine hK.out _ _ ?_ (fun hHeld => ?_)
 ·try dsimp only
  exact HKS.o _ hv21
 clear hK K
 try simp only [tkS]
 refine tkV 34 65 rfl rfl ?_; try simp only [tkS]
 refine tkV 35 66 rfl rfl ?_; try simp only [tkS]
 refine tkV 36 67 rfl rfl ?_; try simp only [tkS]
 refine tkV 37 68 rfl rfl ?_; try simp only [tkS]
 refine tkV 38 69 rfl rfl ?_; try simp only [tkS]
 refine tkV 39 70 rfl rfl ?_; try simp only [tkS]
 refine tkV 40 0 rfl rfl ?_; try simp only [tkS]
 refine wpAnyH_done (by kernel_rfl) ?_ _;go_wp2;go_ret;exact ⟨rfl, HBX.o.trans (hv21.mono HBX.o.size)⟩
theorem hseedsC_any (a : Option Addr) (cap : Nat) (bs : List Nat) (n m : Int) (w : World) (hl : bs.length <= 9223372036854775807) (hx : U8Cells w a bs) (htab : Tab w) (hdt : Dtab w) :
 Calls Tryz.prog 3 #[.slice a bs.length cap, .int .i64 n, .int .i64 m] w fun e w' => e = .returned (.bool true) /\ Below w.heap.size w w' :=
 hseeds_any a cap bs n m w hl hx fun V hV => works45_any V (htab.keep hV) (hdt.keep hV)
end Go.Proofs.YtflhbcnhaeijbaaGreatDoor
namespace Go.Proofs.YtflhbcnhaeijbaaGreatDoor
open Go.Joins Go.ChangeShapes Go.WideShapes Go.ChangeAt Go.Deep Go.RowKit Cen
theorem zwi : ownKnob Tryz.prog.godebug = none := by kernel_rfl
theorem zdp : laidOutB Tryz.prog = true := by kernel_rfl
def laidOf : List (String × DataW Unit) := [("math/bits.deBruijn32tab", Rows.laid_math_bits_deBruijn32tab), ("math/bits.deBruijn64tab", Rows.laid_math_bits_deBruijn64tab), ("internal/strconv.uint64pow10", Rows.laid_internal_strconv_uint64pow10)]
theorem zgk : (laidOf.all fun x => x.2.handleName?.isNone) = true := by kernel_rfl
theorem zfh {W : World} (h : laidMetH Tryz.prog laidOf W) : Tab W := by
 have h2 := h.filter (fun x => x.1 == "internal/strconv.uint64pow10")
 have e : (laidOf.filter fun x => x.1 == "internal/strconv.uint64pow10") = ("internal/strconv.uint64pow10", Lib.tabData .u64 Lib.pow10Tab) :: [] := by kernel_rfl
 rw [e, MakeChecks.laidMetH_plain _ _ _ (by kernel_rfl)] at h2;exact Lib.tabIs_of_head (g := 1) (by kernel_rfl) (by kernel_rfl) Tryz.underlying229 Tryz.underlying32 (by kernel_rfl) (by kernel_rfl) h2
section
variable {H : Type} {enc : TypeId × Value -> H} {P : Program} {w : World} {base : Nat} {spare : Nat -> Bool} {held : Bool}
theorem zd2 {f : Func} {s : ChangeSpec} {apart fresh handsOn again : Bool} {W W' : World} {args : Array Value} {v : Value} {ds gs : List (DataW H)} {before pa pv : List MemPlace}
 (hW : DataW.Whole enc P f.params.toList s.vars apart W args.toList ds gs before)
 (hres : ∀ (b : Nat) (sp : Nat -> Bool) (hd : Bool), DataW.TrodAll enc P W' b sp hd f.resultTypes.toList (v.resultList f.resultTypes.size) (s.fn H (ds ++ gs)).results [])
 (hargs : ∀ sp : Nat -> Bool, (∀ p ∈ before, sp p.block = true) -> DataW.TrodAll enc P W' 0 sp true f.params.toList args.toList (s.fn H (ds ++ gs)).args pa)
 (hvars : ∀ sp : Nat -> Bool, (∀ p ∈ before, sp p.block = true) -> DataW.TrodVars enc P W' sp s.vars (s.fn H (ds ++ gs)).vars pv)
 (hps : before = pa ++ pv) (hb : Below W.heap.size W W')
 (hok : ∀ (j : Nat) (t : TypeId) (r : Value), f.resultTypes[j]? = some t -> (v.resultList f.resultTypes.size)[j]? = some r -> Value.okWide P W' .any 0 t r) :
 s.post enc P f apart fresh handsOn again W args v W' := by
 have hlt : ∀ p ∈ before, p.block < W.heap.size := fun p hp => hW.lt p hp
 have hold : ∀ p ∈ before, (fun b => decide (b < W.heap.size)) p.block = true := fun p hp => by simpa using hlt p hp
 refine ⟨ds, gs, before, [], pa, pv, hW, hres _ _ _, hargs _ hold, hvars _ hold, World.keptBut_mono (fun p hp => ⟨hp, ?_⟩) (hb.frame (· ∈ before)), fun _ => ?_⟩
 ·rw [hps, List.mem_append] at hp;exact Or.inr hp
 obtain ⟨_, _, _, _, _, hz, hn⟩ := hW;refine ⟨hok, _, _, ([] ++ pa) ++ pv, ⟨[] ++ pa, pv, trodAll_append (hargs _ (fun _ _ => rfl)) (hres _ _ _), hvars _ (fun _ _ => rfl), rfl, ?_, ?_⟩, ?_⟩
 ·intro b off hp
  have hin : MemPlace.cell b off ∈ before := by rw [hps]; simpa using hp
  rw [hb.frozen (hlt _ hin)];exact hz b off hin
 ·intro ha;have := hn ha;rw [hps] at this
  simpa using this
 intro p hp _;rw [hps]
 simpa using hp
end
theorem zqm {w : World} {a : Addr} {n : Nat} {v : Value} (h : w.cell? (a.add n) = some v) : w.cell? ⟨a.block, a.off + n, none⟩ = some v := by
 by_cases e : n = 0
 ·subst e;have h2 : w.cell? a = some v := h;obtain ⟨b, o, s⟩ := a
  cases s with
  | none => exact h2
  | some k =>
    exfalso
    unfold World.cell? at h2
    split at h2 <;> simp at h2
 simpa [Addr.add, e] using h
theorem zsa {w : World} {a : Addr} {v : Value} (h : w.cell? (a.add 0) = some v) : a = ⟨a.block, a.off, none⟩ := by
 obtain ⟨b, o, s⟩ := a
 cases s with
 | none => rfl
 | some k =>
   exfalso
   unfold World.cell? Addr.add at h
   split at h <;> simp at h
section
variable {H : Type} {enc : TypeId × Value -> H} {W : World} {base : Nat} {spare : Nat -> Bool} {held : Bool}
end
theorem u8_of {z : Int} (h : (Lit.int .u8 z).wf = true) : 0 <= z /\ z <= 255 := by
 simp only [Lit.wf, Bool.and_eq_true, decide_eq_true_eq] at h
 have h1 : IntKind.u8.min = 0 := by decide
 have h2 : IntKind.u8.max = 255 := by decide
 omega
section
variable {H : Type} {enc : TypeId × Value -> H} {W : World} {base : Nat} {spare : Nat -> Bool} {held : Bool}
theorem trodAll_zero {w : World} {args : Array Value} {ds : List (DataW H)} {ps : List MemPlace} (h : DataW.TrodAll enc Tryz.prog w base spare held [] args.toList ds ps) : args = #[] /\ ds = [] /\ ps = [] := by
 obtain ⟨h1, rfl, rfl⟩ := trodAll_nil h;exact ⟨by cases args; simp_all, rfl, rfl⟩
end
theorem dtab_of_laid {W : World} (h : laidMetH Tryz.prog laidOf W) : Dtab W := by
 have h2 := h.filter (fun x => x.1 == "math/bits.deBruijn64tab")
 have e : (laidOf.filter fun x => x.1 == "math/bits.deBruijn64tab") = ("math/bits.deBruijn64tab", Lib.tabData .u8 (Lib.deBruijn64tab.map Int.ofNat)) :: [] := by kernel_rfl
 rw [e, MakeChecks.laidMetH_plain _ _ _ (by kernel_rfl)] at h2;have h3 := Lib.tabIs_of_head (g := 0) (by kernel_rfl) (by kernel_rfl) Tryz.underlying191 Tryz.underlying5 (by kernel_rfl) (by kernel_rfl) h2;intro j hj
 have hl : (Lib.deBruijn64tab.map Int.ofNat).length = 64 := by decide +kernel
 have h4 := h3.cell (g := 0) (by kernel_rfl) j (by rw [hl]; exact hj);rw [h4]
 congr 2
 have hl2 : Lib.deBruijn64tab.length = 64 := by decide +kernel
 simp [List.getD_eq_getElem?_getD, hl2, hj]
section
variable {H : Type} {enc : TypeId × Value -> H} {W : World} {base : Nat} {spare : Nat -> Bool} {held : Bool}
theorem zt7 {r : Reach} {b0 : Nat} {v : Value} {d : DataW H} {p : List MemPlace} (hv : Value.okWide Tryz.prog W r b0 34 v) (h : DataW.Trod enc Tryz.prog W base spare held 34 v d p) :
 ∃ s : St, v = stv s /\ s.ok := by
 simp only [Value.okWide, Tryz.underlying34] at hv;obtain ⟨cs, rfl, _, _⟩ := hv;obtain ⟨fuel, hf⟩ := h;obtain ⟨ys, k, rfl, _, hl, hyl, hat⟩ := DataW.trod_array Tryz.underlying34 hf
 have hc2 : Tryz.prog.cellsOf 34 = 2 := by kernel_rfl
 have hc1 : Tryz.prog.cellsOf 32 = 1 := by kernel_rfl
 rw [hc2] at hl
 have hcs : (Value.agg cs).cells.toList = cs.toList := by simp [Value.cells]
 rw [hcs] at hl hat
 obtain ⟨a0, a1, he⟩ : ∃ a0 a1, cs.toList = [a0, a1] := by
  match h : cs.toList, hl with
  | [a0, a1], _ => exact ⟨a0, a1, rfl⟩
 have hcs2 : cs = #[a0, a1] := by
  apply Array.toList_inj.1; rw [he]
 subst hcs2;have g0 := hat 0 (by omega);have g1 := hat 1 (by omega);rw [hc1] at g0 g1;have e0 : ys[0]? = some (ys[0]'(by omega)) := List.getElem?_eq_getElem (by omega);have e1 : ys[1]? = some (ys[1]'(by omega)) := List.getElem?_eq_getElem (by omega);rw [e0] at g0;rw [e1] at g1;simp only [Nat.zero_mul, List.drop_zero, List.take_succ_cons, List.take_zero, Nat.one_mul, List.drop_succ_cons] at g0 g1;obtain ⟨z0, f0, _, w0⟩ := DataW.trod_int Tryz.underlying32 g0;obtain ⟨z1, f1, _, w1⟩ := DataW.trod_int Tryz.underlying32 g1;simp only [List.cons.injEq, and_true] at f0 f1;subst f0; subst f1
 simp [Lit.wf, IntKind.min, IntKind.max, IntKind.signed, IntKind.bits] at w0 w1
 obtain ⟨n0, rfl⟩ := Int.eq_ofNat_of_zero_le w0.1;obtain ⟨n1, rfl⟩ := Int.eq_ofNat_of_zero_le w1.1;exact ⟨⟨n0, n1⟩, rfl, by show n0 < U64; unfold U64; omega, by show n1 < U64; unfold U64; omega⟩
end
section
variable {H : Type} {enc : TypeId × Value -> H} {W : World} {base : Nat} {spare : Nat -> Bool} {held : Bool}
theorem open_u8 {fuel : Nat} {v : Value} {x : DataW H × List MemPlace} (h : DataW.trod enc Tryz.prog W base spare held fuel 22 [v] = some x) :
 ∃ (a : Option Addr) (l : List Nat) (cap : Nat), v = .slice a l.length cap /\ l.length <= 9223372036854775807 /\ U8Cells W a l := by
 rcases open_ints Tryz.underlying22 Tryz.underlying5 (by kernel_rfl) h with ⟨hcs, _⟩ | ⟨a, len, cap, zs, hcs, _, hl, hm, hz, _, hc, hw⟩
 ·simp only [List.cons.injEq, and_true] at hcs;exact ⟨none, [], 0, hcs, by simp, fun i hi => absurd hi (Nat.not_lt_zero _)⟩
 simp only [List.cons.injEq, and_true] at hcs
 have hlz : len <= zs.length := by rw [hz]; split <;> omega
 have hlt : (zs.take len).length = len := by simp; omega
 have hlm : ((zs.take len).map Int.toNat).length = len := by rw [List.length_map, hlt]
 refine ⟨some a, (zs.take len).map Int.toNat, cap, by rw [hlm]; exact hcs, ?_, fun i hi => ?_⟩
 ·rw [hlm];have : maxLen = 9223372036854775807 := rfl;omega
 rw [hlm] at hi
 have hiz : i < zs.length := by omega
 have hb := u8_of (hw (zs[i]) (List.getElem_mem hiz))
 have e : ((zs.take len).map Int.toNat).getD i 0 = (zs[i]).toNat := by
  simp [List.getD_eq_getElem?_getD, hi, List.getElem?_eq_getElem hiz]
 have ea := zsa (hc 0 (by omega));have hci := zqm (hc i (by omega))
 have eg : zs.getD i 0 = zs[i] := by simp [List.getD_eq_getElem?_getD, List.getElem?_eq_getElem hiz]
 rw [eg] at hci;refine ⟨a.block, a.off, by rw [<- ea], ?_, by rw [e]; omega⟩;rw [e, Int.toNat_of_nonneg hb.1]; exact hci
theorem open_u8s {r : Reach} {b0 : Nat} {v : Value} {d : DataW H} {p : List MemPlace} (hv : Value.okWide Tryz.prog W r b0 22 v) (h : DataW.Trod enc Tryz.prog W base spare held 22 v d p) :
 ∃ (a : Option Addr) (l : List Nat) (cap : Nat), v = .slice a l.length cap /\ l.length <= 9223372036854775807 /\ U8Cells W a l := by
 obtain ⟨a0, la, ca, rfl⟩ := okWide_slice Tryz.underlying22 hv;obtain ⟨fuel, hf⟩ := h;exact open_u8 (v := .slice a0 la ca) hf
end
end Go.Proofs.YtflhbcnhaeijbaaGreatDoor
