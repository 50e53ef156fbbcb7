/- Parts of the proofs of laws. Texts: Hv, Hx, Ja, Jl, NHolds, Fb. -/
import Derived.Test.YtlleofjjdhfgcaaGreatDoorYA46
import Derived.Test.YtlleofjjdhfgcaaGreatDoorYA43
set_option maxHeartbeats 8000000
set_option maxRecDepth 100000
set_option linter.all false
namespace Go.Proofs.YtlleofjjdhfgcaaGreatDoor
open Go.RowKit Cen
theorem zqa (x y : ByteArray) (w : World) : (binOp .eql 44 (.agg #[.string x]) (.agg #[.string y])).run Tryz.prog w = .ok (.bool (x.toList == y.toList)) w := by
 have hp0 : ∀ (x : Value) w, (part 9 #[x] 0).run Tryz.prog w = .ok x w := fun x w => by kernel_rfl
 rw [run_eql_struct, run_equalIn_struct w 9999 _ _ _ (by kernel_rfl) (by kernel_rfl)];rw [show (Tryz.prog.fieldsOf 44).toList = [{ name := "b", type := 9, offset := 0, embedded := false, tag := "", pkgPath := "census/nat", byteOffset := 0 }] by kernel_rfl];simp only [Op.eqFields, Sem.run_bind, Sem.run_ite, hp0, Result.andThen_ok, run_equalIn_string w 9998 9 x y Tryz.underlying9]
 cases (x.toList == y.toList) <;> simp
theorem zpi : Tryz.prog.eqGuardType Tryz.prog.depth 44 = false := by kernel_rfl
theorem zot {w : World} {b x : Nat} (h : Blk w b #[.int .u8 (x : Int)] 5) (hx : x < 256) : U8Cells w (some ⟨b, 0, none⟩) [x] := by
 intro i hi
 obtain rfl : i = 0 := by simpa using hi
 exact ⟨b, 0, rfl, h.cell 0, hx⟩
theorem zqc (bs : List Nat) (h : (zbr bs 3 1).any (outP 3) = false) (q : Nat) (hc : zfl 3 samN (zbr bs 3 1) = some q) (hl : bs.length = 1) (hq : q * 2 ^ 1 <= 255) : EstOk 3 samT 1 bs q := ⟨by omega, by omega, h, hc, hq⟩
theorem yde : (zbr [192] 3 1).any (outP 3) = false := by decide +kernel
theorem ydf : (zbr [208] 3 1).any (outP 3) = false := by decide +kernel
theorem ydg : (zbr [16] 3 1).any (outP 3) = false := by decide +kernel
theorem ydh : ([⟨⟨3, 0⟩, true⟩, ⟨⟨4, 0⟩, true⟩] : List Pr).any (outP 3) = false := by decide +kernel
theorem med3 {l' : List Nat} (hp : l'.Perm [2, 6, 0]) (hs : Sd leN l' 0 3) : gd l' 1 = 2 := by
 have hl := hp.length_eq
 match l', hl with
 | [a, b, c], _ =>
   have h1 := hs 0 1 (by omega) (by omega) (by omega);have h2 := hs 1 2 (by omega) (by omega) (by omega);have m0 : a ∈ [2, 6, 0] := hp.mem_iff.1 (by simp);have m1 : b ∈ [2, 6, 0] := hp.mem_iff.1 (by simp);have m2 : c ∈ [2, 6, 0] := hp.mem_iff.1 (by simp);have hsum := hp.sum_nat
   simp [gd, leN] at *
   omega
theorem yc9 {w : World} {b : Nat} (h : Blk w b #[.int .u64 3, .int .u64 0, .bool true, .int .u64 4, .int .u64 0, .bool true] 42) : PrCells w (some ⟨b, 0, none⟩) [⟨⟨3, 0⟩, true⟩, ⟨⟨4, 0⟩, true⟩] := by
 intro i hi
 have : i = 0 \/ i = 1 := by simp at hi; omega
 rcases this with rfl | rfl
 ·exact ⟨b, 0, rfl, h.cell 0, h.cell 1, h.cell 2⟩
 exact ⟨b, 0, rfl, h.cell 3, h.cell 4, h.cell 5⟩
theorem zyj {w : World} {a b c d : Nat} (ha : Blk w a #[.int .u8 192] 5) (hb : Blk w b #[.int .u8 208] 5) (hc : Blk w c #[.int .u8 16] 5)
 (hd : Blk w d #[.slice (some ⟨a, 0, none⟩) 1 1, .slice (some ⟨b, 0, none⟩) 1 1, .slice (some ⟨c, 0, none⟩) 1 1] 59) : SdCells w (some ⟨d, 0, none⟩) [[192], [208], [16]] := by
 intro i hi
 have : i = 0 \/ i = 1 \/ i = 2 := by simp at hi; omega
 rcases this with rfl | rfl | rfl
 ·exact ⟨d, 0, _, _, rfl, hd.cell 0, zot ha (by decide)⟩
 ·exact ⟨d, 0, _, _, rfl, hd.cell 1, zot hb (by decide)⟩
 exact ⟨d, 0, _, _, rfl, hd.cell 2, zot hc (by decide)⟩
theorem zfz (w : World) (htab : Tab w) (hdt : Dtab w) : Calls Tryz.prog 10 #[] w fun e w' => e = .returned (.bool true) /\ Below w.heap.size w w' := by
 have HPR : Hid (∀ V b, Blk V b #[.int .u8 193] 5 -> Calls Tryz.prog 27 #[.slice (some ⟨b, 0, none⟩) 1 1, .int .i64 3, .int .i64 2] V fun e w' => ∃ g, e = .returned (.tuple #[.slice (some ⟨g, 0, none⟩) 2 2, .int .i64 0]) /\ OwnP w' V.heap.size (.slice (some ⟨g, 0, none⟩) 2 2) (zbr [193] 3 2) /\ Below V.heap.size V w') :=
  fun V b hb => zrm (some ⟨b, 0, none⟩) 1 [193] 3 2 V (by decide) (zot hb (by decide)) (by omega) (by omega) (by decide)
 have HSM := lh (fun V => zs3 V)
 have HCE : Hid (∀ V, Below w.heap.size w V -> ∀ a cap la, LsCells V a samT -> PrCells V la [⟨⟨3, 0⟩, true⟩, ⟨⟨4, 0⟩, true⟩] -> Calls Tryz.prog 15 #[.agg #[.int .i64 3, .slice a 2 cap], .slice la 2 2] V (zls 2 0 V)) :=
  fun V hV a cap la hx hp => zqs 3 a cap samT la 2 [⟨⟨3, 0⟩, true⟩, ⟨⟨4, 0⟩, true⟩] 2 V zzs hx (by decide) hp (by intro p hp; simp at hp; rcases hp with rfl | rfl <;> exact ⟨by decide, by decide⟩) ydh sam_w (htab.keep hV) (hdt.keep hV)
 have HMD : Hid (∀ V, Below w.heap.size w V -> ∀ a cap sa, LsCells V a samT -> SdCells V sa [[192], [208], [16]] -> Calls Tryz.prog 25 #[.agg #[.int .i64 3, .slice a 2 cap], .slice sa 3 3, .int .i64 1] V (zy6 [2, 6, 0] V)) :=
  fun V hV a cap sa hx hp => zsq 3 a cap samT sa 3 [[192], [208], [16]] 1 [1, 3, 0] V zzs hx hp (by decide) (by decide) (by decide) rfl (fun i hi => by
   have : i = 0 \/ i = 1 \/ i = 2 := by simp at hi; omega
   rcases this with rfl | rfl | rfl
   ·exact zqc _ yde _ ydb rfl (by decide)
   ·exact zqc _ ydf _ ydc rfl (by decide)
   exact zqc _ ydg _ ydd rfl (by decide)) (htab.keep hV) (hdt.keep hV)
 have HOF : Hid (∀ V : World, Calls Tryz.prog 18 #[.int .u64 2] V fun e w' => e = .returned (.agg #[.string (natB 2)]) /\ Below V.heap.size V w') := fun V => zvn 2 (by decide) V
 clear htab hdt;go_enter Tryz.func10, Tryz.ntmps10;go_wp2_with fail;have HB1 : Hid (Below w.heap.size w (w.alloc (.cells #[.int .u8 193] 5))) := ba _ _;refine (HPR.o _ _ (Blk.new _ _ _)).mono ?_;rintro e w2 ⟨g, rfl, hown, hb2⟩;rw [sam_p] at hown;have HB2 := bt HB1 hb2;have HO2 := lh hown;clear hb2 hown HPR HB1;go_wp2_with fail;refine (HSM.o _).mono ?_;rintro e w3 ⟨a3, c3, rfl, hl3, hb3⟩;have HB3 := bt HB2 hb3;have HO3 := lh (HO2.o.later hb3);have HL3 := lh hl3;clear hb3 hl3 HO2;go_wp2_with fail;have hb4 : Below w3.heap.size w3 (w3.alloc (.cells #[.int .u64 3, .int .u64 0, .bool true, .int .u64 4, .int .u64 0, .bool true] 42)) := ba _ _
 have HB4 := bt HB3 hb4;refine (HCE.o _ HB4.o _ _ _ (HL3.o.keep hb4) (yc9 (Blk.new _ _ _))).mono ?_;rintro e w5 ⟨rfl, hb5⟩;have HO5 := lh ((HO3.o.later hb4).later hb5);have HB5 := bt HB4 hb5;clear hb4 hb5 HO3 HL3;go_wp2_with fail;obtain ⟨t3, ht3⟩ := nm w5.heap.size;obtain ⟨w6, hw6⟩ := nm (w5.alloc (.cells #[.string (natB 2)] 44))
 have hb6 : Below w5.heap.size w5 w6 := by rw [hw6]; exact ba _ _
 have q6 : Blk w6 t3 #[.string (natB 2)] 44 := by rw [hw6, ht3]; exact Blk.new _ _ _
 have HB6 := bt HB5 hb6;have HO6 := lh (HO5.o.later hb6);have HQ6 := lh q6;rw [<- hw6, <- ht3];clear hb6 q6 hw6 ht3 HO5;refine (HSM.o _).mono ?_;rintro e w7 ⟨a7, c7, rfl, hl7, hb7⟩;have HB7 := bt HB6 hb7;have HO7 := lh (HO6.o.later hb7);have HQ7 := lh (HQ6.o.later hb7);have HL7 := lh hl7;clear hb7 hl7 HO6 HQ6;go_wp2_with fail;obtain ⟨B, hB⟩ := nm w7.heap.size;obtain ⟨w8, hw8⟩ := nm ((((w7.alloc (.cells #[.int .u8 192] 5)).alloc (.cells #[.int .u8 208] 5)).alloc (.cells #[.int .u8 16] 5)).alloc (.cells #[.slice (some ⟨B, 0, none⟩) 1 1, .slice (some ⟨B + 1, 0, none⟩) 1 1, .slice (some ⟨B + 1 + 1, 0, none⟩) 1 1] 59))
 have hb8 : Below w7.heap.size w7 w8 := by rw [hw8]; exact (((ba _ _).alloc (by simp) _).alloc (by simp; omega) _).alloc (by simp; omega) _
 have s1 : Blk w8 B #[.int .u8 192] 5 := by rw [hw8, hB]; exact (((Blk.new _ _ _).alloc _).alloc _).alloc _
 have s2 : Blk w8 (B + 1) #[.int .u8 208] 5 := by rw [hw8, hB]; exact ((Blk.new' _ (by simp) _ _).alloc _).alloc _
 have s3 : Blk w8 (B + 1 + 1) #[.int .u8 16] 5 := by rw [hw8, hB]; exact (Blk.new' _ (by simp) _ _).alloc _
 have s4 : Blk w8 (B + 1 + 1 + 1) #[.slice (some ⟨B, 0, none⟩) 1 1, .slice (some ⟨B + 1, 0, none⟩) 1 1, .slice (some ⟨B + 1 + 1, 0, none⟩) 1 1] 59 := by rw [hw8, hB]; exact Blk.new' _ (by simp) _ _
 have HB8 := bt HB7 hb8;have HO8 := lh (HO7.o.later hb8);have HQ8 := lh (HQ7.o.later hb8);have HL8 := lh (HL7.o.keep hb8);have HSD := lh (zyj s1 s2 s3 s4);rw [<- hB, <- hw8];clear hb8 s1 s2 s3 s4 hw8 hB HO7 HQ7 HL7;refine (HMD.o _ HB8.o _ _ _ HL8.o HSD.o).mono ?_;rintro e w9 ⟨l', hpm, hsd, rfl, hb9⟩;have hm2 : gd l' 1 = 2 := med3 hpm hsd;have HB9 := bt HB8 hb9;have HO9 := lh (HO8.o.later hb9);have HQ9 := lh (HQ8.o.later hb9);rw [show (([2, 6, 0] : List Nat).length - 1) / 2 = 1 from rfl, hm2];clear hpm hsd hm2 hb9 HO8 HQ8 HSD HL8;obtain ⟨t5, ht5⟩ := nm w9.heap.size;obtain ⟨wx, hwx⟩ := nm (w9.alloc (.cells #[.string (natB 2)] 44))
 have hbx : Below w9.heap.size w9 wx := by rw [hwx]; exact ba _ _
 have qx : Blk wx t5 #[.string (natB 2)] 44 := by rw [hwx, ht5]; exact Blk.new _ _ _
 have HBX := bt HB9 hbx;have hox := HO9.o.later hbx;have qy := HQ9.o.later hbx;have c0 := hox.cell rfl zax 0 0 (by simp) (by omega);have c1 := hox.cell rfl zax 0 1 (by simp) (by omega);have c2 := hox.cell rfl zax 0 2 (by simp) (by omega);have c3 := hox.cell rfl zax 1 0 (by simp) (by omega);have c4 := hox.cell rfl zax 1 1 (by simp) (by omega);have c5 := hox.cell rfl zax 1 2 (by simp) (by omega);simp only [prc, List.getElem_cons_zero, List.getElem_cons_succ, List.getElem?_cons_zero, List.getElem?_cons_succ, Nat.zero_mul, Nat.one_mul, Nat.zero_add, Nat.add_zero] at c0 c1 c2 c3 c4 c5;have x3 := qy.cell 0
 have x5 := qx.cell 0;have gz := hox.lt.1;have z3 := qy.lt;have z5 := qx.lt
 have HKS : Hid (∀ w' : World, Below wx.heap.size wx w' -> (fun w' => w'.cell? ⟨g, 0, none⟩ = some (.int .u64 3) /\ w'.cell? ⟨g, 1, none⟩ = some (.int .u64 0) /\ w'.cell? ⟨g, 2, none⟩ = some (.bool false) /\ w'.cell? ⟨g, 3, none⟩ = some (.int .u64 0) /\ w'.cell? ⟨g, 4, none⟩ = some (.int .u64 0) /\ w'.cell? ⟨g, 5, none⟩ = some (.bool true) /\ w'.cell? ⟨t3, 0, none⟩ = some (.string (natB 2)) /\ w'.cell? ⟨t5, 0, none⟩ = some (.string (natB 2))) w') := fun w' hb => ⟨zab hb c0, zab hb c1, zab hb c2, zab hb c3, zab hb c4, zab hb c5, zab hb x3, zab hb x5⟩
 have hE1 := zqa (natB 2) (natB 2);rw [show ((natB 2).toList == (natB 2).toList) = true by simp] at hE1
 have hE2 : ∀ w, (binOp .eql 42 (.agg #[.int .u64 3, .int .u64 0, .bool false]) (.agg #[.int .u64 3, .int .u64 0, .bool false])).run Tryz.prog w = .ok (.bool true) w := fun w => zlk ⟨⟨3, 0⟩, false⟩ ⟨⟨3, 0⟩, false⟩ w
 have hE3 : ∀ w, (binOp .eql 42 (.agg #[.int .u64 0, .int .u64 0, .bool true]) (.agg #[.int .u64 0, .int .u64 0, .bool true])).run Tryz.prog w = .ok (.bool true) w := fun w => zlk ⟨⟨0, 0⟩, true⟩ ⟨⟨0, 0⟩, true⟩ w
 have hgp := zkx;have hgn := zpi
 go_upto_region 4 with fail
 rw [<- hwx, <- ht5];clear hbx qx hox qy hwx ht5 HO9 HQ9 HCE HMD HSM
 refine wp_region_held_drew (S := (fun w' => w'.cell? ⟨g, 0, none⟩ = some (.int .u64 3) /\ w'.cell? ⟨g, 1, none⟩ = some (.int .u64 0) /\ w'.cell? ⟨g, 2, none⟩ = some (.bool false) /\ w'.cell? ⟨g, 3, none⟩ = some (.int .u64 0) /\ w'.cell? ⟨g, 4, none⟩ = some (.int .u64 0) /\ w'.cell? ⟨g, 5, none⟩ = some (.bool true) /\ w'.cell? ⟨t3, 0, none⟩ = some (.string (natB 2)) /\ w'.cell? ⟨t5, 0, none⟩ = some (.string (natB 2)))) (by kernel_rfl) (by exact HKS.o _ (Below.refl wx.heap.size wx).drew) fun hH => ?_
 refine tkV 0 31 rfl rfl ?_; try simp only [tkS]
 refine tkV 1 32 rfl rfl ?_; try simp only [tkS]
 refine tkV 2 33 rfl rfl ?_; try simp only [tkS]
 refine tkV 3 34 rfl rfl ?_; try simp only [tkS]
 refine tkV 4 35 rfl rfl ?_; try simp only [tkS]
 refine tkV 5 36 rfl rfl ?_; try simp only [tkS]
 refine tkV 6 37 rfl rfl ?_; try simp only [tkS]
 refine tkV 7 38 rfl rfl ?_; try simp only [tkS]
 refine tkV 8 39 rfl rfl ?_; try simp only [tkS]
 refine tkV 9 40 rfl rfl ?_; try simp only [tkS]
 refine tkV 10 41 rfl rfl ?_; try simp only [tkS]
 refine tkV 11 42 rfl rfl ?_; try simp only [tkS]
 refine tkV 12 43 rfl rfl ?_; try simp only [tkS]
 refine tkV 13 44 rfl rfl ?_; try simp only [tkS]
 refine tkV 14 45 rfl rfl ?_; try simp only [tkS]
 refine tkV 15 46 rfl rfl ?_; try simp only [tkS]
 refine tkV 16 47 rfl rfl ?_; try simp only [tkS]
 refine tkV 17 48 rfl rfl ?_; try simp only [tkS]
 refine tkV 18 49 rfl rfl ?_; try simp only [tkS]
 refine tkV 19 50 rfl rfl ?_; try simp only [tkS]
 refine tkV 20 51 rfl rfl ?_; try simp only [tkS]
 refine tkV 21 52 rfl rfl ?_; try simp only [tkS]
 refine tkV 22 53 rfl rfl ?_; try simp only [tkS]
 refine tkV 23 54 rfl rfl ?_; try simp only [tkS]
 refine tkR 24 (.cons rfl (fun K hK => ?_) .nil);go_simp;go_at_call 18;refine Calls.mono (HOF.o _) ?_;rintro e V20 ⟨rfl, hb20⟩;have hv20 : Below wx.heap.size wx V20 := Below.trans (Below.refl wx.heap.size wx).drew (Below.mono hb20 (Below.size (Below.refl wx.heap.size wx).drew));clear hb20;go_wp2_with fail
 refine hK.out _ _ (by exact HKS.o _ hv20) fun hH => ?_
 clear hK K
 try simp only [tkS]
 refine tkV 25 56 rfl rfl ?_; try simp only [tkS]
 refine tkV 26 57 rfl rfl ?_; try simp only [tkS]
 refine tkV 27 58 rfl rfl ?_; try simp only [tkS]
 refine tkV 28 59 rfl rfl ?_; try simp only [tkS]
 refine tkV 29 60 rfl rfl ?_; try simp only [tkS]
 refine tkV 30 61 rfl rfl ?_; try simp only [tkS]
 refine tkV 31 62 rfl rfl ?_; try simp only [tkS]
 refine tkV 32 63 rfl rfl ?_; try simp only [tkS]
 refine tkR 33 (.cons rfl (fun K hK => ?_) .nil);go_simp;go_at_call 18;refine Calls.mono (HOF.o _) ?_;rintro e V21 ⟨rfl, hb21⟩;have hv21 : Below wx.heap.size wx V21 := Below.trans hv20 (Below.mono hb21 (Below.size hv20));clear hb21;go_wp2_with fail
 refine hK.out _ _ (by exact HKS.o _ hv21) fun hH => ?_
 clear hK K
 try simp only [tkS]
 refine tkV 34 65 rfl rfl ?_; try simp only [tkS]
 refine tkV 35 66 rfl rfl ?_; try simp only [tkS]
 refine tkV 36 67 rfl rfl ?_; try simp only [tkS]
 refine tkV 37 68 rfl rfl ?_; try simp only [tkS]
 refine tkV 38 69 rfl rfl ?_; try simp only [tkS]
 refine tkV 39 70 rfl rfl ?_; try simp only [tkS]
 refine tkV 40 0 rfl rfl ?_; try simp only [tkS]
 refine wpAnyH_done (by kernel_rfl) ?_ _;go_wp2;go_ret;exact ⟨rfl, HBX.o.trans (hv21.mono HBX.o.size)⟩
theorem run_neq_nat (x y : ByteArray) (w : World) : (binOp .neq 44 (.agg #[.string x]) (.agg #[.string y])).run Tryz.prog w = .ok (.bool !(x.toList == y.toList)) w := by
 have hp0 : ∀ (x : Value) w, (part 9 #[x] 0).run Tryz.prog w = .ok x w := fun x w => by kernel_rfl
 rw [run_neq_struct, run_equalIn_struct w 9999 _ _ _ (by kernel_rfl) (by kernel_rfl)];rw [show (Tryz.prog.fieldsOf 44).toList = [{ name := "b", type := 9, offset := 0, embedded := false, tag := "", pkgPath := "census/nat", byteOffset := 0 }] by kernel_rfl];simp only [Op.eqFields, Sem.run_bind, Sem.run_ite, hp0, Result.andThen_ok, run_equalIn_string w 9998 9 x y Tryz.underlying9]
 cases (x.toList == y.toList) <;> simp
theorem run_neq_same (x : ByteArray) (w : World) : (binOp .neq 44 (.agg #[.string x]) (.agg #[.string x])).run Tryz.prog w = .ok (.bool false) w := by rw [run_neq_nat]; simp
theorem run_eql_same (x : ByteArray) (w : World) : (binOp .eql 44 (.agg #[.string x]) (.agg #[.string x])).run Tryz.prog w = .ok (.bool true) w := by rw [zqa]; simp
abbrev OwnJ (w : World) (base : Nat) (v : Value) (l : List Int) : Prop := OwnL I1 3 1 w base v l
theorem elemJ : Elem 67 3 1 8 (.int .i64 0) := ziz
theorem zr0 {y : Int} {n : Nat} (h : 0 <= y) : y.tmod (n : Int) = ((y.toNat % n : Nat) : Int) := by
 obtain ⟨k, rfl⟩ := Int.eq_ofNat_of_zero_le h;exact (Int.ofNat_tmod k n).symm
theorem zul {x : Int} (h1 : -9223372036854775808 <= x) (h2 : x <= 9223372036854775807) : IntKind.u64.wrap (max x (wrap64 (-wrap64 (x + 1)))) = if x < 0 then -(x + 1) else x := by
 have hu : ∀ y : Int, 0 <= y -> y <= 9223372036854775807 -> IntKind.u64.wrap y = y := fun y a b => by simp [IntKind.wrap, IntKind.bits, IntKind.signed]; omega
 by_cases hm : x = 9223372036854775807
 ·subst hm; decide +kernel
 rw [IntWalk.wrap64_in (x + 1) (by omega), IntWalk.wrap64_in (-(x + 1)) (by omega)]
 split
 ·rw [Int.max_eq_right (by omega)]; exact hu _ (by omega) (by omega)
 rw [Int.max_eq_left (by omega)]; exact hu _ (by omega) (by omega)
def zzz (n : Nat) (t : List Cl) (w : World) (e : Ending) (w' : World) : Prop := ∃ a cap, e = .returned (.agg #[.int .i64 (n : Int), .slice a t.length cap]) /\ LsIn (fun k => w.heap.size <= k) w' a (fewT n t) /\ Below w.heap.size w w'
theorem zuj (z : Int) (n : Nat) (a : Option Addr) (cap : Nat) (t : List Cl) (w : World) (hx : LsCells w a t) (hl : t.length <= 4096) (hcl : ∀ c ∈ t, c.length <= 1073741824 /\ ∀ x ∈ c, -9223372036854775808 <= x /\ x <= 9223372036854775807) (hn : n <= 128) :
 Calls Tryz.prog 11 #[.agg #[.int .i64 z, .slice a t.length cap], .int .i64 (n : Int)] w (zzz n t w) := by
 obtain ⟨w0, hw0⟩ := nm (((w.alloc (.cells #[.int .i64 z, .slice a t.length cap] 24)).alloc (.cells #[.int .i64 0, .slice none 0 0] 24)).alloc (.cells #[.int .i64 (n : Int), .slice none 0 0] 24))
 have hb0 : Below w.heap.size w w0 := by rw [hw0]; exact ((ba _ _).alloc (by simp) _).alloc (by simp; omega) _
 have q0 : Blk w0 w.heap.size #[.int .i64 z, .slice a t.length cap] 24 := by rw [hw0]; exact ((Blk.new _ _ _).alloc _).alloc _
 have q1 : Blk w0 (w.heap.size + 1) #[.int .i64 0, .slice none 0 0] 24 := by rw [hw0]; exact (Blk.new' _ (by simp) _ _).alloc _
 have q2 : Blk w0 (w.heap.size + 1 + 1) #[.int .i64 (n : Int), .slice none 0 0] 24 := by rw [hw0]; exact Blk.new' _ (by simp) _ _
 have HB0 := lh hb0;have HQ0 := lh q0;have HQ1 := lh q1;have HQ2 := lh q2;have HX := lh hx;have HCL := lh hcl;have k1 := q0.cell 1;have kz := q0.lt;obtain ⟨T, hT⟩ := nm w.heap.size;clear hb0 q0 q1 q2 hx hcl;go_enter Tryz.func11, Tryz.ntmps11;go_wp2_with fail;rw [<- hw0];clear hw0 k1 kz
 go_loopw [17] (fun i wr => ∃ (k : Nat) (L : List Sl) (sa : Option Addr) (sc : Nat), k <= t.length /\ i = .int .i64 k /\ Below w.heap.size w wr /\ Kp (fun y => w.heap.size + 1 + 1 <= y) w0 wr /\ Blk wr (w.heap.size + 1 + 1) #[.int .i64 (n : Int), .slice sa L.length sc] 24 /\
  OwnS (fun k => w.heap.size + 1 + 1 < k) wr (w.heap.size + 1 + 1 + 1) (.slice sa L.length sc) L /\ L.map (fun e => e.xs) = (t.take k).map (fewG n [])) (fun i _ => t.length - (intOf i).toNat)
 case atStart => exact ⟨0, [], none, 0, Nat.zero_le _, rfl, HB0.o, Kp.refl _ _, HQ2.o, OwnS.nil _ _ _, rfl⟩
 obtain ⟨k, L, sa, sc, hk, rfl, hb, hkp, hq, ho, hlx⟩ := hrel;have HB := lh hb;have HKP := lh hkp;have HQ := lh hq;have HO := lh ho;have HLX := lh hlx
 have hll : L.length = k := by
  have := congrArg List.length hlx;rw [List.length_map, List.length_map, List.length_take] at this;omega
 have HLL := lh hll;clear hb hkp hq ho hlx hll
 by_cases hlt : k < t.length
 ·have hki : (k : Int) < (t.length : Int) := by omega
  obtain ⟨b, off, ai, ci, hae, e0, hci⟩ := (HX.o.keep HB.o) k hlt
  have HTK : Hid ((t.take (k + 1)).map (fewG n []) = (t.take k).map (fewG n []) ++ [fewG n [] (t.getD k [])]) := by
   show _ = _; rw [List.take_succ_eq_append_getElem hlt, List.map_append]; simp [List.getD_eq_getElem?_getD, hlt]
  have hck := HCL.o (t.getD k []) (by rw [List.getD_eq_getElem?_getD, List.getElem?_eq_getElem hlt]; exact List.getElem_mem hlt);generalize t.getD k [] = c at *;have HCI := lh hci;have HCK := lh hck;have hcl9 : c.length <= 1073741824 := hck.1;have ez := zai e0;subst hae;clear hci hck;go_wp2_with fail;obtain ⟨B, hB⟩ := nm wr.heap.size;obtain ⟨wa, hwa⟩ := nm (wr.alloc (.cells #[] 3))
  have hba : Below B wr wa := by rw [hwa, hB]; exact ba _ _
  have hoa : OwnJ wa B (.slice (some ⟨B, 0, none⟩) 0 0) [] := by rw [hwa, hB]; exact World.ownsRow_lit wr #[] 0 (Nat.le_refl _) (by unfold maxLen; omega) rfl
  have HBZ : Hid (B = wr.heap.size) := hB;have HOA := lh hoa;have HBA := lh hba;rw [<- hB, <- hwa];clear hoa hba hwa hB e0 ez
  go_loopw [8, 24] (fun v i wi => ∃ (q : Nat) (d : List Int) (da : Option Addr) (dc : Nat), q <= c.length /\ i = .int .i64 q /\ v = .slice da d.length dc /\ OwnJ wi B (.slice da d.length dc) d /\ fewG n d (c.drop q) = fewG n [] c /\ d.length <= 20 /\ Below B wr wi) (fun _ i _ => c.length - (intOf i).toNat)
  case atStart => exact ⟨0, [], some ⟨B, 0, none⟩, 0, Nat.zero_le _, rfl, rfl, HOA.o, rfl, by simp, HBA.o⟩
  rename World => wi
  obtain ⟨q, d, da, dc, hq2, rfl, rfl, hod, hfg, hd20, hbi⟩ := hrel;have HOD := lh hod;have HFG := lh hfg;have HBI := lh hbi;clear hod hfg hbi
  by_cases hqc : q < c.length
  ·have hqi : (q : Int) < (c.length : Int) := by omega
   obtain ⟨b2, off2, hai, x0⟩ := (HCI.o.keep (by rw [<- HBZ.o]; exact HBI.o)) q hqc;have hxb := HCK.o.2 (c.getD q 0) (by rw [List.getD_eq_getElem?_getD, List.getElem?_eq_getElem hqc]; exact List.getElem_mem hqc)
   have HDR : Hid (c.drop q = c.getD q 0 :: c.drop (q + 1)) := by show _ = _; rw [List.drop_eq_getElem_cons hqc]; simp [List.getD_eq_getElem?_getD, hqc]
   generalize c.getD q 0 = x at *;have xz := zai x0;subst hai
   have hd20i : (d.length : Int) <= 20 := by omega
   by_cases hc : 0 < n /\ x ≠ 0 /\ d.length < 20
   ·have HSN : Hid (fewG n d (x :: c.drop (q + 1)) = fewG n (d ++ [fewV n x]) (c.drop (q + 1))) := by show _ = _; rw [fewG, if_pos hc]
    obtain ⟨h1, h2, h3⟩ := hc
    have n1 : (0 : Int) < (n : Int) := by omega
    have n2 : (x != 0) = true := by simpa using h2
    have n3 : (d.length : Int) < 20 := by omega
    clear h1 h3
    have hrn : (n : Int) <= 128 := by omega
    have HLD : Hid (d.length <= 1073741824) := by show _ <= _; omega
    have HBW : Hid (B <= wi.heap.size) := by show B <= _; rw [HBZ.o]; exact HBI.o.size
    by_cases hneg : x < 0
    case' pos =>
     have hval : wrap64 (-wrap64 (1 + wrap64 ((IntKind.u64.wrap (max x (wrap64 (-wrap64 (x + 1))))).tmod (n : Int)))) = fewV n x := by
      rw [zul hxb.1 hxb.2, if_pos hneg];have hm := Nat.mod_lt (-(x + 1)).toNat (show 0 < n by omega);rw [zr0 (by omega)];unfold fewV;rw [if_pos hneg];generalize (-(x + 1)).toNat % n = r at *;rw [IntWalk.wrap64_in (r : Int) (by omega), IntWalk.wrap64_in (1 + (r : Int)) (by omega), IntWalk.wrap64_in (-(1 + (r : Int))) (by omega)]
     have HVAL := lh hval;clear hxb hval
     go_upto_region 13 with fail
     rw [HVAL.o]
    case' neg =>
     have hval : wrap64 (1 + wrap64 ((IntKind.u64.wrap (max x (wrap64 (-wrap64 (x + 1))))).tmod (n : Int))) = fewV n x := by
      rw [zul hxb.1 hxb.2, if_neg hneg];have hm := Nat.mod_lt x.toNat (show 0 < n by omega);rw [zr0 (by omega)];unfold fewV;rw [if_neg hneg];generalize x.toNat % n = r at *;rw [IntWalk.wrap64_in (r : Int) (by omega), IntWalk.wrap64_in (1 + (r : Int)) (by omega)]
     have HVAL := lh hval;clear hxb hval
     go_upto_region 13 with fail
     rw [HVAL.o]
    all_goals
     clear HVAL;generalize fewV n x = y at *;go_wp2_with (at_builtin; go_loud (refine zlx (C := #[.int .i64 y]) elemJ rfl _ _ rfl B (.slice da d.length dc) d y rfl HOD.o rfl rfl rfl (by intro u hu; simp [I1] at hu; subst hu; rfl) HLD.o (by decide) HBW.o ?_));intro g5 cap5 w5 ho5 hg5 hgn5;have HO5 := lh ho5;have HB5 : Hid (Below B wr w5) := HBI.o.grown hg5 HBW.o (fun k hk => (World.ownsRow.lt HOD.o k hk).1);clear ho5 hg5 hgn5;go_wp2;go_roundw
     case rel => exact ⟨q + 1, d ++ [y], some ⟨g5, 0, none⟩, cap5, by omega, by go_num, by simp, by simpa using HO5.o, by rw [<- HSN.o, <- HDR.o]; exact HFG.o, by simp; omega, HB5.o⟩
     case measure => simp [intOf]; omega
   have HSN : Hid (fewG n d (x :: c.drop (q + 1)) = fewG n d (c.drop (q + 1))) := by show _ = _; rw [fewG, if_neg hc]
   by_cases hn0 : n = 0
   ·have n1 : ¬ (0 : Int) < (n : Int) := by omega
    clear hc hn0 hxb;go_wp2_with fail;go_roundw
    case rel => exact ⟨q + 1, d, da, dc, by omega, by go_num, rfl, HOD.o, by rw [<- HSN.o, <- HDR.o]; exact HFG.o, hd20, HBI.o⟩
    case measure => simp [intOf]; omega
   have n1 : (0 : Int) < (n : Int) := by omega
   by_cases hx0 : x = 0
   ·have n2 : (x != 0) = false := by simpa using hx0
    clear hc hn0 hxb;subst hx0;go_wp2_with fail;go_roundw
    case rel => exact ⟨q + 1, d, da, dc, by omega, by go_num, rfl, HOD.o, by rw [<- HSN.o, <- HDR.o]; exact HFG.o, hd20, HBI.o⟩
    case measure => simp [intOf]; omega
   have n2 : (x != 0) = true := by simpa using hx0
   have n3 : ¬ (d.length : Int) < 20 := by
    intro h; exact hc ⟨by omega, hx0, by omega⟩
   clear hc hn0 hxb;go_wp2_with fail;go_roundw
   case rel => exact ⟨q + 1, d, da, dc, by omega, by go_num, rfl, HOD.o, by rw [<- HSN.o, <- HDR.o]; exact HFG.o, hd20, HBI.o⟩
   case measure => simp [intOf]; omega
  obtain rfl : q = c.length := by omega
  have hqn : ¬ ((c.length : Int) < (c.length : Int)) := by omega
  have HFD : Hid (fewG n [] c = d) := by show _ = _; rw [<- HFG.o, List.drop_length]; rfl
  have hbw : Below wr.heap.size wr wi := by rw [<- HBZ.o]; exact HBI.o
  have HQI := lh (HQ.o.later hbw);have HOI := lh (HO.o.later hbw);have HKI : Hid (Kp (fun y => w.heap.size + 1 + 1 <= y) w0 wi) := HKP.o.trans (Kp.below hbw);have HBWI := bt HB hbw;have hqz := HQ.o.lt;have hii := IntIn.own (zao.2 HOD.o)
  have HII : Hid (IntIn (fun k => w.heap.size + 1 + 1 < k /\ ¬ (Value.slice sa L.length sc).ownBlock = some k) wi da d) := hii.2.mono fun k _ hk => ⟨by have := HBZ.o; omega, fun e => by
   have h1 := (World.ownsRow.lt HO.o.own k e).2; have := HBZ.o; omega⟩
  have p1 := HQI.o.cell 1;have pz := HQI.o.lt
  have HLM : Hid (L.length <= 1073741824) := by show _ <= _; have := HLL.o; omega
  have HZW : Hid (w.heap.size + 1 + 1 + 1 <= wi.heap.size) := HQI.o.lt;clear hbw hqz hii;go_wp2_with (at_builtin; go_loud (refine zlx (C := #[.slice da d.length dc]) yck rfl _ _ rfl (w.heap.size + 1 + 1 + 1) (.slice sa L.length sc) L ⟨da, dc, d⟩ rfl HOI.o.own rfl rfl rfl (ybq _) HLM.o (by decide) HZW.o ?_));intro g5 cap5 w5 ho5 hg5 hgn5;have hps := OwnS.push HOI.o (e := ⟨da, dc, d⟩) HII.o ho5 hg5 hgn5
  have hkg : Kp (fun y => (Value.slice sa L.length sc).ownBlock = some y) wi w5 := Kp.grown hg5 fun k h => h
  have hge : ∀ y, (Value.slice sa L.length sc).ownBlock = some y -> w.heap.size + 1 + 1 + 1 <= y := fun y hy => (World.ownsRow.lt HOI.o.own y hy).1
  have HQ5 := lh (HQI.o.kept hkg fun h => by have := hge _ h; omega)
  have HB5 : Hid (Below w.heap.size w w5) := HBWI.o.grown hg5 (by have := HZW.o; omega) fun k hk => by have := hge k hk; omega
  have HK5 : Hid (Kp (fun y => w.heap.size + 1 + 1 <= y) w0 w5) := HKI.o.trans (hkg.mono fun y _ h => by have := hge y h; omega);have HPS := lh hps;have HGG : Hid (w.heap.size + 1 + 1 + 1 <= g5) := (World.ownsRow.lt hps.own g5 rfl).1;have r1 := HQ5.o.cell 1;have rf := HQ5.o.fr 1;have rz := HQ5.o.lt;clear ho5 hg5 hgn5 hps hkg hge p1 pz;go_wp2_with fail;clear r1 rf rz;go_roundw
  case rel =>
   refine ⟨k + 1, L ++ [⟨da, dc, d⟩], some ⟨g5, 0, none⟩, cap5, by omega, by go_num, HB5.o.setCell (by dsimp only; omega) _, HK5.o.trans (Kp.setCell _ _ _ (by dsimp only; omega)), ?_, ?_, ?_⟩
   ·rw [show (L ++ [(⟨da, dc, d⟩ : Sl)]).length = L.length + 1 by simp];exact HQ5.o.set 1 _
   ·refine HPS.o.kept (M := fun y => y = w.heap.size + 1 + 1) (Kp.setCell _ _ _ rfl) (fun y hy e => by omega) fun y hy e => ?_
    simp [Value.ownBlock] at hy
    have := HGG.o; omega
   rw [List.map_append, HLX.o, HTK.o]
   show _ ++ [d] = _ ++ [_]
   rw [HFD.o]
  case measure => simp [intOf]; omega
 obtain rfl : k = t.length := by omega
 have hkn : ¬ ((t.length : Int) < (t.length : Int)) := by omega
 have hls := HO.o.ls (fun k hk => by omega);rw [HLX.o, List.take_length] at hls;have HLS : Hid (LsIn (fun k => w.heap.size + 1 + 1 < k) wr sa (fewT n t)) := hls.2;have q0 := HQ.o.cell 0;have q1 := HQ.o.cell 1;have qz := HQ.o.lt;have HQR := lh (HQ1.o.kept HKP.o (by omega));have s0 := HQR.o.cell 0;have s1 := HQR.o.cell 1;have sf0 := HQR.o.fr 0;have sf1 := HQR.o.fr 1;have sz := HQR.o.lt;rw [HLL.o] at q1;clear hls;go_wp2_with fail;have hg := (HQR.o.set 0 (.int .i64 (n : Int))).set 1 (.slice sa t.length sc);have g0 := hg.cell 0;have g1 := hg.cell 1;refine bodyPost_ret (v := .agg #[.int .i64 (n : Int), .slice sa t.length sc]) (by simp [results, Tryz.results11, go_sem, g0, g1]) rfl ⟨sa, sc, rfl, ?_, (HB.o.setCell (show w.heap.size <= w.heap.size + 1 by omega) _).setCell (show w.heap.size <= w.heap.size + 1 by omega) _⟩
 exact ((HLS.o.kept (M := fun y => y = w.heap.size + 1) (Kp.setCell _ _ _ rfl) (fun y hy e => by omega)).kept (M := fun y => y = w.heap.size + 1) (Kp.setCell _ _ _ rfl) (fun y hy e => by omega)).mono fun k _ h => by omega
def zdz (t : List Cl) : Bool := (t.all fun c => decide (c.length <= 140)) && decide (t.length <= 60)
theorem zla (z : Int) (a : Option Addr) (cap : Nat) (t : List Cl) (w : World) (hl : t.length <= 9223372036854775807) (hx : LsCells w a t) :
 Calls Tryz.prog 9 #[.agg #[.int .i64 z, .slice a t.length cap]] w fun e w' => e = .returned (.bool (zdz t)) /\ Below w.heap.size w w' := by
 obtain ⟨w0, hw0⟩ := nm (w.alloc (.cells #[.int .i64 z, .slice a t.length cap] 24))
 have hb0 : Below w.heap.size w w0 := by rw [hw0]; exact ba _ _
 have q0 : Blk w0 w.heap.size #[.int .i64 z, .slice a t.length cap] 24 := by rw [hw0]; exact Blk.new _ _ _
 have HB0 := lh hb0;have HQ0 := lh q0;have HX := lh (hx.keep hb0);have k1 := q0.cell 1;have kz := q0.lt;clear hb0 q0 hx;go_enter Tryz.func9, Tryz.ntmps9;go_wp2_with fail;rw [<- hw0];clear hw0 k1 kz
 go_loopw [8] (fun i wr => ∃ k : Nat, k <= t.length /\ i = .int .i64 k /\ ((t.take k).all fun c => decide (c.length <= 140)) = true /\ wr = w0) (fun i _ => t.length - (intOf i).toNat)
 case atStart => exact ⟨0, Nat.zero_le _, rfl, rfl, rfl⟩
 obtain ⟨k, hk, rfl, hall, rfl⟩ := hrel;have HAL := lh hall;clear hall
 by_cases hlt : k < t.length
 ·have hki : (k : Int) < (t.length : Int) := by omega
  obtain ⟨b, off, ai, ci, rfl, e0, hci⟩ := HX.o k hlt;have ez := zai e0
  have HGD : Hid (t.getD k [] = t[k]) := by show _ = _; simp [List.getD_eq_getElem?_getD, hlt]
  have HNX : Hid (((t.take (k + 1)).all fun c => decide (c.length <= 140)) = decide ((t.getD k []).length <= 140)) := by
   show _ = _
   rw [List.take_succ_eq_append_getElem hlt, List.all_append, HAL.o, HGD.o]; simp
  have HMM : Hid (t.getD k [] ∈ t) := by show _ ∈ _; rw [HGD.o]; exact List.getElem_mem hlt
  generalize t.getD k [] = c at *;clear hci
  by_cases hc : 140 < c.length
  ·have hci : (140 : Int) < (c.length : Int) := by omega
   have HR : Hid (zdz t = false) := by
    show _ = _
    unfold zdz;rw [Bool.and_eq_false_iff]
    left
    rw [List.all_eq_false];exact ⟨c, HMM.o, by simp; omega⟩
   clear hc;go_wp2;go_ret;exact ⟨by rw [HR.o]; rfl, HB0.o⟩
  have hci : ¬ (140 : Int) < (c.length : Int) := by omega
  go_wp2_with fail;go_roundw
  case rel => exact ⟨k + 1, by omega, by go_num, by rw [HNX.o]; simpa using hc, by first | rfl | trivial⟩
  case measure => simp [intOf]; omega
 obtain rfl : k = t.length := by omega
 have hkn : ¬ ((t.length : Int) < (t.length : Int)) := by omega
 have k1 := HQ0.o.cell 1;have kz := HQ0.o.lt
 have HR : Hid (zdz t = decide ((t.length : Int) <= 60)) := by
  have h := HAL.o;rw [List.take_length] at h
  show _ = _
  unfold zdz;rw [h, Bool.true_and];exact decide_eq_decide.2 (by omega)
 go_wp2;go_ret;exact ⟨by rw [HR.o]; rfl, HB0.o⟩
theorem zk8 {p q r : Prop} (h : p /\ q /\ r) : r := h.2.2
theorem zss (s : St) (l : Int) (w : World) (hs : s.ok) : Calls Tryz.prog 102 #[stv s, .int .i64 l] w fun e w' => e = .returned (.bool (zcj s.mem l)) /\ Below w.heap.size w w' := by
 have hb0 := (Below.refl w.heap.size w).alloc (Nat.le_refl _) (.cells #[.int .u64 (s.a : Int), .int .u64 (s.b : Int)] 40);have HB0 := lh hb0;have q0 := lh (Blk.new w #[.int .u64 (s.a : Int), .int .u64 (s.b : Int)] 40);have HH := lh (fun V => zpq s (zac l) V hs);obtain ⟨W0, hW0⟩ := nm (w.alloc (.cells #[.int .u64 (s.a : Int), .int .u64 (s.b : Int)] 40));rw [<- hW0] at HB0 q0;have HW0 := lh hW0;have k0 : W0.cell? ⟨w.heap.size, 0, none⟩ = some (.int .u64 (s.a : Int)) := q0.out.cell 0;have k1 : W0.cell? ⟨w.heap.size, 1, none⟩ = some (.int .u64 (s.b : Int)) := q0.out.cell 1
 have HKS : Hid (∀ w' : World, Below W0.heap.size W0 w' -> w'.cell? ⟨w.heap.size, 0, none⟩ = some (.int .u64 (s.a : Int)) /\ w'.cell? ⟨w.heap.size, 1, none⟩ = some (.int .u64 (s.b : Int)) /\ Below W0.heap.size W0 w') := lh fun w' hb => ⟨zab hb k0, zab hb k1, hb⟩
 clear hb0 hW0
 by_cases h0 : zac l = 0
 ·have h1 : (zac l != 0) = false := by simp [h0]
  have HR : Hid (zcj s.mem l = false) := by show _ = _; simp [zcj, h0]
  clear h0;go_enter Tryz.func102, Tryz.ntmps102;go_wp2_with fail
  try (rw [<- HW0.o])
  refine wp_region_held_drew (S := (fun w' => w'.cell? ⟨w.heap.size, 0, none⟩ = some (.int .u64 (s.a : Int)) /\ w'.cell? ⟨w.heap.size, 1, none⟩ = some (.int .u64 (s.b : Int)) /\ Below W0.heap.size W0 w')) (by kernel_rfl) (by exact HKS.o _ (Below.refl _ _).drew) fun hH => ?_
  refine tkV 0 5 rfl rfl ?_; try simp only [tkS]
  refine tkR 1 (.cons rfl (fun K hK => ?_) .nil);go_simp;go_at_call 80;refine (zbe _ _).mono ?_;rintro e w' ⟨rfl, rfl⟩
  try go_wp2_with fail
  refine hK.out _ _ (by exact HKS.o _ (zk8 (by assumption))) fun hH => ?_
  clear hK K
  try simp only [tkS]
  refine tkV 2 7 rfl rfl ?_; try simp only [tkS]
  refine tkV 3 8 rfl rfl ?_; try simp only [tkS]
  refine tkO 4 9 rfl rfl ?_; try simp only [tkS]
  refine tkO 5 10 rfl rfl ?_; try simp only [tkS]
  refine tkO 6 11 rfl rfl ?_; try simp only [tkS]
  refine tkO 7 12 rfl rfl ?_; try simp only [tkS]
  refine tkO 8 13 rfl rfl ?_; try simp only [tkS]
  refine tkO 9 14 rfl rfl ?_; try simp only [tkS]
  refine tkO 10 15 rfl rfl ?_; try simp only [tkS]
  refine tkV 11 16 rfl rfl ?_; try simp only [tkS]
  refine tkV 12 4 rfl rfl ?_; try simp only [tkS]
  refine wpAnyH_done (by kernel_rfl) ?_ _
  all_goals
   have B1 := lh (HB0.o.trans (Below.mono (B := W0.heap.size) (zk8 (by assumption)) HB0.o.size));go_wp2;go_ret;exact ⟨zbg HR.o.symm, B1.o⟩
 have h1 : (zac l != 0) = true := by simpa using h0
 have HR : Hid (zcj s.mem l = (s.mem (zac l) == decide (0 < l))) := by show _ = _; simp [zcj, h0]
 clear h0;go_enter Tryz.func102, Tryz.ntmps102;go_wp2_with fail
 try (rw [<- HW0.o])
 refine wp_region_held_drew (S := (fun w' => w'.cell? ⟨w.heap.size, 0, none⟩ = some (.int .u64 (s.a : Int)) /\ w'.cell? ⟨w.heap.size, 1, none⟩ = some (.int .u64 (s.b : Int)) /\ Below W0.heap.size W0 w')) (by kernel_rfl) (by exact HKS.o _ (Below.refl _ _).drew) fun hH => ?_
 refine tkV 0 5 rfl rfl ?_; try simp only [tkS]
 refine tkR 1 (.cons rfl (fun K hK => ?_) .nil);go_simp;go_at_call 80;refine (zbe _ _).mono ?_;rintro e w' ⟨rfl, rfl⟩
 try go_wp2_with fail
 refine hK.out _ _ (by exact HKS.o _ (zk8 (by assumption))) fun hH => ?_
 clear hK K
 try simp only [tkS]
 refine tkV 2 7 rfl rfl ?_; try simp only [tkS]
 refine tkV 3 8 rfl rfl ?_; try simp only [tkS]
 refine tkV 4 9 rfl rfl ?_; try simp only [tkS]
 refine tkV 5 10 rfl rfl ?_; try simp only [tkS]
 refine tkV 8 13 rfl rfl ?_; try simp only [tkS]
 refine tkV 9 14 rfl rfl ?_; try simp only [tkS]
 refine tkR 6 (.cons rfl (fun K hK => ?_) .nil);go_simp;go_at_call 80;refine (zbe _ _).mono ?_;rintro e w' ⟨rfl, rfl⟩
 try go_wp2_with fail
 refine hK.out _ _ (by exact HKS.o _ (zk8 (by assumption))) fun hH => ?_
 clear hK K
 try simp only [tkS]
 refine tkR 7 (.cons rfl (fun K hK => ?_) .nil);go_simp;go_at_call 75;refine (HH.o _).mono ?_;rintro e w1 ⟨rfl, hb1⟩;have hw1 : Below W0.heap.size W0 w1 := Below.trans (zk8 (by assumption)) (hb1.mono (Below.size (B := W0.heap.size) (w := W0) (zk8 (by assumption))));clear hb1;go_wp2_with fail
 refine hK.out _ _ (by exact HKS.o _ hw1) fun hH => ?_
 clear hK K
 try simp only [tkS]
 refine tkV 10 15 rfl rfl ?_; try simp only [tkS]
 refine tkV 11 16 rfl rfl ?_; try simp only [tkS]
 refine tkV 12 4 rfl rfl ?_; try simp only [tkS]
 refine wpAnyH_done (by kernel_rfl) ?_ _
 all_goals
  have B1 := lh (HB0.o.trans (Below.mono (B := W0.heap.size) hw1 HB0.o.size));go_wp2;go_ret;exact ⟨zbg HR.o.symm, B1.o⟩
theorem zxb {s : Int -> Bool} {t : List Cl} {k : Nat} (h : k < t.length) : evL s (t.drop k) = (evC s (t.getD k []) && evL s (t.drop (k + 1))) := by
 unfold evL;rw [List.drop_eq_getElem_cons h, List.all_cons]; simp [List.getD_eq_getElem?_getD, h]
end Go.Proofs.YtlleofjjdhfgcaaGreatDoor
