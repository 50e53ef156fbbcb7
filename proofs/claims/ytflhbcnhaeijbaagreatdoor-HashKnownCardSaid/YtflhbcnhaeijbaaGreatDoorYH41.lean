/- Part of the proofs that laws return true for every input, where the tables that the rows list are laid. Texts: Hx. -/
import Derived.Test.YtflhbcnhaeijbaaGreatDoorYH40
import Derived.Test.YtflhbcnhaeijbaaGreatDoorYH1
set_option maxHeartbeats 8000000
set_option maxRecDepth 100000
set_option linter.unusedSimpArgs false
set_option linter.unusedVariables false
namespace Go.Proofs.YtflhbcnhaeijbaaGreatDoor
open Go.RowKit Cen
theorem run_neq_nat (x y : ByteArray) (w : World) : (binOp .neq 44 (.agg #[.string x]) (.agg #[.string y])).run Tryz.prog w = .ok (.bool !(x.toList == y.toList)) w := by
 have hp0 : ∀ (x : Value) w, (part 9 #[x] 0).run Tryz.prog w = .ok x w := fun x w => by kernel_rfl
 rw [run_neq_struct, run_equalIn_struct w 9999 _ _ _ (by kernel_rfl) (by kernel_rfl)];rw [show (Tryz.prog.fieldsOf 44).toList = [{ name := "b", type := 9, offset := 0, embedded := false, tag := "", pkgPath := "census/nat", byteOffset := 0 }] by kernel_rfl];simp only [Op.eqFields, Sem.run_bind, Sem.run_ite, hp0, Result.andThen_ok, run_equalIn_string w 9998 9 x y Tryz.underlying9]
 cases (x.toList == y.toList) <;> simp
theorem run_neq_same (x : ByteArray) (w : World) : (binOp .neq 44 (.agg #[.string x]) (.agg #[.string x])).run Tryz.prog w = .ok (.bool false) w := by rw [run_neq_nat]; simp
theorem run_eql_same (x : ByteArray) (w : World) : (binOp .eql 44 (.agg #[.string x]) (.agg #[.string x])).run Tryz.prog w = .ok (.bool true) w := by rw [run_eql_nat]; simp
theorem pr_one {w : World} {b x : Nat} {o : Bool} (h : Blk w b #[.int .u64 (x : Int), .int .u64 0, .bool o] 36) : PrCells w (some ⟨b, 0, none⟩) [⟨⟨x, 0⟩, o⟩] := by
 intro i hi
 obtain rfl : i = 0 := by simpa using hi
 exact ⟨b, 0, rfl, h.cell 0, h.cell 1, h.cell 2⟩
theorem sam_n1 : ([] : List Pr).any (outP 3) = false := rfl
theorem sam_n2 : ([⟨⟨3, 0⟩, false⟩] : List Pr).any (outP 3) = false := by decide +kernel
theorem sam_n3 : ([⟨⟨0, 0⟩, true⟩] : List Pr).any (outP 3) = false := by decide +kernel
theorem sam_n4 : ([⟨⟨8, 0⟩, false⟩] : List Pr).any (outP 3) = true := by decide +kernel
theorem sam_ct : chkT 3 samT = 0 := by decide +kernel
theorem sam_neg : chkT (-1) [] = 6 := by decide +kernel
theorem mk100 (w : World) : (Instr.makeSlice 22 (.int .i64 100) (.int .i64 100)).run Tryz.prog w = .ok (.slice (some ⟨w.heap.size, 0, none⟩) 100 100) (w.alloc (.cells (Array.replicate 100 (.int .u8 0)) 5)) := by kernel_rfl
theorem hknown_any (w : World) (htab : Tab w) (hdt : Dtab w) : Calls Tryz.prog 4 #[] w fun e w' => e = .returned (.bool true) /\ Below w.heap.size w w' := by
 have HSM := lh (fun V => sample_any V)
 have HCL : Hid (∀ V, Below w.heap.size w V -> ∀ a cap la (l : List Pr) (q : Nat), l.length <= 1 -> LsCells V a samT -> PrCells V la l -> (∀ p ∈ l, p.ok) -> l.any (outP 3) = false -> cellO 3 samN l = some q -> Calls Tryz.prog 11 #[.agg #[.int .i64 3, .slice a 2 cap], .slice la l.length l.length] V (CellPost q 0 V)) :=
  fun V hV a cap la l q hl hx hp hok hin hc => cell_any 3 a cap samT la l.length l q V sam_gd hx (by omega) hp hok hin hc (htab.keep hV) (hdt.keep hV)
 have HC0 : Hid (∀ V, Below w.heap.size w V -> ∀ a cap, LsCells V a samT -> Calls Tryz.prog 11 #[.agg #[.int .i64 3, .slice a 2 cap], .slice none 0 0] V (CellPost 4 0 V)) :=
  fun V hV a cap hx => HCL.o V hV a cap none [] 4 (by decide) hx (PrCells.nil _ _) (by simp) sam_n1 sam_none
 have HC1 : Hid (∀ V, Below w.heap.size w V -> ∀ a cap b, LsCells V a samT -> Blk V b #[.int .u64 3, .int .u64 0, .bool false] 36 -> Calls Tryz.prog 11 #[.agg #[.int .i64 3, .slice a 2 cap], .slice (some ⟨b, 0, none⟩) 1 1] V (CellPost 1 0 V)) :=
  fun V hV a cap b hx hb => HCL.o V hV a cap _ [⟨⟨3, 0⟩, false⟩] 1 (by decide) hx (pr_one hb) (by intro p hp; simp at hp; subst hp; exact ⟨by decide, by decide⟩) sam_n2 sam_b
 have HC2 : Hid (∀ V, Below w.heap.size w V -> ∀ a cap b, LsCells V a samT -> Blk V b #[.int .u64 0, .int .u64 0, .bool true] 36 -> Calls Tryz.prog 11 #[.agg #[.int .i64 3, .slice a 2 cap], .slice (some ⟨b, 0, none⟩) 1 1] V (CellPost 0 0 V)) :=
  fun V hV a cap b hx hb => HCL.o V hV a cap _ [⟨⟨0, 0⟩, true⟩] 0 (by decide) hx (pr_one (x := 0) hb) (by intro p hp; simp at hp; subst hp; exact ⟨by decide, by decide⟩) sam_n3 sam_c
 have HC3 : Hid (∀ V, Below w.heap.size w V -> ∀ a cap b, LsCells V a samT -> Blk V b #[.int .u64 8, .int .u64 0, .bool false] 36 -> Calls Tryz.prog 11 #[.agg #[.int .i64 3, .slice a 2 cap], .slice (some ⟨b, 0, none⟩) 1 1] V (CellPost 0 1 V)) :=
  fun V _ a cap b hx hb => cell_out 3 a cap samT (some ⟨b, 0, none⟩) 1 [⟨⟨8, 0⟩, false⟩] V hx (by decide) (by decide) sam_ct (by decide) (pr_one hb) (by intro p hp; simp at hp; subst hp; exact ⟨by decide, by decide⟩) sam_n4
 have HES : Hid (∀ V, Below w.heap.size w V -> ∀ a cap sa sc (bs : List Nat) (m q : Nat), bs.length <= 1 -> LsCells V a samT -> U8Cells V sa bs -> m <= 1 -> m * 4 <= 8 * bs.length -> (parsF bs 3 m).any (outP 3) = false -> cellO 3 samN (parsF bs 3 m) = some q -> q <= 4 -> Calls Tryz.prog 12 #[.agg #[.int .i64 3, .slice a 2 cap], .slice sa bs.length sc, .int .i64 (m : Int)] V (CellPost (q * 2 ^ m) 0 V)) :=
  fun V hV a cap sa sc bs m q hl hx hs hm h8 hin hc hq => est_any 3 a cap samT sa sc bs m q V sam_gd hx hs (by omega) (by omega) h8 hin hc (by omega) (htab.keep hV) (hdt.keep hV)
 have HE1 : Hid (∀ V, Below w.heap.size w V -> ∀ a cap b, LsCells V a samT -> Blk V b #[.int .u8 192] 5 -> Calls Tryz.prog 12 #[.agg #[.int .i64 3, .slice a 2 cap], .slice (some ⟨b, 0, none⟩) 1 1, .int .i64 1] V (CellPost 2 0 V)) :=
  fun V hV a cap b hx hb => HES.o V hV a cap _ 1 [192] 1 1 (by decide) hx (u8_one hb (by decide)) (by decide) (by decide) sam_o1 sam_e1 (by decide)
 have HE2 : Hid (∀ V, Below w.heap.size w V -> ∀ a cap b, LsCells V a samT -> Blk V b #[.int .u8 208] 5 -> Calls Tryz.prog 12 #[.agg #[.int .i64 3, .slice a 2 cap], .slice (some ⟨b, 0, none⟩) 1 1, .int .i64 1] V (CellPost 6 0 V)) :=
  fun V hV a cap b hx hb => HES.o V hV a cap _ 1 [208] 1 3 (by decide) hx (u8_one hb (by decide)) (by decide) (by decide) sam_o2 sam_e2 (by decide)
 have HE3 : Hid (∀ V, Below w.heap.size w V -> ∀ a cap b, LsCells V a samT -> Blk V b #[.int .u8 16] 5 -> Calls Tryz.prog 12 #[.agg #[.int .i64 3, .slice a 2 cap], .slice (some ⟨b, 0, none⟩) 1 1, .int .i64 1] V (CellPost 0 0 V)) :=
  fun V hV a cap b hx hb => HES.o V hV a cap _ 1 [16] 1 0 (by decide) hx (u8_one hb (by decide)) (by decide) (by decide) sam_o3 sam_e3 (by decide)
 have HE0 : Hid (∀ V, Below w.heap.size w V -> ∀ a cap, LsCells V a samT -> Calls Tryz.prog 12 #[.agg #[.int .i64 3, .slice a 2 cap], .slice none 0 0, .int .i64 0] V (CellPost 4 0 V)) :=
  fun V hV a cap hx => HES.o V hV a cap none 0 [] 0 4 (by decide) hx (fun _ h => absurd h (Nat.not_lt_zero _)) (by decide) (by decide) sam_n1 sam_none (by decide)
 have HMN : Hid (∀ V : World, ∀ a cap, LsCells V a samT -> Calls Tryz.prog 14 #[.agg #[.int .i64 3, .slice a 2 cap], .slice none 0 0, .int .i64 1] V (CellPost 0 1 V)) :=
  fun V a cap hx => med_none 3 a cap samT none 0 1 V hx (by decide) (by decide) sam_ct
 have HR1 : Hid (∀ V : World, ∀ a cap, LsCells V a samT -> Calls Tryz.prog 12 #[.agg #[.int .i64 3, .slice a 2 cap], .slice none 0 0, .int .i64 1] V (CellPost 0 1 V)) :=
  fun V a cap hx => est_refuse 3 a cap samT none 0 [] 1 V hx (by decide) (by decide) sam_ct (by decide) (by unfold parsBad; decide)
 have HR2 : Hid (∀ V : World, ∀ a cap sa, LsCells V a samT -> Calls Tryz.prog 12 #[.agg #[.int .i64 3, .slice a 2 cap], .slice sa 100 100, .int .i64 17] V (CellPost 0 1 V)) :=
  fun V a cap sa hx => est_refuse 3 a cap samT sa 100 (List.replicate 100 0) 17 V hx (by decide) (by decide) sam_ct (by decide) (by unfold parsBad; decide)
 have HMB : Hid (∀ V : World, Calls Tryz.prog 14 #[.agg #[.int .i64 (-1), .slice none 0 0], .slice none 0 0, .int .i64 1] V (CellPost 0 6 V)) :=
  fun V => med_bad (-1) none 0 [] none 0 0 1 6 V (fun _ h => absurd h (Nat.not_lt_zero _)) (by decide) (by decide) sam_neg (by decide)
 have HWK : Hid (∀ V, Below w.heap.size w V -> Calls Tryz.prog 5 #[] V fun e w' => e = .returned (.bool true) /\ Below V.heap.size V w') := fun V hV => works45_any V (htab.keep hV) (hdt.keep hV)
 have HOF : Hid (∀ (x : Nat), x <= 6 -> ∀ V : World, Calls Tryz.prog 13 #[.int .u64 (x : Int)] V fun e w' => e = .returned (.agg #[.string (natB x)]) /\ Below V.heap.size V w') := fun x hx V => of_any x (by omega) V
 have HO0 : Hid (∀ V : World, Calls Tryz.prog 13 #[.int .u64 0] V fun e w' => e = .returned (.agg #[.string (natB 0)]) /\ Below V.heap.size V w') := HOF.o 0 (by decide);have HO1 : Hid (∀ V : World, Calls Tryz.prog 13 #[.int .u64 1] V fun e w' => e = .returned (.agg #[.string (natB 1)]) /\ Below V.heap.size V w') := HOF.o 1 (by decide);have HO2 : Hid (∀ V : World, Calls Tryz.prog 13 #[.int .u64 2] V fun e w' => e = .returned (.agg #[.string (natB 2)]) /\ Below V.heap.size V w') := HOF.o 2 (by decide);have HO4 : Hid (∀ V : World, Calls Tryz.prog 13 #[.int .u64 4] V fun e w' => e = .returned (.agg #[.string (natB 4)]) /\ Below V.heap.size V w') := HOF.o 4 (by decide)
 have HO6 : Hid (∀ V : World, Calls Tryz.prog 13 #[.int .u64 6] V fun e w' => e = .returned (.agg #[.string (natB 6)]) /\ Below V.heap.size V w') := HOF.o 6 (by decide)
 have HS1 : Hid (∀ V : World, Calls Tryz.prog 8 #[.int .i64 3, .int .i64 2] V fun e w' => e = .returned (.int .i64 8) /\ V = w') := fun V => seeds_any 3 2 V
 have HS2 : Hid (∀ V : World, Calls Tryz.prog 8 #[.int .i64 129, .int .i64 1] V fun e w' => e = .returned (.int .i64 0) /\ V = w') := fun V => seeds_any 129 1 V
 have HS3 : Hid (∀ V : World, Calls Tryz.prog 8 #[.int .i64 3, .int .i64 (-1)] V fun e w' => e = .returned (.int .i64 0) /\ V = w') := fun V => seeds_any 3 (-1) V
 have HS4 : Hid (∀ V : World, Calls Tryz.prog 8 #[.int .i64 128, .int .i64 16] V fun e w' => e = .returned (.int .i64 2064) /\ V = w') := fun V => seeds_any 128 16 V
 clear htab hdt HCL HES HOF;go_enter Tryz.func4, Tryz.ntmps4;go_wp2_with fail;refine (HSM.o _).mono ?_;rintro e u ⟨a, cap, rfl, hl0, hb0⟩;go_wp2_with fail
 obtain ⟨tb, htb⟩ : ∃ b, b = u.heap.size := ⟨_, rfl⟩
 obtain ⟨v0, hv0⟩ : ∃ W, W = u.alloc (.cells #[.int .i64 3, .slice a 2 cap] 41) := ⟨_, rfl⟩
 have ha : Below u.heap.size u v0 := by rw [hv0]; exact (Below.refl _ _).alloc (Nat.le_refl _) _
 have qt : Blk v0 tb #[.int .i64 3, .slice a 2 cap] 41 := by rw [hv0, htb]; exact Blk.new _ _ _
 have HB := lh (hb0.trans (ha.mono hb0.size));have HT := lh qt;have HL := lh (hl0.keep ha);rw [<- hv0, <- htb];clear ha qt hv0 htb hl0 hb0 HSM;refine (HC0.o _ HB.o _ _ HL.o).mono ?_;rintro e u1 ⟨rfl, hbb⟩
 replace HB := lh (HB.o.trans (Below.mono hbb HB.o.size))
 replace HT := lh (HT.o.later hbb)
 replace HL := lh (HL.o.keep hbb)
 clear hbb;have k0 := HT.o.cell 0;have k1 := HT.o.cell 1;have kz := HT.o.lt;go_wp2_with fail
 obtain ⟨t2, hbk⟩ : ∃ b, b = u1.heap.size := ⟨_, rfl⟩
 obtain ⟨v1, hv⟩ : ∃ W, W = u1.alloc (.cells #[.string (natB 4)] 44) := ⟨_, rfl⟩
 have hba : Below u1.heap.size u1 v1 := by rw [hv]; exact (Below.refl _ _).alloc (Nat.le_refl _) _
 have qn : Blk v1 t2 #[.string (natB 4)] 44 := by rw [hv, hbk]; exact Blk.new _ _ _
 have hz : v1.heap.size = t2 + 1 := by rw [hv, hbk]; simp
 rw [<- hv, <- hbk]
 replace HB := lh (HB.o.trans (Below.mono hba HB.o.size))
 replace HT := lh (HT.o.later hba)
 replace HL := lh (HL.o.keep hba)
 have HQt2 := lh qn;clear hba qn hv hbk k0 k1 kz;have hba : Below v1.heap.size v1 (v1.alloc (.cells #[.int .u64 3, .int .u64 0, .bool false] 36)) := (Below.refl _ _).alloc (Nat.le_refl _) _;refine (HC1.o _ (HB.o.trans (Below.mono hba HB.o.size)) _ _ _ (HL.o.keep hba) (Blk.new' _ hz _ _)).mono ?_;rintro e u2 ⟨rfl, hb⟩;have hbb := hba.trans (Below.mono hb hba.size);clear hba hb
 replace HB := lh (HB.o.trans (Below.mono hbb HB.o.size))
 replace HT := lh (HT.o.later hbb)
 replace HL := lh (HL.o.keep hbb)
 replace HQt2 := lh (HQt2.o.later hbb)
 clear hbb hz;have k0 := HT.o.cell 0;have k1 := HT.o.cell 1;have kz := HT.o.lt;go_wp2_with fail
 obtain ⟨t4, hbk⟩ : ∃ b, b = u2.heap.size := ⟨_, rfl⟩
 obtain ⟨v2, hv⟩ : ∃ W, W = u2.alloc (.cells #[.string (natB 1)] 44) := ⟨_, rfl⟩
 have hba : Below u2.heap.size u2 v2 := by rw [hv]; exact (Below.refl _ _).alloc (Nat.le_refl _) _
 have qn : Blk v2 t4 #[.string (natB 1)] 44 := by rw [hv, hbk]; exact Blk.new _ _ _
 have hz : v2.heap.size = t4 + 1 := by rw [hv, hbk]; simp
 rw [<- hv, <- hbk]
 replace HB := lh (HB.o.trans (Below.mono hba HB.o.size))
 replace HT := lh (HT.o.later hba)
 replace HL := lh (HL.o.keep hba)
 replace HQt2 := lh (HQt2.o.later hba)
 have HQt4 := lh qn;clear hba qn hv hbk k0 k1 kz;have hba : Below v2.heap.size v2 (v2.alloc (.cells #[.int .u64 0, .int .u64 0, .bool true] 36)) := (Below.refl _ _).alloc (Nat.le_refl _) _;refine (HC2.o _ (HB.o.trans (Below.mono hba HB.o.size)) _ _ _ (HL.o.keep hba) (Blk.new' _ hz _ _)).mono ?_;rintro e u3 ⟨rfl, hb⟩;have hbb := hba.trans (Below.mono hb hba.size);clear hba hb
 replace HB := lh (HB.o.trans (Below.mono hbb HB.o.size))
 replace HT := lh (HT.o.later hbb)
 replace HL := lh (HL.o.keep hbb)
 replace HQt2 := lh (HQt2.o.later hbb)
 replace HQt4 := lh (HQt4.o.later hbb)
 clear hbb hz;have k0 := HT.o.cell 0;have k1 := HT.o.cell 1;have kz := HT.o.lt;go_wp2_with fail
 obtain ⟨t6, hbk⟩ : ∃ b, b = u3.heap.size := ⟨_, rfl⟩
 obtain ⟨v3, hv⟩ : ∃ W, W = u3.alloc (.cells #[.string (natB 0)] 44) := ⟨_, rfl⟩
 have hba : Below u3.heap.size u3 v3 := by rw [hv]; exact (Below.refl _ _).alloc (Nat.le_refl _) _
 have qn : Blk v3 t6 #[.string (natB 0)] 44 := by rw [hv, hbk]; exact Blk.new _ _ _
 have hz : v3.heap.size = t6 + 1 := by rw [hv, hbk]; simp
 rw [<- hv, <- hbk]
 replace HB := lh (HB.o.trans (Below.mono hba HB.o.size))
 replace HT := lh (HT.o.later hba)
 replace HL := lh (HL.o.keep hba)
 replace HQt2 := lh (HQt2.o.later hba)
 replace HQt4 := lh (HQt4.o.later hba)
 have HQt6 := lh qn;clear hba qn hv hbk k0 k1 kz;have hba : Below v3.heap.size v3 (v3.alloc (.cells #[.int .u64 8, .int .u64 0, .bool false] 36)) := (Below.refl _ _).alloc (Nat.le_refl _) _;refine (HC3.o _ (HB.o.trans (Below.mono hba HB.o.size)) _ _ _ (HL.o.keep hba) (Blk.new' _ hz _ _)).mono ?_;rintro e u4 ⟨rfl, hb⟩;have hbb := hba.trans (Below.mono hb hba.size);clear hba hb
 replace HB := lh (HB.o.trans (Below.mono hbb HB.o.size))
 replace HT := lh (HT.o.later hbb)
 replace HL := lh (HL.o.keep hbb)
 replace HQt2 := lh (HQt2.o.later hbb)
 replace HQt4 := lh (HQt4.o.later hbb)
 replace HQt6 := lh (HQt6.o.later hbb)
 clear hbb hz;have k0 := HT.o.cell 0;have k1 := HT.o.cell 1;have kz := HT.o.lt;go_wp2_with fail
 obtain ⟨t8, hbk⟩ : ∃ b, b = u4.heap.size := ⟨_, rfl⟩
 obtain ⟨v4, hv⟩ : ∃ W, W = u4.alloc (.cells #[.string (natB 0)] 44) := ⟨_, rfl⟩
 have hba : Below u4.heap.size u4 v4 := by rw [hv]; exact (Below.refl _ _).alloc (Nat.le_refl _) _
 have qn : Blk v4 t8 #[.string (natB 0)] 44 := by rw [hv, hbk]; exact Blk.new _ _ _
 have hz : v4.heap.size = t8 + 1 := by rw [hv, hbk]; simp
 rw [<- hv, <- hbk]
 replace HB := lh (HB.o.trans (Below.mono hba HB.o.size))
 replace HT := lh (HT.o.later hba)
 replace HL := lh (HL.o.keep hba)
 replace HQt2 := lh (HQt2.o.later hba)
 replace HQt4 := lh (HQt4.o.later hba)
 replace HQt6 := lh (HQt6.o.later hba)
 have HQt8 := lh qn;clear hba qn hv hbk k0 k1 kz;have hba : Below v4.heap.size v4 (v4.alloc (.cells #[.int .u8 192] 5)) := (Below.refl _ _).alloc (Nat.le_refl _) _;refine (HE1.o _ (HB.o.trans (Below.mono hba HB.o.size)) _ _ _ (HL.o.keep hba) (Blk.new' _ hz _ _)).mono ?_;rintro e u5 ⟨rfl, hb⟩;have hbb := hba.trans (Below.mono hb hba.size);clear hba hb
 replace HB := lh (HB.o.trans (Below.mono hbb HB.o.size))
 replace HT := lh (HT.o.later hbb)
 replace HL := lh (HL.o.keep hbb)
 replace HQt2 := lh (HQt2.o.later hbb)
 replace HQt4 := lh (HQt4.o.later hbb)
 replace HQt6 := lh (HQt6.o.later hbb)
 replace HQt8 := lh (HQt8.o.later hbb)
 clear hbb hz;have k0 := HT.o.cell 0;have k1 := HT.o.cell 1;have kz := HT.o.lt;go_wp2_with fail
 obtain ⟨t10, hbk⟩ : ∃ b, b = u5.heap.size := ⟨_, rfl⟩
 obtain ⟨v5, hv⟩ : ∃ W, W = u5.alloc (.cells #[.string (natB 2)] 44) := ⟨_, rfl⟩
 have hba : Below u5.heap.size u5 v5 := by rw [hv]; exact (Below.refl _ _).alloc (Nat.le_refl _) _
 have qn : Blk v5 t10 #[.string (natB 2)] 44 := by rw [hv, hbk]; exact Blk.new _ _ _
 have hz : v5.heap.size = t10 + 1 := by rw [hv, hbk]; simp
 rw [<- hv, <- hbk]
 replace HB := lh (HB.o.trans (Below.mono hba HB.o.size))
 replace HT := lh (HT.o.later hba)
 replace HL := lh (HL.o.keep hba)
 replace HQt2 := lh (HQt2.o.later hba)
 replace HQt4 := lh (HQt4.o.later hba)
 replace HQt6 := lh (HQt6.o.later hba)
 replace HQt8 := lh (HQt8.o.later hba)
 have HQt10 := lh qn;clear hba qn hv hbk k0 k1 kz;have hba : Below v5.heap.size v5 (v5.alloc (.cells #[.int .u8 208] 5)) := (Below.refl _ _).alloc (Nat.le_refl _) _;refine (HE2.o _ (HB.o.trans (Below.mono hba HB.o.size)) _ _ _ (HL.o.keep hba) (Blk.new' _ hz _ _)).mono ?_;rintro e u6 ⟨rfl, hb⟩;have hbb := hba.trans (Below.mono hb hba.size);clear hba hb
 replace HB := lh (HB.o.trans (Below.mono hbb HB.o.size))
 replace HT := lh (HT.o.later hbb)
 replace HL := lh (HL.o.keep hbb)
 replace HQt2 := lh (HQt2.o.later hbb)
 replace HQt4 := lh (HQt4.o.later hbb)
 replace HQt6 := lh (HQt6.o.later hbb)
 replace HQt8 := lh (HQt8.o.later hbb)
 replace HQt10 := lh (HQt10.o.later hbb)
 clear hbb hz;have k0 := HT.o.cell 0;have k1 := HT.o.cell 1;have kz := HT.o.lt;go_wp2_with fail
 obtain ⟨t12, hbk⟩ : ∃ b, b = u6.heap.size := ⟨_, rfl⟩
 obtain ⟨v6, hv⟩ : ∃ W, W = u6.alloc (.cells #[.string (natB 6)] 44) := ⟨_, rfl⟩
 have hba : Below u6.heap.size u6 v6 := by rw [hv]; exact (Below.refl _ _).alloc (Nat.le_refl _) _
 have qn : Blk v6 t12 #[.string (natB 6)] 44 := by rw [hv, hbk]; exact Blk.new _ _ _
 have hz : v6.heap.size = t12 + 1 := by rw [hv, hbk]; simp
 rw [<- hv, <- hbk]
 replace HB := lh (HB.o.trans (Below.mono hba HB.o.size))
 replace HT := lh (HT.o.later hba)
 replace HL := lh (HL.o.keep hba)
 replace HQt2 := lh (HQt2.o.later hba)
 replace HQt4 := lh (HQt4.o.later hba)
 replace HQt6 := lh (HQt6.o.later hba)
 replace HQt8 := lh (HQt8.o.later hba)
 replace HQt10 := lh (HQt10.o.later hba)
 have HQt12 := lh qn;clear hba qn hv hbk k0 k1 kz;have hba : Below v6.heap.size v6 (v6.alloc (.cells #[.int .u8 16] 5)) := (Below.refl _ _).alloc (Nat.le_refl _) _;refine (HE3.o _ (HB.o.trans (Below.mono hba HB.o.size)) _ _ _ (HL.o.keep hba) (Blk.new' _ hz _ _)).mono ?_;rintro e u7 ⟨rfl, hb⟩;have hbb := hba.trans (Below.mono hb hba.size);clear hba hb
 replace HB := lh (HB.o.trans (Below.mono hbb HB.o.size))
 replace HT := lh (HT.o.later hbb)
 replace HL := lh (HL.o.keep hbb)
 replace HQt2 := lh (HQt2.o.later hbb)
 replace HQt4 := lh (HQt4.o.later hbb)
 replace HQt6 := lh (HQt6.o.later hbb)
 replace HQt8 := lh (HQt8.o.later hbb)
 replace HQt10 := lh (HQt10.o.later hbb)
 replace HQt12 := lh (HQt12.o.later hbb)
 clear hbb hz;have k0 := HT.o.cell 0;have k1 := HT.o.cell 1;have kz := HT.o.lt
 go_upto_region 9 with fail
 obtain ⟨t14, hbk⟩ : ∃ b, b = u7.heap.size := ⟨_, rfl⟩
 obtain ⟨v7, hv⟩ : ∃ W, W = u7.alloc (.cells #[.string (natB 0)] 44) := ⟨_, rfl⟩
 have hba : Below u7.heap.size u7 v7 := by rw [hv]; exact (Below.refl _ _).alloc (Nat.le_refl _) _
 have qn : Blk v7 t14 #[.string (natB 0)] 44 := by rw [hv, hbk]; exact Blk.new _ _ _
 have hz : v7.heap.size = t14 + 1 := by rw [hv, hbk]; simp
 rw [<- hv, <- hbk]
 replace HB := lh (HB.o.trans (Below.mono hba HB.o.size))
 replace HT := lh (HT.o.later hba)
 replace HL := lh (HL.o.keep hba)
 replace HQt2 := lh (HQt2.o.later hba)
 replace HQt4 := lh (HQt4.o.later hba)
 replace HQt6 := lh (HQt6.o.later hba)
 replace HQt8 := lh (HQt8.o.later hba)
 replace HQt10 := lh (HQt10.o.later hba)
 replace HQt12 := lh (HQt12.o.later hba)
 have HQt14 := lh qn;clear hba qn hv hbk k0 k1 kz;clear hz HC0 HC1 HC2 HC3 HE1 HE2 HE3;have xt2 := HQt2.o.cell 0;have zt2 := HQt2.o.lt;have xt4 := HQt4.o.cell 0;have zt4 := HQt4.o.lt;have xt6 := HQt6.o.cell 0;have zt6 := HQt6.o.lt;have xt10 := HQt10.o.cell 0;have zt10 := HQt10.o.lt;have xt12 := HQt12.o.cell 0;have zt12 := HQt12.o.lt;have xt14 := HQt14.o.cell 0;have zt14 := HQt14.o.lt
 have HKS : Hid (∀ w' : World, Below v7.heap.size v7 w' -> (fun w' => w'.cell? ⟨t2, 0, none⟩ = some (.string (natB 4)) /\ w'.cell? ⟨t4, 0, none⟩ = some (.string (natB 1)) /\ w'.cell? ⟨t6, 0, none⟩ = some (.string (natB 0)) /\ w'.cell? ⟨t10, 0, none⟩ = some (.string (natB 2)) /\ w'.cell? ⟨t12, 0, none⟩ = some (.string (natB 6)) /\ w'.cell? ⟨t14, 0, none⟩ = some (.string (natB 0))) w') := fun w' hb => ⟨zaa hb xt2, zaa hb xt4, zaa hb xt6, zaa hb xt10, zaa hb xt12, zaa hb xt14⟩
 have hgn := eqGuard_nat;have hNE := run_neq_same;refine wp_region_held_drew (S := (fun w' => w'.cell? ⟨t2, 0, none⟩ = some (.string (natB 4)) /\ w'.cell? ⟨t4, 0, none⟩ = some (.string (natB 1)) /\ w'.cell? ⟨t6, 0, none⟩ = some (.string (natB 0)) /\ w'.cell? ⟨t10, 0, none⟩ = some (.string (natB 2)) /\ w'.cell? ⟨t12, 0, none⟩ = some (.string (natB 6)) /\ w'.cell? ⟨t14, 0, none⟩ = some (.string (natB 0)))) (by kernel_rfl) ?_ (fun hHeld => ?_)
 ·try dsimp only
  exact HKS.o _ (Below.refl v7.heap.size v7).drew
 refine tkV 0 73 rfl rfl ?_; try simp only [tkS]
 refine tkR 1 (.cons rfl (fun K hK => ?_) .nil);go_simp;go_at_call 13;refine Calls.mono (HO4.o _) ?_;rintro e V20 ⟨rfl, hb20⟩;have hv20 : Below v7.heap.size v7 V20 := Below.trans (Below.refl v7.heap.size v7).drew (Below.mono hb20 (Below.size (Below.refl v7.heap.size v7).drew));clear hb20;go_wp2_with fail;refine hK.out _ _ ?_ (fun hHeld => ?_)
 ·try dsimp only
  exact HKS.o _ hv20
 clear hK K
 try simp only [tkS]
 refine tkV 2 75 rfl rfl ?_; try simp only [tkS]
 refine tkV 3 76 rfl rfl ?_; try simp only [tkS]
 refine tkV 4 77 rfl rfl ?_; try simp only [tkS]
 refine tkV 5 78 rfl rfl ?_; try simp only [tkS]
 refine tkV 6 79 rfl rfl ?_; try simp only [tkS]
 refine tkV 7 80 rfl rfl ?_; try simp only [tkS]
 refine tkV 8 81 rfl rfl ?_; try simp only [tkS]
 refine tkR 9 (.cons rfl (fun K hK => ?_) .nil);go_simp;go_at_call 13;refine Calls.mono (HO1.o _) ?_;rintro e V21 ⟨rfl, hb21⟩;have hv21 : Below v7.heap.size v7 V21 := Below.trans hv20 (Below.mono hb21 (Below.size hv20));clear hb21;go_wp2_with fail;refine hK.out _ _ ?_ (fun hHeld => ?_)
 ·try dsimp only
  exact HKS.o _ hv21
 clear hK K
 try simp only [tkS]
 refine tkV 10 83 rfl rfl ?_; try simp only [tkS]
 refine tkV 11 84 rfl rfl ?_; try simp only [tkS]
 refine tkV 12 85 rfl rfl ?_; try simp only [tkS]
 refine tkV 13 86 rfl rfl ?_; try simp only [tkS]
 refine tkV 14 87 rfl rfl ?_; try simp only [tkS]
 refine tkV 15 88 rfl rfl ?_; try simp only [tkS]
 refine tkV 16 89 rfl rfl ?_; try simp only [tkS]
 refine tkV 17 90 rfl rfl ?_; try simp only [tkS]
 refine tkR 18 (.cons rfl (fun K hK => ?_) .nil);go_simp;go_at_call 13;refine Calls.mono (HO0.o _) ?_;rintro e V22 ⟨rfl, hb22⟩;have hv22 : Below v7.heap.size v7 V22 := Below.trans hv21 (Below.mono hb22 (Below.size hv21));clear hb22;go_wp2_with fail;refine hK.out _ _ ?_ (fun hHeld => ?_)
 ·try dsimp only
  exact HKS.o _ hv22
 clear hK K
 try simp only [tkS]
 refine tkV 19 92 rfl rfl ?_; try simp only [tkS]
 refine tkV 20 93 rfl rfl ?_; try simp only [tkS]
 refine tkV 21 94 rfl rfl ?_; try simp only [tkS]
 refine tkV 22 95 rfl rfl ?_; try simp only [tkS]
 refine tkV 23 96 rfl rfl ?_; try simp only [tkS]
 refine tkV 24 97 rfl rfl ?_; try simp only [tkS]
 refine tkV 25 98 rfl rfl ?_; try simp only [tkS]
 refine tkV 26 99 rfl rfl ?_; try simp only [tkS]
 refine tkV 27 100 rfl rfl ?_; try simp only [tkS]
 refine tkV 28 101 rfl rfl ?_; try simp only [tkS]
 refine tkV 29 102 rfl rfl ?_; try simp only [tkS]
 refine tkV 30 103 rfl rfl ?_; try simp only [tkS]
 refine tkR 31 (.cons rfl (fun K hK => ?_) .nil);go_simp;go_at_call 13;refine Calls.mono (HO2.o _) ?_;rintro e V23 ⟨rfl, hb23⟩;have hv23 : Below v7.heap.size v7 V23 := Below.trans hv22 (Below.mono hb23 (Below.size hv22));clear hb23;go_wp2_with fail;refine hK.out _ _ ?_ (fun hHeld => ?_)
 ·try dsimp only
  exact HKS.o _ hv23
 clear hK K
 try simp only [tkS]
 refine tkV 32 105 rfl rfl ?_; try simp only [tkS]
 refine tkV 33 106 rfl rfl ?_; try simp only [tkS]
 refine tkV 34 107 rfl rfl ?_; try simp only [tkS]
 refine tkV 35 108 rfl rfl ?_; try simp only [tkS]
 refine tkV 36 109 rfl rfl ?_; try simp only [tkS]
 refine tkV 37 110 rfl rfl ?_; try simp only [tkS]
 refine tkV 38 111 rfl rfl ?_; try simp only [tkS]
 refine tkV 39 112 rfl rfl ?_; try simp only [tkS]
 refine tkR 40 (.cons rfl (fun K hK => ?_) .nil);go_simp;go_at_call 13;refine Calls.mono (HO6.o _) ?_;rintro e V24 ⟨rfl, hb24⟩;have hv24 : Below v7.heap.size v7 V24 := Below.trans hv23 (Below.mono hb24 (Below.size hv23));clear hb24;go_wp2_with fail;refine hK.out _ _ ?_ (fun hHeld => ?_)
 ·try dsimp only
  exact HKS.o _ hv24
 clear hK K
 try simp only [tkS]
 refine tkV 41 114 rfl rfl ?_; try simp only [tkS]
 refine tkV 42 115 rfl rfl ?_; try simp only [tkS]
 refine tkV 43 116 rfl rfl ?_; try simp only [tkS]
 refine tkV 44 117 rfl rfl ?_; try simp only [tkS]
 refine tkR 45 (.cons rfl (fun K hK => ?_) .nil);go_simp;go_at_call 13;refine Calls.mono (HO0.o _) ?_;rintro e V25 ⟨rfl, hb25⟩;have hv25 : Below v7.heap.size v7 V25 := Below.trans hv24 (Below.mono hb25 (Below.size hv24));clear hb25;go_wp2_with fail;refine hK.out _ _ ?_ (fun hHeld => ?_)
 ·try dsimp only
  exact HKS.o _ hv25
 clear hK K
 try simp only [tkS]
 refine tkV 46 119 rfl rfl ?_; try simp only [tkS]
 refine tkV 47 120 rfl rfl ?_; try simp only [tkS]
 refine wpAnyH_done (by kernel_rfl) ?_ _
 replace HB := lh (HB.o.trans (hv25.mono HB.o.size))
 replace HT := lh (HT.o.later hv25)
 replace HL := lh (HL.o.keep hv25)
 clear HKS HQt2 HQt4 HQt6 HQt8 HQt10 HQt12 HQt14 xt2 zt2 xt4 zt4 xt6 zt6 xt10 zt10 xt12 zt12 xt14 zt14 hv20 hv21 hv22 hv23 hv24 hv25;have k0 := HT.o.cell 0;have k1 := HT.o.cell 1;have kz := HT.o.lt;go_wp2_with fail;clear k0 k1 kz;refine (HMN.o _ _ _ HL.o).mono ?_;rintro e u11 ⟨rfl, hbb⟩
 replace HB := lh (HB.o.trans (Below.mono hbb HB.o.size))
 replace HT := lh (HT.o.later hbb)
 replace HL := lh (HL.o.keep hbb)
 clear hbb;have k0 := HT.o.cell 0;have k1 := HT.o.cell 1;have kz := HT.o.lt;go_wp2_with fail
 obtain ⟨t16, hbk⟩ : ∃ b, b = u11.heap.size := ⟨_, rfl⟩
 obtain ⟨v11, hv⟩ : ∃ W, W = u11.alloc (.cells #[.string (natB 0)] 44) := ⟨_, rfl⟩
 have hba : Below u11.heap.size u11 v11 := by rw [hv]; exact (Below.refl _ _).alloc (Nat.le_refl _) _
 have qn : Blk v11 t16 #[.string (natB 0)] 44 := by rw [hv, hbk]; exact Blk.new _ _ _
 have hz : v11.heap.size = t16 + 1 := by rw [hv, hbk]; simp
 rw [<- hv, <- hbk]
 replace HB := lh (HB.o.trans (Below.mono hba HB.o.size))
 replace HT := lh (HT.o.later hba)
 replace HL := lh (HL.o.keep hba)
 have HQt16 := lh qn;clear hba qn hv hbk k0 k1 kz;clear hz;refine (HR1.o _ _ _ HL.o).mono ?_;rintro e u12 ⟨rfl, hbb⟩
 replace HB := lh (HB.o.trans (Below.mono hbb HB.o.size))
 replace HT := lh (HT.o.later hbb)
 replace HL := lh (HL.o.keep hbb)
 replace HQt16 := lh (HQt16.o.later hbb)
 clear hbb;have k0 := HT.o.cell 0;have k1 := HT.o.cell 1;have kz := HT.o.lt
 go_upto_region 13 with fail
 obtain ⟨t18, hbk⟩ : ∃ b, b = u12.heap.size := ⟨_, rfl⟩
 obtain ⟨v12, hv⟩ : ∃ W, W = u12.alloc (.cells #[.string (natB 0)] 44) := ⟨_, rfl⟩
 have hba : Below u12.heap.size u12 v12 := by rw [hv]; exact (Below.refl _ _).alloc (Nat.le_refl _) _
 have qn : Blk v12 t18 #[.string (natB 0)] 44 := by rw [hv, hbk]; exact Blk.new _ _ _
 have hz : v12.heap.size = t18 + 1 := by rw [hv, hbk]; simp
 rw [<- hv, <- hbk]
 replace HB := lh (HB.o.trans (Below.mono hba HB.o.size))
 replace HT := lh (HT.o.later hba)
 replace HL := lh (HL.o.keep hba)
 replace HQt16 := lh (HQt16.o.later hba)
 have HQt18 := lh qn;clear hba qn hv hbk k0 k1 kz;clear hz;have HMK := mk100;have k0 := HT.o.cell 0;have k1 := HT.o.cell 1;have kz := HT.o.lt
 have HKS : Hid (∀ w' : World, Below v12.heap.size v12 w' -> (fun w' => w'.cell? ⟨tb, 0, none⟩ = some (.int .i64 3) /\ w'.cell? ⟨tb, 1, none⟩ = some (.slice a 2 cap)) w') := fun w' hb => ⟨zaa hb k0, zaa hb k1⟩
 go_cut [21] (fun v wx => v = .int .i64 1 /\ Below v12.heap.size v12 wx)
 case first =>
  refine wp_region_held_drew (S := (fun w' => w'.cell? ⟨tb, 0, none⟩ = some (.int .i64 3) /\ w'.cell? ⟨tb, 1, none⟩ = some (.slice a 2 cap))) (by kernel_rfl) ?_ (fun hHeld => ?_)
  ·try dsimp only
   exact HKS.o _ ((Below.refl v12.heap.size v12).drew)
  refine tkV 0 132 rfl rfl ?_; try simp only [tkS]
  refine wpAnyH_ready (rs := [1, 6]) (by kernel_rfl) (by simp) ?_;refine AllReadyH.cons rfl (fun K hK => ?_) (AllReadyH.cons rfl (fun K hK => ?_) AllReadyH.nil)
  ·go_simp
   obtain ⟨sb, hj⟩ : ∃ j, j = v12.heap.size := ⟨_, rfl⟩
   have hjwsb : v12.heap.size <= sb := by rw [hj]; exact Nat.le_refl _
   have hv21 : Below v12.heap.size v12 ((v12.alloc (.cells (Array.replicate 100 (.int .u8 0)) 5)).drew) := (Below.alloc (Below.refl v12.heap.size v12) (Nat.le_refl _) _).drew;refine hK.out _ _ ?_ (fun hHeld => ?_)
   ·try dsimp only
    exact HKS.o _ hv21
   clear hK K
   try simp only [tkS]
   rw [<- hj];generalize (v12.alloc (.cells (Array.replicate 100 (.int .u8 0)) 5)).drew = V21 at *;clear hj;refine wpAnyH_ready (rs := [2, 6]) (by kernel_rfl) (by simp) ?_;refine AllReadyH.cons rfl (fun K hK => ?_) (AllReadyH.cons rfl (fun K hK => ?_) AllReadyH.nil)
   ·go_simp;go_at_call 12;refine Calls.mono (HR2.o _ _ _ _ (HL.o.keep hv21)) ?_;rintro e V22 ⟨rfl, hb22⟩;have hv22 : Below v12.heap.size v12 V22 := Below.trans hv21 (Below.mono hb22 (Below.size hv21));clear hb22;go_wp2_with fail;refine hK.out _ _ ?_ (fun hHeld => ?_)
    ·try dsimp only
     exact HKS.o _ hv22
    clear hK K
    try simp only [tkS]
    refine tkV 3 131 rfl rfl ?_; try simp only [tkS]
    refine tkV 4 135 rfl rfl ?_; try simp only [tkS]
    refine tkV 5 136 rfl rfl ?_; try simp only [tkS]
    refine tkR 6 (.cons rfl (fun K hK => ?_) .nil);go_simp
    obtain ⟨j, hj⟩ : ∃ j, j = V22.heap.size := ⟨_, rfl⟩
    have hjwj : v12.heap.size <= j := by rw [hj]; exact Below.size hv22
    have hv23 : Below v12.heap.size v12 (V22.alloc (.cells #[.string ⟨#[]⟩] 44)) := Below.alloc hv22 (Below.size hv22) _;have q23 : Blk (V22.alloc (.cells #[.string ⟨#[]⟩] 44)) j #[.string ⟨#[]⟩] 44 := Blk.new' _ hj.symm _ _;refine hK.out _ _ ?_ (fun hHeld => ?_)
    ·try dsimp only
     exact HKS.o _ hv23
    clear hK K
    try simp only [tkS]
    rw [<- hj];generalize V22.alloc (.cells #[.string ⟨#[]⟩] 44) = V23 at *;clear hj;refine tkR 7 (.cons rfl (fun K hK => ?_) .nil);have d0 := q23.cell 0;have f0 := q23.fr 0;have dl := q23.lt;go_simp;have hvs := Below.setCell hv23 (p := ⟨j, 0, none⟩) hjwj (.string (natB 0));refine hK.out _ _ ?_ (fun hHeld => ?_)
    ·try dsimp only
     exact HKS.o _ hvs
    clear hK K
    try simp only [tkS]
    refine tkV 8 21 rfl rfl ?_; try simp only [tkS]
    refine wpAnyH_done (by kernel_rfl) ?_ _;go_wp2_with fail
    go_meet
    exact ⟨rfl, hvs⟩
   go_simp
   obtain ⟨j, hj⟩ : ∃ j, j = V21.heap.size := ⟨_, rfl⟩
   have hjwj : v12.heap.size <= j := by rw [hj]; exact Below.size hv21
   have hv22 : Below v12.heap.size v12 (V21.alloc (.cells #[.string ⟨#[]⟩] 44)) := Below.alloc hv21 (Below.size hv21) _;have q22 : Blk (V21.alloc (.cells #[.string ⟨#[]⟩] 44)) j #[.string ⟨#[]⟩] 44 := Blk.new' _ hj.symm _ _;refine hK.out _ _ ?_ (fun hHeld => ?_)
   ·try dsimp only
    exact HKS.o _ hv22
   clear hK K
   try simp only [tkS]
   rw [<- hj];generalize V21.alloc (.cells #[.string ⟨#[]⟩] 44) = V22 at *;clear hj;refine tkR 2 (.cons rfl (fun K hK => ?_) .nil);go_simp;go_at_call 12;refine Calls.mono (HR2.o _ _ _ _ (HL.o.keep hv22)) ?_;rintro e V23 ⟨rfl, hb23⟩;have hv23 : Below v12.heap.size v12 V23 := Below.trans hv22 (Below.mono hb23 (Below.size hv22));have q23 := q22.later hb23;clear hb23;go_wp2_with fail;refine hK.out _ _ ?_ (fun hHeld => ?_)
   ·try dsimp only
    exact HKS.o _ hv23
   clear hK K
   try simp only [tkS]
   refine tkV 3 131 rfl rfl ?_; try simp only [tkS]
   refine tkV 4 135 rfl rfl ?_; try simp only [tkS]
   refine tkV 5 136 rfl rfl ?_; try simp only [tkS]
   refine tkR 7 (.cons rfl (fun K hK => ?_) .nil);have d0 := q23.cell 0;have f0 := q23.fr 0;have dl := q23.lt;go_simp;have hvs := Below.setCell hv23 (p := ⟨j, 0, none⟩) hjwj (.string (natB 0));refine hK.out _ _ ?_ (fun hHeld => ?_)
   ·try dsimp only
    exact HKS.o _ hvs
   clear hK K
   try simp only [tkS]
   refine tkV 8 21 rfl rfl ?_; try simp only [tkS]
   refine wpAnyH_done (by kernel_rfl) ?_ _;go_wp2_with fail
   go_meet
   exact ⟨rfl, hvs⟩
  go_simp
  obtain ⟨j, hj⟩ : ∃ j, j = v12.heap.size := ⟨_, rfl⟩
  have hjwj : v12.heap.size <= j := by rw [hj]; exact Nat.le_refl _
  have hv21 : Below v12.heap.size v12 ((v12.alloc (.cells #[.string ⟨#[]⟩] 44)).drew) := (Below.alloc (Below.refl v12.heap.size v12) (Nat.le_refl _) _).drew;have q21 : Blk ((v12.alloc (.cells #[.string ⟨#[]⟩] 44)).drew) j #[.string ⟨#[]⟩] 44 := Blk.new' _ hj.symm _ _;refine hK.out _ _ ?_ (fun hHeld => ?_)
  ·try dsimp only
   exact HKS.o _ hv21
  clear hK K
  try simp only [tkS]
  rw [<- hj];generalize (v12.alloc (.cells #[.string ⟨#[]⟩] 44)).drew = V21 at *;clear hj;refine tkR 1 (.cons rfl (fun K hK => ?_) .nil);go_simp
  obtain ⟨sb, hj⟩ : ∃ j, j = V21.heap.size := ⟨_, rfl⟩
  have hjwsb : v12.heap.size <= sb := by rw [hj]; exact Below.size hv21
  have hv22 : Below v12.heap.size v12 (V21.alloc (.cells (Array.replicate 100 (.int .u8 0)) 5)) := Below.alloc hv21 (Below.size hv21) _;have q22 := q21.alloc (.cells (Array.replicate 100 (.int .u8 0)) 5);refine hK.out _ _ ?_ (fun hHeld => ?_)
  ·try dsimp only
   exact HKS.o _ hv22
  clear hK K
  try simp only [tkS]
  rw [<- hj];generalize V21.alloc (.cells (Array.replicate 100 (.int .u8 0)) 5) = V22 at *;clear hj;refine tkR 2 (.cons rfl (fun K hK => ?_) .nil);go_simp;go_at_call 12;refine Calls.mono (HR2.o _ _ _ _ (HL.o.keep hv22)) ?_;rintro e V23 ⟨rfl, hb23⟩;have hv23 : Below v12.heap.size v12 V23 := Below.trans hv22 (Below.mono hb23 (Below.size hv22));have q23 := q22.later hb23;clear hb23;go_wp2_with fail;refine hK.out _ _ ?_ (fun hHeld => ?_)
  ·try dsimp only
   exact HKS.o _ hv23
  clear hK K
  try simp only [tkS]
  refine tkV 3 131 rfl rfl ?_; try simp only [tkS]
  refine tkV 4 135 rfl rfl ?_; try simp only [tkS]
  refine tkV 5 136 rfl rfl ?_; try simp only [tkS]
  refine tkR 7 (.cons rfl (fun K hK => ?_) .nil);have d0 := q23.cell 0;have f0 := q23.fr 0;have dl := q23.lt;go_simp;have hvs := Below.setCell hv23 (p := ⟨j, 0, none⟩) hjwj (.string (natB 0));refine hK.out _ _ ?_ (fun hHeld => ?_)
  ·try dsimp only
   exact HKS.o _ hvs
  clear hK K
  try simp only [tkS]
  refine tkV 8 21 rfl rfl ?_; try simp only [tkS]
  refine wpAnyH_done (by kernel_rfl) ?_ _;go_wp2_with fail
  go_meet
  exact ⟨rfl, hvs⟩
 obtain ⟨rfl, hbx⟩ := hcut
 rename World => wx
 clear k0 k1 kz HKS HQt16 HQt18 HMK HR2
 replace HB := lh (HB.o.trans (Below.mono hbx HB.o.size))
 replace HT := lh (HT.o.later hbx)
 replace HL := lh (HL.o.keep hbx)
 clear hbx;have k0 := HT.o.cell 0;have k1 := HT.o.cell 1;have kz := HT.o.lt;go_wp2_with fail;clear k0 k1 kz;refine (HE0.o _ HB.o _ _ HL.o).mono ?_;rintro e u14 ⟨rfl, hbb⟩
 replace HB := lh (HB.o.trans (Below.mono hbb HB.o.size))
 replace HT := lh (HT.o.later hbb)
 replace HL := lh (HL.o.keep hbb)
 clear hbb;have k0 := HT.o.cell 0;have k1 := HT.o.cell 1;have kz := HT.o.lt;go_wp2_with fail
 obtain ⟨t22, hbk⟩ : ∃ b, b = u14.heap.size := ⟨_, rfl⟩
 obtain ⟨v14, hv⟩ : ∃ W, W = u14.alloc (.cells #[.string (natB 4)] 44) := ⟨_, rfl⟩
 have hba : Below u14.heap.size u14 v14 := by rw [hv]; exact (Below.refl _ _).alloc (Nat.le_refl _) _
 have qn : Blk v14 t22 #[.string (natB 4)] 44 := by rw [hv, hbk]; exact Blk.new _ _ _
 have hz : v14.heap.size = t22 + 1 := by rw [hv, hbk]; simp
 rw [<- hv, <- hbk]
 replace HB := lh (HB.o.trans (Below.mono hba HB.o.size))
 replace HT := lh (HT.o.later hba)
 replace HL := lh (HL.o.keep hba)
 have HQt22 := lh qn;clear hba qn hv hbk k0 k1 kz;clear hz;refine (HMB.o _).mono ?_;rintro e u15 ⟨rfl, hbb⟩
 replace HB := lh (HB.o.trans (Below.mono hbb HB.o.size))
 replace HT := lh (HT.o.later hbb)
 replace HL := lh (HL.o.keep hbb)
 replace HQt22 := lh (HQt22.o.later hbb)
 clear hbb;have k0 := HT.o.cell 0;have k1 := HT.o.cell 1;have kz := HT.o.lt
 go_upto_region 16 with fail
 obtain ⟨t24, hbk⟩ : ∃ b, b = u15.heap.size := ⟨_, rfl⟩
 obtain ⟨v15, hv⟩ : ∃ W, W = u15.alloc (.cells #[.string (natB 0)] 44) := ⟨_, rfl⟩
 have hba : Below u15.heap.size u15 v15 := by rw [hv]; exact (Below.refl _ _).alloc (Nat.le_refl _) _
 have qn : Blk v15 t24 #[.string (natB 0)] 44 := by rw [hv, hbk]; exact Blk.new _ _ _
 have hz : v15.heap.size = t24 + 1 := by rw [hv, hbk]; simp
 rw [<- hv, <- hbk]
 replace HB := lh (HB.o.trans (Below.mono hba HB.o.size))
 replace HT := lh (HT.o.later hba)
 replace HL := lh (HL.o.keep hba)
 replace HQt22 := lh (HQt22.o.later hba)
 have HQt24 := lh qn;clear hba qn hv hbk k0 k1 kz;clear hz HE0 HMB;have xt22 := HQt22.o.cell 0;have zt22 := HQt22.o.lt
 have HKS : Hid (∀ w' : World, Below v15.heap.size v15 w' -> (fun w' => w'.cell? ⟨t22, 0, none⟩ = some (.string (natB 4))) w') := fun w' hb => zaa hb xt22
 have hgn := eqGuard_nat;have hEQ := run_eql_same;refine wp_region_held_drew (S := (fun w' => w'.cell? ⟨t22, 0, none⟩ = some (.string (natB 4)))) (by kernel_rfl) ?_ (fun hHeld => ?_)
 ·try dsimp only
  exact HKS.o _ (Below.refl v15.heap.size v15).drew
 refine tkV 0 147 rfl rfl ?_; try simp only [tkS]
 refine tkV 1 148 rfl rfl ?_; try simp only [tkS]
 refine tkV 2 149 rfl rfl ?_; try simp only [tkS]
 refine tkV 3 150 rfl rfl ?_; try simp only [tkS]
 refine tkV 4 151 rfl rfl ?_; try simp only [tkS]
 refine tkV 5 152 rfl rfl ?_; try simp only [tkS]
 refine tkV 6 153 rfl rfl ?_; try simp only [tkS]
 refine tkV 7 154 rfl rfl ?_; try simp only [tkS]
 refine tkV 8 155 rfl rfl ?_; try simp only [tkS]
 refine tkV 9 156 rfl rfl ?_; try simp only [tkS]
 refine tkV 10 157 rfl rfl ?_; try simp only [tkS]
 refine tkV 11 158 rfl rfl ?_; try simp only [tkS]
 refine tkR 12 (.cons rfl (fun K hK => ?_) .nil);go_simp;go_at_call 13;refine Calls.mono (HO4.o _) ?_;rintro e V20 ⟨rfl, hb20⟩;have hv20 : Below v15.heap.size v15 V20 := Below.trans (Below.refl v15.heap.size v15).drew (Below.mono hb20 (Below.size (Below.refl v15.heap.size v15).drew));clear hb20;go_wp2_with fail;refine hK.out _ _ ?_ (fun hHeld => ?_)
 ·try dsimp only
  exact HKS.o _ hv20
 clear hK K
 try simp only [tkS]
 refine tkV 13 160 rfl rfl ?_; try simp only [tkS]
 refine tkV 14 161 rfl rfl ?_; try simp only [tkS]
 refine tkV 15 162 rfl rfl ?_; try simp only [tkS]
 refine tkV 16 163 rfl rfl ?_; try simp only [tkS]
 refine tkV 17 164 rfl rfl ?_; try simp only [tkS]
 refine tkV 18 165 rfl rfl ?_; try simp only [tkS]
 refine tkV 19 166 rfl rfl ?_; try simp only [tkS]
 refine tkV 20 167 rfl rfl ?_; try simp only [tkS]
 refine tkV 21 168 rfl rfl ?_; try simp only [tkS]
 refine tkV 22 169 rfl rfl ?_; try simp only [tkS]
 refine tkV 23 170 rfl rfl ?_; try simp only [tkS]
 refine tkR 24 (.cons rfl (fun K hK => ?_) .nil);go_simp;go_at_call 8;refine Calls.mono (HS1.o _) ?_;rintro e V21 ⟨rfl, rfl⟩;go_wp2_with fail;refine hK.out _ _ ?_ (fun hHeld => ?_)
 ·try dsimp only
  exact HKS.o _ hv20
 clear hK K
 try simp only [tkS]
 refine tkV 25 172 rfl rfl ?_; try simp only [tkS]
 refine tkV 26 173 rfl rfl ?_; try simp only [tkS]
 refine tkV 27 174 rfl rfl ?_; try simp only [tkS]
 refine tkR 28 (.cons rfl (fun K hK => ?_) .nil);go_simp;go_at_call 8;refine Calls.mono (HS2.o _) ?_;rintro e V22 ⟨rfl, rfl⟩;go_wp2_with fail;refine hK.out _ _ ?_ (fun hHeld => ?_)
 ·try dsimp only
  exact HKS.o _ hv20
 clear hK K
 try simp only [tkS]
 refine tkV 29 176 rfl rfl ?_; try simp only [tkS]
 refine tkV 30 177 rfl rfl ?_; try simp only [tkS]
 refine tkV 31 178 rfl rfl ?_; try simp only [tkS]
 refine tkR 32 (.cons rfl (fun K hK => ?_) .nil);go_simp;go_at_call 8;refine Calls.mono (HS3.o _) ?_;rintro e V23 ⟨rfl, rfl⟩;go_wp2_with fail;refine hK.out _ _ ?_ (fun hHeld => ?_)
 ·try dsimp only
  exact HKS.o _ hv20
 clear hK K
 try simp only [tkS]
 refine tkV 33 180 rfl rfl ?_; try simp only [tkS]
 refine tkV 34 181 rfl rfl ?_; try simp only [tkS]
 refine tkV 35 182 rfl rfl ?_; try simp only [tkS]
 refine tkR 36 (.cons rfl (fun K hK => ?_) .nil);go_simp;go_at_call 8;refine Calls.mono (HS4.o _) ?_;rintro e V24 ⟨rfl, rfl⟩;go_wp2_with fail;refine hK.out _ _ ?_ (fun hHeld => ?_)
 ·try dsimp only
  exact HKS.o _ hv20
 clear hK K
 try simp only [tkS]
 refine tkV 37 184 rfl rfl ?_; try simp only [tkS]
 refine tkV 38 185 rfl rfl ?_; try simp only [tkS]
 refine tkV 39 186 rfl rfl ?_; try simp only [tkS]
 refine tkR 40 (.cons rfl (fun K hK => ?_) .nil);go_simp;go_at_call 5;refine Calls.mono (HWK.o _ (HB.o.trans (Below.mono hv20 HB.o.size))) ?_;rintro e V40 ⟨rfl, hb40⟩;have hv40 : Below v15.heap.size v15 V40 := Below.trans hv20 (Below.mono hb40 (Below.size hv20));clear hb40;go_wp2_with fail;refine hK.out _ _ ?_ (fun hHeld => ?_)
 ·try dsimp only
  exact HKS.o _ hv40
 clear hK K
 try simp only [tkS]
 refine tkV 41 188 rfl rfl ?_; try simp only [tkS]
 refine tkV 42 0 rfl rfl ?_; try simp only [tkS]
 refine wpAnyH_done (by kernel_rfl) ?_ _;go_wp2;go_ret;exact ⟨rfl, HB.o.trans (hv40.mono HB.o.size)⟩
end Go.Proofs.YtflhbcnhaeijbaaGreatDoor
