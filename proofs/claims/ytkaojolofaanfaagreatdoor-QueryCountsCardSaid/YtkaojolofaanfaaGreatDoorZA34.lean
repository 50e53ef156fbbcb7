/- Part of the proofs that laws of censuslaw38 return true for every input, where the tables that the rows list are laid. Texts: R21E, Counts. -/
import Derived.Test.YtkaojolofaanfaaGreatDoorZA33
import Derived.Test.YtkaojolofaanfaaGreatDoorZA20
import Derived.Test.YtkaojolofaanfaaGreatDoorZA19
import Derived.Test.YtkaojolofaanfaaGreatDoorZA21
import Derived.Test.YtkaojolofaanfaaGreatDoorZA24
import Derived.Test.YtkaojolofaanfaaGreatDoorZA32

/- The walk of censusref21.Deterministic. -/
namespace Go.Proofs.YtkaojolofaanfaaGreatDoor
open Go.RowKit Cen
set_option maxHeartbeats 4000000
set_option maxRecDepth 100000
def DetPost (l : List Nd) (w : World) (e : Ending) (w' : World) : Prop := ∃ b : Bool, e = .returned (.tuple #[.bool b, .int .i64 0]) ∧ (b = true → detL l) ∧ Below w.heap.size w w'
def SeenOk (vs : List Bool) (l : List Nd) (j : Nat) : Prop := ∀ t : Nat, t < j → (nd l (t : Int)).kind = 4 → manyT vs (nd l (t : Int)).ins ≤ 1
def AllOk (o : List Int) (l : List Nd) (k : Nat) : Prop := ∀ j, j < k → detAt (asgU o j o.length).mem l
theorem manyT_snoc {vs : List Bool} {ins : List Int} {m : Nat} (h : m < ins.length) : manyT vs (ins.take (m + 1)) = manyT vs (ins.take m) + if at' vs ins[m] then 1 else 0 := by
  unfold manyT
  rw [List.take_succ_eq_append_getElem h, List.filter_append, List.length_append]
  congr 1
  cases hh : at' vs ins[m] <;> simp [hh]
theorem manyT_le {vs : List Bool} {ins : List Int} {m : Nat} : manyT vs (ins.take m) ≤ m := by
  unfold manyT
  have := List.length_filter_le (at' vs) (ins.take m)
  have := List.length_take_le m ins
  omega
theorem det_any (N : Nat) (hN : N ≤ 16) (a : Option Addr) (cap : Nat) (l : List Nd) (w : World) (hok : netOk ⟨(N : Int), l⟩ = true) (hx : NdCells w a l) :
    Calls Tryz.prog 18 #[.agg #[.int .i64 (N : Int), .slice a l.length cap]] w (DetPost l w) := by
  have hb0 := (Below.refl w.heap.size w).alloc (Nat.le_refl _) (.cells #[.int .i64 (N : Int), .slice a l.length cap] 24)
  have HB0 := Lib.hid hb0
  have q0 := Lib.hid (Blk.new w #[.int .i64 (N : Int), .slice a l.length cap] 24)
  have HVA := Lib.hid (valid21_any (N : Int) a cap l _ hok (hx.keep hb0))
  have HOC := Lib.hid (fun V (h : NdCells V a l) => occur_any N (by omega) a cap l V hok h)
  have HX := Lib.hid hx
  have HALL := Lib.hid (fun h => det_all (N := N) (l := l) (by omega) hok h)
  have HVV := Lib.hid (fun V s (h : NdCells V a l) hs => values21_any (N : Int) a cap l s V hok h hs)
  have HOL := Lib.hid (occUp_len (unionUp l l.length) N)
  have HOR : Hid (∀ v ∈ occUp (unionUp l l.length) N, 1 ≤ v ∧ v ≤ 128) := fun v hv => by rw [occUp_mem] at hv; omega
  have HL2 : Hid (l.length ≤ 65536) := (netOk_head hok).2.2.2
  have HK := Lib.hid hok
  clear hb0 hok hx
  go_enter Tryz.func18, Tryz.ntmps18
  go_wp2_with fail
  refine Calls.mono HVA.out ?_
  rintro e w1 ⟨rfl, hb1⟩
  have HB1 := Lib.hid (HB0.out.trans (hb1.mono HB0.out.size))
  have Q1 := Lib.hid (q0.out.later hb1)
  have k0 : w1.cell? ⟨w.heap.size, 0, none⟩ = some (.int .i64 (N : Int)) := Q1.out.cell 0
  have k1 : w1.cell? ⟨w.heap.size, 1, none⟩ = some (.slice a l.length cap) := Q1.out.cell 1
  have HOC1 := Lib.hid (HOC.out w1 (HX.out.keep HB1.out))
  clear hb1 HVA
  go_wp2_with fail
  refine Calls.mono HOC1.out ?_
  rintro e w2 ⟨v, rfl, hown, hb2⟩
  generalize occUp (unionUp l l.length) N = O at *
  obtain ⟨ao, co, rfl, hic, hbs⟩ := OwnInts.cells hown
  have HIC := Lib.hid hic
  have HBS := Lib.hid hbs
  have HB2 := Lib.hid (HB1.out.trans (hb2.mono HB1.out.size))
  have Q2 := Lib.hid (Q1.out.later hb2)
  have HO16 : Hid (O.length ≤ 16) := Nat.le_trans HOL.out hN
  have hcmp : decide ((16 : Int) < (O.length : Int)) = false := by have := HO16.out; simp; omega
  have hM : 2 ^ O.length ≤ 65536 := Nat.pow_le_pow_right (n := 2) (by omega) HO16.out
  have hsh : wrap64 ((2 : Int) ^ O.length) = ((2 ^ O.length : Nat) : Int) := by
    rw [show ((2 : Int) ^ O.length) = ((2 ^ O.length : Nat) : Int) from by norm_cast]
    generalize 2 ^ O.length = M at *
    exact IntWalk.wrap64_in ((M : Nat) : Int) (by omega)
  have HSH := Lib.hid hsh
  have HM := Lib.hid hM
  clear k0 k1 hb2 hown hic hbs hM hsh HOC1 HOC
  go_wp2_with fail
  clear hcmp
  go_loopw [5] (fun i wr => ∃ k : Nat, k ≤ 2 ^ O.length ∧ i = .int .i64 k ∧ AllOk O l k ∧ Below w2.heap.size w2 wr) (fun i _ => 2 ^ O.length - (intOf i).toNat)
  case atStart => exact ⟨0, Nat.zero_le _, rfl, fun j h => absurd h (Nat.not_lt_zero _), Below.refl _ _⟩
  case round =>
    obtain ⟨wo, rfl⟩ : ∃ wo : World, wo = wr := ⟨_, rfl⟩
    obtain ⟨k, hk, rfl, hall, hb⟩ := hrel
    have HB := Lib.hid hb
    have HAO := Lib.hid hall
    have HKM := Lib.hid hk
    have HBA := Lib.hid (HB2.out.trans (hb.mono HB2.out.size))
    have Q3 := Lib.hid (Q2.out.later hb)
    have hk2 : k ≤ 65536 := Nat.le_trans hk HM.out
    have h16 := HO16.out
    clear hall hb hk
    by_cases hlt : k < 2 ^ O.length
    · have hd : decide ((k : Int) < wrap64 ((2 : Int) ^ O.length)) = true := by rw [HSH.out, decide_eq_true_iff]; exact Int.ofNat_lt.2 hlt
      have HLT := Lib.hid hlt
      clear hlt
      have hbk := Blk.new wo #[.int .u64 0, .int .u64 0] 54
      have HBK := Lib.hid hbk
      have HB3 := Lib.hid ((Below.refl wo.heap.size wo).alloc (Nat.le_refl _) (.cells #[.int .u64 0, .int .u64 0] 54))
      clear hbk
      go_wp2_with fail
      generalize wo.alloc (.cells #[.int .u64 0, .int .u64 0] 54) = w3 at *
      have HZ3 := Lib.hid HBK.out.lt
      clear hd
      go_loopw [7] (fun i wi => ∃ t : Nat, t ≤ O.length ∧ i = .int .i64 t ∧ Blk wi wo.heap.size #[.int .u64 ((asgU O k t).a : Int), .int .u64 ((asgU O k t).b : Int)] 54 ∧ Kp (fun y => y = wo.heap.size) w3 wi) (fun i _ => O.length - (intOf i).toNat)
      case atStart => exact ⟨0, Nat.zero_le _, rfl, HBK.out, Kp.refl _ _⟩
      case round =>
        obtain ⟨wi, rfl⟩ : ∃ wi : World, wi = wr := ⟨_, rfl⟩
        obtain ⟨t, ht, rfl, hblk, hkp⟩ := hrel
        have HBL := Lib.hid hblk
        have HKP := Lib.hid hkp
        by_cases hlt : t < O.length
        · obtain ⟨b, off, rfl, e0'⟩ := HIC.out t hlt
          have hgd : O.getD t 0 = O[t] := by simp [List.getD_eq_getElem?_getD, hlt]
          have hrg := HOR.out O[t] (List.getElem_mem hlt)
          have HAS : Hid (asgU O k (t + 1) = if k.testBit t then (asgU O k t).add O[t] else asgU O k t) := by show _ = _; rw [asgU, hgd]
          have HAO' := Lib.hid (asgU_ok O k t)
          rw [hgd] at e0'
          generalize O[t] = y at *
          have eb := cell_block e0'
          have e1 := cell_keep HB.out e0'
          have eb1 := cell_block e1
          have e2 := cell_keep HB3.out e1
          have e0 : wi.cell? ⟨b, off + t, none⟩ = some (.int .i64 y) := hkp.cell e2 (by dsimp only at *; omega)
          have c0 : wi.cell? ⟨wo.heap.size, 0, none⟩ = some (.int .u64 ((asgU O k t).a : Int)) := hblk.cell 0
          have c1 : wi.cell? ⟨wo.heap.size, 1, none⟩ = some (.int .u64 ((asgU O k t).b : Int)) := hblk.cell 1
          have cl := hblk.lt
          have HW := Lib.hid (fun V => with21_any (asgU O k t) y V HAO'.out hrg.1 hrg.2)
          have hti : (t : Int) < (O.length : Int) := by omega
          generalize asgU O k t = A at *
          clear e0' e1 e2 hgd hblk hkp
          cases hkb : k.testBit t with
          | false =>
            have hb : (((k : Int) / 2 ^ t).tmod 2 == 1) = false := by rw [tbit, hkb]
            rw [hkb] at HAS
            clear hkb
            go_wp2
            go_roundw
            case rel => exact ⟨t + 1, by omega, by go_num, by rw [HAS.out]; exact HBL.out, HKP.out⟩
            case measure => simp [intOf]; omega
          | true =>
            have hb : (((k : Int) / 2 ^ t).tmod 2 == 1) = true := by rw [tbit, hkb]
            rw [hkb] at HAS
            clear hkb
            go_wp2_with fail
            go_region_with (go_at_call 62
                            refine Calls.mono (HW.out _) ?_
                            rintro e v5 ⟨rfl, hb5⟩
                            have hv5 : Below wi.heap.size wi v5 := (Below.refl wi.heap.size wi).drew.trans (hb5.mono (Nat.le_refl _))
                            have hz5 := HBL.out.later hv5
                            have z0 := hz5.cell 0
                            have z1 := hz5.cell 1
                            have z2 := hz5.fr 0
                            have z3 := hz5.fr 1
                            have z4 := hz5.lt)
            all_goals
              go_wp2
              go_roundw
              case rel => exact ⟨t + 1, by omega, by go_num, by rw [HAS.out]; exact (hz5.set 0 _).set 1 _, Kp.trans (M := fun y => y = wo.heap.size) HKP.out (Kp.trans (M := fun y => y = wo.heap.size) (Kp.below hv5) (Kp.trans (M := fun y => y = wo.heap.size) (Kp.setCell (M := fun y => y = wo.heap.size) _ _ _ rfl) (Kp.setCell (M := fun y => y = wo.heap.size) _ _ _ rfl)))⟩
              case measure => simp [intOf]; omega
        · have : t = O.length := by omega
          subst this
          have HAO' := Lib.hid (asgU_ok O k O.length)
          have HB4 : Hid (Below w.heap.size w wi) := HBA.out.trans ((HB3.out.trans (hkp.toBelow HB3.out.size (by intro y hy h; omega))).mono HBA.out.size)
          have HB4' : Hid (Below w2.heap.size w2 wi) := HB.out.trans ((HB3.out.trans (hkp.toBelow HB3.out.size (by intro y hy h; omega))).mono HB.out.size)
          have Q4 := Lib.hid (Q2.out.later HB4'.out)
          have n0 : wi.cell? ⟨w.heap.size, 0, none⟩ = some (.int .i64 (N : Int)) := Q4.out.cell 0
          have n1 : wi.cell? ⟨w.heap.size, 1, none⟩ = some (.slice a l.length cap) := Q4.out.cell 1
          have nl := Q4.out.lt
          have c0 : wi.cell? ⟨wo.heap.size, 0, none⟩ = some (.int .u64 ((asgU O k O.length).a : Int)) := hblk.cell 0
          have c1 : wi.cell? ⟨wo.heap.size, 1, none⟩ = some (.int .u64 ((asgU O k O.length).b : Int)) := hblk.cell 1
          have cl := hblk.lt
          have HVW := Lib.hid (HVV.out wi (asgU O k O.length) (HX.out.keep HB4.out) HAO'.out)
          have HDT : Hid (detAt (asgU O k O.length).mem l = SeenOk (truth (asgU O k O.length).mem l) l l.length) := rfl
          generalize hA : asgU O k O.length = A at *
          have HAE := Lib.hid hA
          clear hblk hkp hA
          go_wp2_with fail
          refine Calls.mono HVW.out ?_
          rintro e w5 ⟨g, rfl, hown, hb5⟩
          have htl := truth_length A.mem l
          generalize truth A.mem l = vs at *
          have HO := Lib.hid hown
          have HTL := Lib.hid htl
          have HB5 := Lib.hid (HB4.out.trans (hb5.mono HB4.out.size))
          have HB5' := Lib.hid (HB4'.out.trans (hb5.mono HB4'.out.size))
          have Q5 := Lib.hid (Q2.out.later HB5'.out)
          have HX5 := Lib.hid (HX.out.keep HB5.out)
          clear n0 n1 nl c0 c1 cl hb5 hown htl HVW
          have n1 : w5.cell? ⟨w.heap.size, 1, none⟩ = some (.slice a l.length cap) := Q5.out.cell 1
          have nl := Q5.out.lt
          go_wp2_with fail
          go_loop [9] (fun i => ∃ j : Nat, j ≤ l.length ∧ i = .int .i64 j ∧ SeenOk vs l j) (fun i => l.length - (intOf i).toNat)
          case atStart => exact ⟨0, Nat.zero_le _, rfl, fun j h => absurd h (Nat.not_lt_zero _)⟩
          case round =>
            obtain ⟨j, hj, rfl, hseen⟩ := hrel
            have HSE := Lib.hid hseen
            clear hseen
            have hl2 := HL2.out
            by_cases hlt : j < l.length
            · obtain ⟨b, off, rfl, c0, c1, av, cv, c2, hin, hil⟩ := HX5.out j hlt
              have hgd : l.getD j default = l[j] := by simp [List.getD_eq_getElem?_getD, hlt]
              have hnk := netOk_nd HK.out hlt
              have HND : Hid (nd l (j : Int) = l[j]) := by show _ = _; rw [nd_get (by omega) (by omega)]; simp
              rw [hgd] at c0 c1 c2 hin hil
              simp only at hnk
              generalize l[j] = x at *
              have HIN := Lib.hid hin
              have HINS := Lib.hid (ndOk_ins hnk)
              have hjl : (j : Int) < (l.length : Int) := by omega
              rcases x with ⟨kd, lt, ins⟩
              simp only at *
              clear hin hgd hnk
              by_cases h4 : kd = 4
              · subst h4
                go_wp2_with fail
                go_loop [10, 11] (fun c i => ∃ m : Nat, m ≤ ins.length ∧ i = .int .i64 m ∧ c = .int .i64 (manyT vs (ins.take m))) (fun _ i => ins.length - (intOf i).toNat)
                case atStart => exact ⟨0, Nat.zero_le _, rfl, by simp [manyT]⟩
                case round =>
                  obtain ⟨m, hm, rfl, rfl⟩ := hrel
                  have HML := Lib.hid (manyT_le (vs := vs) (ins := ins) (m := m))
                  by_cases hlm : m < ins.length
                  · obtain ⟨b2, off2, rfl, e0⟩ := HIN.out m hlm
                    have hgd : ins.getD m 0 = ins[m] := by simp [List.getD_eq_getElem?_getD, hlm]
                    have hq := HINS.out ins[m] (List.getElem_mem hlm)
                    have HSN := Lib.hid (manyT_snoc (vs := vs) hlm)
                    rw [hgd] at e0
                    generalize ins[m] = y at *
                    obtain ⟨q, rfl⟩ := Int.eq_ofNat_of_zero_le hq.1
                    have hqk : q < vs.length := by have := HTL.out; omega
                    have f0 : w5.cell? ⟨g, q, none⟩ = some (.bool vs[q]) := by
                      have h := HO.out.cell HTL.out.symm bc_len q 0 hqk (by omega)
                      simpa [bc] using h
                    have hyv : at' vs (q : Int) = vs[q] := by unfold at'; simp [List.getD_eq_getElem?_getD, hqk]
                    rw [hyv] at HSN
                    have hml := HML.out
                    generalize hmt : manyT vs (ins.take m) = c at *
                    generalize hmt2 : manyT vs (ins.take (m + 1)) = c' at *
                    have HM2 := Lib.hid hmt2
                    have hmi : (m : Int) < (ins.length : Int) := by omega
                    have hql : (q : Int) < (l.length : Int) := by omega
                    clear hgd hyv hmt hmt2
                    generalize vs[q] = d at *
                    cases d
                    all_goals
                      go_wp2
                      go_round
                      case rel => exact ⟨m + 1, by omega, by go_num, by rw [HM2.out, HSN.out]; first | rfl | simp⟩
                      case measure => simp [intOf]; omega
                  · have : m = ins.length := by omega
                    subst this
                    rw [List.take_length]
                    have HMX : Hid (∀ c, manyT vs ins = c → c ≤ 1 → SeenOk vs l (j + 1)) := fun c hc h1 t ht h4 => by
                      rcases Nat.lt_or_ge t j with h | h
                      · exact HSE.out t h h4
                      · rw [show t = j by omega, HND.out]; simp only; omega
                    have HNL : Hid (manyT vs ins ≤ ins.length) := by have := HML.out; rwa [List.take_length] at this
                    generalize hmc : manyT vs ins = c at *
                    have HMC := Lib.hid hmc
                    clear hmc
                    by_cases h1 : c ≤ 1
                    · have hd : decide ((1 : Int) < (c : Int)) = false := by simp; omega
                      have hd2 : decide (1 < c) = false := by simp; omega
                      have HM1 := Lib.hid (HMX.out c (by first | rfl | exact HMC.out) h1)
                      go_wp2
                      go_round
                      case rel => exact ⟨j + 1, by omega, by go_num, HM1.out⟩
                      case measure => simp [intOf]; omega
                    · have hd : decide ((1 : Int) < (c : Int)) = true := by simp; omega
                      have hd2 : decide (1 < c) = true := by simp; omega
                      go_wp2
                      go_ret2
                      exact ⟨false, rfl, by simp, HB5.out⟩
              · have hk4 : (kd == 4) = false := by simpa using h4
                have HM1 : Hid (SeenOk vs l (j + 1)) := fun t ht h4' => by
                  rcases Nat.lt_or_ge t j with h | h
                  · exact HSE.out t h h4'
                  · rw [show t = j by omega, HND.out] at h4'; exact absurd h4' h4
                clear h4
                go_wp2_with fail
                go_loop [10, 11] (fun c i => i = .int .i64 0 ∧ c = .int .i64 0) (fun _ _ => 0)
                case atStart => exact ⟨rfl, rfl⟩
                case round =>
                  obtain ⟨rfl, rfl⟩ := hrel
                  by_cases hi : 0 < ins.length
                  · have hi2 : (0 : Int) < (ins.length : Int) := by omega
                    go_wp2
                    go_round
                    case rel => exact ⟨j + 1, by omega, by go_num, HM1.out⟩
                    case measure => simp [intOf]; omega
                  · have hi2 : (ins.length : Int) = 0 := by omega
                    have hi3 : ins.length = 0 := by omega
                    have hi4 : decide ((0 : Int) < (ins.length : Int)) = false := decide_eq_false (by omega)
                    clear hi2 hi3
                    go_wp2
                    go_round
                    case rel => exact ⟨j + 1, by omega, by go_num, HM1.out⟩
                    case measure => simp [intOf]; omega
            · have : j = l.length := by omega
              subst this
              have HAN : Hid (AllOk O l (k + 1)) := fun t ht => by
                rcases Nat.lt_or_ge t k with h | h
                · exact HAO.out t h
                · have e : t = k := by omega
                  subst e
                  rw [HAE.out, HDT.out]; exact HSE.out
              go_wp2
              go_roundw
              case rel => exact ⟨k + 1, HLT.out, by go_num, HAN.out, HB5'.out⟩
              case measure =>
                have h1 := HLT.out
                generalize 2 ^ O.length = M at *
                simp [intOf]; omega
    · have hke : k = 2 ^ O.length := by have := HKM.out; omega
      have hd : decide ((k : Int) < wrap64 ((2 : Int) ^ O.length)) = false := by rw [HSH.out, hke]; simp
      have HF : Hid (detL l) := HALL.out (by rw [← hke]; exact HAO.out)
      clear hke
      go_wp2
      go_ret2
      exact ⟨true, rfl, fun _ => HF.out, HBA.out⟩
end Go.Proofs.YtkaojolofaanfaaGreatDoor

/- The walks of count.Count and of QueryCounts. -/
namespace Go.Proofs.YtkaojolofaanfaaGreatDoor
open Go.RowKit Cen
set_option maxHeartbeats 8000000
set_option maxRecDepth 100000
theorem count_any (N : Nat) (hN : N ≤ 8) (a : Option Addr) (cap : Nat) (l : List Nd) (w : World) (hok : netOk ⟨(N : Int), l⟩ = true) (hd : decL l = true) (hdet : detL l) (hT : Dtab w) (hx : NdCells w a l) :
    Calls Tryz.prog 19 #[.agg #[.int .i64 (N : Int), .slice a l.length cap]] w fun e w' => e = .returned (.tuple #[natv (sumT N l), .int .i64 0]) ∧ Below w.heap.size w w' := by
  have hb0 : Below w.heap.size w ((w.alloc (.cells #[.int .i64 (N : Int), .slice a l.length cap] 24)).alloc (.cells #[.string ⟨#[]⟩] 32)) := ((Below.refl _ _).alloc (Nat.le_refl _) _).alloc (by simp) _
  have HB0 := Lib.hid hb0
  have q0 := Lib.hid ((Blk.new w #[.int .i64 (N : Int), .slice a l.length cap] 24).alloc (.cells #[.string ⟨#[]⟩] 32))
  have q1 := Lib.hid (Blk.new' (w.alloc (.cells #[.int .i64 (N : Int), .slice a l.length cap] 24)) (World.size_alloc _ _) #[.string ⟨#[]⟩] 32)
  have HCH := Lib.hid (ccheck_any N hN a cap l _ hok hd hdet (hT.keep hb0) (hx.keep hb0))
  have HSM := Lib.hid (fun V B (h : Below w.heap.size w V) hb hc => sum_any N hN B a cap l V hok hd hdet (hT.keep h) (hx.keep h) hb hc)
  clear hb0 hok hd hdet hT hx
  go_enter Tryz.func19, Tryz.ntmps19
  go_wp2_with fail
  generalize (w.alloc (.cells #[.int .i64 (N : Int), .slice a l.length cap] 24)).alloc (.cells #[.string ⟨#[]⟩] 32) = W at *
  refine Calls.mono HCH.out ?_
  rintro e w1 ⟨rfl, hb1⟩
  have HB1 := Lib.hid (HB0.out.trans (hb1.mono HB0.out.size))
  have Q0 := Lib.hid (q0.out.later hb1)
  have Q1 := Lib.hid (q1.out.later hb1)
  have k0 : w1.cell? ⟨w.heap.size, 0, none⟩ = some (.int .i64 (N : Int)) := Q0.out.cell 0
  have k1 : w1.cell? ⟨w.heap.size, 1, none⟩ = some (.slice a l.length cap) := Q0.out.cell 1
  have kl := Q0.out.lt
  clear hb1 HCH
  generalize hX : sumT N l = X at *
  have HXE := Lib.hid hX
  clear hX
  go_wp2_with fail
  go_region_with (first
    | (go_at_call 66
       refine Calls.mono (numbers_any _) ?_
       rintro e v5 ⟨rfl, h5a, h5b, hb5⟩
       have hv5 : Below w1.heap.size w1 v5 := (Below.refl w1.heap.size w1).drew.trans (hb5.mono (Nat.le_refl _))
       have H5A := Lib.hid h5a
       have H5B := Lib.hid h5b
       have z0 := cell_keep hv5 k0
       have z1 := cell_keep hv5 k1)
    | (go_at_call 65
       refine Calls.mono (HSM.out _ _ (HB1.out.trans (hv5.mono HB1.out.size)) H5A.out H5B.out) ?_
       rintro e v6 ⟨rfl, hb6⟩
       have hv6 : Below w1.heap.size w1 v6 := hv5.trans (hb6.mono hv5.size)
       have hre := Q1.out.later hv6
       have y0 := hre.cell 0
       have y1 := hre.fr 0
       have y2 := hre.lt
       unfold natv))
  all_goals
    go_wp2
    have e0 : (v6.setCell ⟨w.heap.size + 1, 0, none⟩ (.string (natB X))).cell? ⟨w.heap.size + 1, 0, none⟩ = some (.string (natB X)) := (hre.set 0 _).cell 0
    exact bodyPost_ret (v := .tuple #[.agg #[.string (natB X)], .int .i64 0]) (by simp [results, Tryz.results19, go_sem, e0]) rfl ⟨by rw [HXE.out]; rfl, (HB1.out.trans (hv6.mono HB1.out.size)).setCell (show w.heap.size ≤ (⟨w.heap.size + 1, 0, none⟩ : Addr).block by dsimp only; omega) _⟩
theorem cons_iff {N : Nat} {l : List Nd} (hN : N ≤ 16) (h : chkR [] ⟨N, l⟩ = 0) : consR ⟨N, l⟩ = true ↔ ∃ s, ev s ⟨N, l⟩ = true := by
  obtain ⟨hok, _, hd⟩ := chkR_ok h
  rw [← cons_ref hN h, decide_eq_true_iff]
  constructor
  · intro hlen
    obtain ⟨st, hst⟩ := List.exists_mem_of_length_pos hlen
    unfold modUp at hst
    simp only [List.mem_map, List.mem_filter, List.mem_range] at hst
    obtain ⟨k, ⟨_, hm⟩, _⟩ := hst
    exact ⟨_, hm⟩
  · rintro ⟨s, hs⟩
    obtain ⟨k, hk, he⟩ := ev_nth hN hok s
    rw [hs] at he
    have : nthL N k ∈ modUp N l (2 ^ N) := by
      unfold modUp; simp only [List.mem_map, List.mem_filter, List.mem_range]
      exact ⟨k, ⟨hk, he⟩, rfl⟩
    exact List.length_pos_of_mem this
def cmp1 (x y : Nat) : Int := if x = y then 0 else if x < y then -1 else 1
theorem counts_any (n : Int) (a : Option Addr) (cap : Nat) (l : List Nd) (w : World) (hl : l.length ≤ 9223372036854775807) (hx : NdCells0 w a l) (ht : Tab w) (hdt : Dtab w) :
    Calls Tryz.prog 3 #[.agg #[.int .i64 n, .slice a l.length cap]] w fun e w' => e = .returned (.bool true) ∧ Below w.heap.size w w' := by
  have hb0 := (Below.refl w.heap.size w).alloc (Nat.le_refl _) (.cells #[.int .i64 n, .slice a l.length cap] 24)
  have HB0 := Lib.hid hb0
  have HX := Lib.hid (hx.keep hb0)
  have q0 := Lib.hid (Blk.new w #[.int .i64 n, .slice a l.length cap] 24)
  have HLI := Lib.hid (light_any n a cap l _ hl (hx.keep hb0))
  have HT := Lib.hid ht
  have HDT := Lib.hid hdt
  have HW := Lib.hid (fun V (hb : Below w.heap.size w V) => works_any V (ht.keep hb))
  obtain ⟨W0, hW0⟩ : ∃ W0, W0 = w.alloc (.cells #[.int .i64 n, .slice a l.length cap] 24) := ⟨_, rfl⟩
  have HW0 := Lib.hid hW0
  clear hb0 hx ht hdt hW0
  cases hli : lightB ⟨n, l⟩ with
  | false =>
    rw [hli] at HLI
    clear hli
    obtain rfl := HW0.out
    go_enter Tryz.func3, Tryz.ntmps3
    go_wp2_with fail
    refine (HLI.out).mono ?_
    rintro e w1 ⟨rfl, hb1⟩
    have Lw1 := Lib.hid (hb1)
    have L1 := Lw1
    have B1 := Lib.hid (HB0.out.trans (L1.out.mono HB0.out.size))
    clear hb1
    have Q := q0.out.later Lw1.out
    have k0_0 : w1.cell? ⟨w.heap.size, 0, none⟩ = some (.int .i64 n) := Q.cell 0
    have k0_1 : w1.cell? ⟨w.heap.size, 1, none⟩ = some (.slice a l.length cap) := Q.cell 1
    have z0 : w.heap.size < w1.heap.size := Q.lt
    clear Q
    go_wp2_with fail
    refine (HW.out _ B1.out).mono ?_
    rintro e w2 ⟨rfl, hb2⟩
    have Lw2 := Lib.hid (L1.out.trans (hb2.mono L1.out.size))
    clear k0_0 k0_1 z0
    have L2 := Lw2
    have B2 := Lib.hid (HB0.out.trans (L2.out.mono HB0.out.size))
    clear hb2
    go_wp2
    go_ret
    exact ⟨rfl, B2.out⟩
  | true =>
    rw [hli] at HLI
    obtain ⟨hl50, hi50, h8⟩ := lightB_ok hli
    simp only at hl50 hi50 h8
    have HXN := Lib.hid (HX.out.up fun x hx => by have := hi50 x hx; omega)
    have hl30 : l.length ≤ 1073741824 := by omega
    have HSM := Lib.hid (small50 hl50 hi50)
    have H8 := Lib.hid h8
    rw [← HW0.out] at HXN HB0 q0 HLI
    have HCK := Lib.hid (fun V (hV : Below W0.heap.size W0 V) => rCheck_any n a cap l none 0 [] V (HXN.out.keep hV) hl30 (IntCells.nil _ _) (by simp))
    clear hli hl50 hi50 h8
    by_cases hc : chkR [] ⟨n, l⟩ = 0
    · obtain ⟨hok, _, hdc⟩ := chkR_ok hc
      obtain ⟨hn0, hn1, _, _⟩ := netOk_head hok
      simp only at hn0 hn1
      obtain ⟨N, rfl⟩ := Int.eq_ofNat_of_zero_le hn0
      have hN8 : N ≤ 8 := by have := H8.out hok; omega
      rw [hc] at HCK
      have HDE := Lib.hid (fun V (hV : Below W0.heap.size W0 V) => det_any N (by omega) a cap l V hok (HXN.out.keep hV))
      have HCT := Lib.hid (fun V (hV : Below W0.heap.size W0 V) (hdet : detL l) => count_any N hN8 a cap l V hok hdc hdet (HDT.out.keep (HB0.out.trans (hV.mono HB0.out.size))) (HXN.out.keep hV))
      have HCO : Hid (∀ V, Below W0.heap.size W0 V → Calls Tryz.prog 20 #[.agg #[.int .i64 (N : Int), .slice a l.length cap]] V fun e w' => e = .returned (.tuple #[.bool (consR ⟨N, l⟩), .int .i64 0]) ∧ Below V.heap.size V w') := Lib.hid fun V hV => by
        have h := consistent_any (N : Int) a cap l V (HXN.out.keep hV) hl30 (fun _ => HSM.out) (HT.out.keep (HB0.out.trans (hV.mono HB0.out.size)))
        rw [hc] at h; exact h
      have HVA : Hid (∀ V, Below W0.heap.size W0 V → Calls Tryz.prog 21 #[.agg #[.int .i64 (N : Int), .slice a l.length cap]] V fun e w' => e = .returned (.tuple #[.bool (impR ⟨N, l⟩ []), .int .i64 0]) ∧ Below V.heap.size V w') := Lib.hid fun V hV => by
        have h := valid_any (N : Int) a cap l V (HXN.out.keep hV) hl30 (fun _ => HSM.out) (fun _ _ => cheap_cost (show (N : Int) ≤ 20 by omega) _ _) (HT.out.keep (HB0.out.trans (hV.mono HB0.out.size)))
        rw [hc] at h; exact h
      have HCA : Hid (detL l → (consR ⟨(N : Int), l⟩ = true ↔ 0 < sumT N l)) := fun hdet => by rw [cons_iff (by omega) hc, sumT_pos (by omega) hok hdc hdet]
      have HCB : Hid (detL l → (impR ⟨(N : Int), l⟩ [] = true ↔ sumT N l = 2 ^ N)) := fun hdet => by rw [imp_iff HSM.out hc, sumT_full (by omega) hok hdc hdet]
      have HLE : Hid (detL l → sumT N l ≤ 2 ^ N) := fun hdet => by rw [sumT_cnt (by omega) hok hdc hdet]; exact cnt_le _ _ _
      have h256 : 2 ^ N ≤ 256 := Nat.pow_le_pow_right (n := 2) (by omega) hN8
      have HP := Lib.hid (fun V => pow2_any N hN8 V)
      clear hc hok hn0 hn1 hdc
      generalize consR ⟨(N : Int), l⟩ = cA at *
      generalize impR ⟨(N : Int), l⟩ [] = cB at *
      generalize sumT N l = X at *
      obtain rfl := HW0.out
      have h0p : 0 < 2 ^ N := Nat.pow_pos (by omega)
      generalize 2 ^ N = Y at *
      go_enter Tryz.func3, Tryz.ntmps3
      go_wp2_with fail
      refine (HLI.out).mono ?_
      rintro e w1 ⟨rfl, hb1⟩
      have Lw1 := Lib.hid (hb1)
      have L1 := Lw1
      have B1 := Lib.hid (HB0.out.trans (L1.out.mono HB0.out.size))
      clear hb1
      have Q := q0.out.later Lw1.out
      have k0_0 : w1.cell? ⟨w.heap.size, 0, none⟩ = some (.int .i64 (N : Int)) := Q.cell 0
      have k0_1 : w1.cell? ⟨w.heap.size, 1, none⟩ = some (.slice a l.length cap) := Q.cell 1
      have z0 : w.heap.size < w1.heap.size := Q.lt
      clear Q
      go_wp2_with fail
      refine (HCK.out _ L1.out).mono ?_
      rintro e w2 ⟨rfl, hb2⟩
      have Lw2 := Lib.hid (L1.out.trans (hb2.mono L1.out.size))
      clear k0_0 k0_1 z0
      have L2 := Lw2
      have B2 := Lib.hid (HB0.out.trans (L2.out.mono HB0.out.size))
      clear hb2
      have Q := q0.out.later Lw2.out
      have k0_0 : w2.cell? ⟨w.heap.size, 0, none⟩ = some (.int .i64 (N : Int)) := Q.cell 0
      have k0_1 : w2.cell? ⟨w.heap.size, 1, none⟩ = some (.slice a l.length cap) := Q.cell 1
      have z0 : w.heap.size < w2.heap.size := Q.lt
      clear Q
      go_wp2_with fail
      refine Calls.mono (HDE.out _ L2.out) ?_
      rintro e w3 ⟨bd, rfl, hdet, hb3⟩
      have Lw3 := Lib.hid (L2.out.trans (hb3.mono L2.out.size))
      clear k0_0 k0_1 z0
      have L3 := Lw3
      have B3 := Lib.hid (HB0.out.trans (L3.out.mono HB0.out.size))
      clear hb3
      have Q := q0.out.later Lw3.out
      have k0_0 : w3.cell? ⟨w.heap.size, 0, none⟩ = some (.int .i64 (N : Int)) := Q.cell 0
      have k0_1 : w3.cell? ⟨w.heap.size, 1, none⟩ = some (.slice a l.length cap) := Q.cell 1
      have z0 : w.heap.size < w3.heap.size := Q.lt
      clear Q
      have HDD := Lib.hid hdet
      clear hdet
      cases bd with
      | false =>
        go_wp2_with fail
        refine (HW.out _ B3.out).mono ?_
        rintro e w4 ⟨rfl, hb4⟩
        have Lw4 := Lib.hid (L3.out.trans (hb4.mono L3.out.size))
        clear k0_0 k0_1 z0
        have L4 := Lw4
        have B4 := Lib.hid (HB0.out.trans (L4.out.mono HB0.out.size))
        clear hb4
        go_wp2
        go_ret
        exact ⟨rfl, B4.out⟩
      | true =>
        have hdet := HDD.out rfl
        have HCT2 := Lib.hid (fun V hV => HCT.out V hV hdet)
        have hca := HCA.out hdet
        have hcb := HCB.out hdet
        have hle := HLE.out hdet
        have hc1 : decide (0 < cmp1 X 0) = cA := by
          unfold cmp1
          cases cA with
          | true => have := hca.1 rfl; rw [if_neg (by omega), if_neg (by omega)]; rfl
          | false => rw [if_pos (Nat.eq_zero_of_not_pos fun h => absurd (hca.2 h) (by simp))]; rfl
        have hc2 : (cmp1 X Y == 0) = cB := by
          unfold cmp1
          cases cB with
          | true => rw [if_pos (hcb.1 rfl)]; rfl
          | false =>
            rw [if_neg (fun h => absurd (hcb.2 h) (by simp))]
            split <;> rfl
        have HC1 : Hid (∀ V, Calls Tryz.prog 22 #[natv X, natv 0] V fun e w' => e = .returned (.int .i64 (cmp1 X 0)) ∧ Below V.heap.size V w') := Lib.hid fun V => cmp_any X 0 (by omega) (by omega) V
        have HC2 : Hid (∀ V, Calls Tryz.prog 22 #[natv X, natv Y] V fun e w' => e = .returned (.int .i64 (cmp1 X Y)) ∧ Below V.heap.size V w') := Lib.hid fun V => cmp_any X Y (by omega) h256 V
        unfold natv at HC1 HC2 HCT2
        rw [show natB 0 = ⟨#[]⟩ from rfl] at HC1
        have HP2 := HP
        unfold natv at HP2
        generalize cmp1 X 0 = d1 at *
        generalize cmp1 X Y = d2 at *
        clear hca hcb hle hdet h256 h0p HDD
        have HD1 := Lib.hid hc1
        have HD2 := Lib.hid hc2
        clear hc1 hc2
        go_wp2_with fail
        refine (HCT2.out _ L3.out).mono ?_
        rintro e w4 ⟨rfl, hb4⟩
        have Lw4 := Lib.hid (L3.out.trans (hb4.mono L3.out.size))
        clear k0_0 k0_1 z0
        have L4 := Lib.hid (Lw4.out.alloc Lw4.out.size (.cells #[.string (natB X)] 32))
        have S4 := Lib.hid (Blk.new w4 #[.string (natB X)] 32)
        have B4 := Lib.hid (HB0.out.trans (L4.out.mono HB0.out.size))
        clear hb4
        have Q := q0.out.later Lw4.out
        have k0_0 : w4.cell? ⟨w.heap.size, 0, none⟩ = some (.int .i64 (N : Int)) := Q.cell 0
        have k0_1 : w4.cell? ⟨w.heap.size, 1, none⟩ = some (.slice a l.length cap) := Q.cell 1
        have z0 : w.heap.size < w4.heap.size := Q.lt
        clear Q
        go_wp2_with fail
        refine (HCO.out _ L4.out).mono ?_
        rintro e w5 ⟨rfl, hb5⟩
        have Lw5 := Lib.hid (L4.out.trans (hb5.mono L4.out.size))
        clear k0_0 k0_1 z0
        have S4_5 := Lib.hid (S4.out.later hb5)
        have L5 := Lw5
        have B5 := Lib.hid (HB0.out.trans (L5.out.mono HB0.out.size))
        clear hb5
        have Q := q0.out.later Lw5.out
        have k0_0 : w5.cell? ⟨w.heap.size, 0, none⟩ = some (.int .i64 (N : Int)) := Q.cell 0
        have k0_1 : w5.cell? ⟨w.heap.size, 1, none⟩ = some (.slice a l.length cap) := Q.cell 1
        have z0 : w.heap.size < w5.heap.size := Q.lt
        clear Q
        have jS4_0 : w5.cell? ⟨w4.heap.size, 0, none⟩ = some (.string (natB X)) := S4_5.out.cell 0
        have yS4 : w4.heap.size < w5.heap.size := S4_5.out.lt
        go_wp2_with fail
        refine (HVA.out _ L5.out).mono ?_
        rintro e w6 ⟨rfl, hb6⟩
        have Lw6 := Lib.hid (L5.out.trans (hb6.mono L5.out.size))
        clear k0_0 k0_1 z0 jS4_0 yS4
        have S4_6 := Lib.hid (S4_5.out.later hb6)
        have L6 := Lw6
        have B6 := Lib.hid (HB0.out.trans (L6.out.mono HB0.out.size))
        clear hb6
        have Q := q0.out.later Lw6.out
        have k0_0 : w6.cell? ⟨w.heap.size, 0, none⟩ = some (.int .i64 (N : Int)) := Q.cell 0
        have k0_1 : w6.cell? ⟨w.heap.size, 1, none⟩ = some (.slice a l.length cap) := Q.cell 1
        have z0 : w.heap.size < w6.heap.size := Q.lt
        clear Q
        have jS4_0 : w6.cell? ⟨w4.heap.size, 0, none⟩ = some (.string (natB X)) := S4_6.out.cell 0
        have yS4 : w4.heap.size < w6.heap.size := S4_6.out.lt
        have hd1 := HD1.out
        have hd2 := HD2.out
        have HKS : Hid (∀ w' : World, Below w6.heap.size w6 w' → (fun w' => w'.cell? ⟨w.heap.size, 0, none⟩ = some (.int .i64 (N : Int)) ∧ w'.cell? ⟨w4.heap.size, 0, none⟩ = some (.string (natB X)) ∧ Below w6.heap.size w6 w') w') := Lib.hid fun w' hb => ⟨cell_keep hb k0_0, cell_keep hb jS4_0, hb⟩
        cases cA
        all_goals
          cases cB
          all_goals
            go_wp2_with fail
            go_region_held3 (fun w' => w'.cell? ⟨w.heap.size, 0, none⟩ = some (.int .i64 (N : Int)) ∧ w'.cell? ⟨w4.heap.size, 0, none⟩ = some (.string (natB X)) ∧ Below w6.heap.size w6 w')
              (first
                | exact HKS.out _ (by first | (with_reducible exact (Below.refl _ _).drew) | (with_reducible exact (last3 (by assumption))))
                | exact HKS.out _ hv9
                | exact HKS.out _ hv8
                | exact HKS.out _ hv7
                | exact HKS.out _ hv5)
              (first
                | (go_at_call 22
                   with_reducible refine Calls.mono (HC1.out _) ?_
                   rintro e v5 ⟨rfl, hb5⟩
                   have hv5 : Below w6.heap.size w6 v5 := Below.trans (by first | (with_reducible exact (Below.refl _ _).drew) | (with_reducible exact (last3 (by assumption)))) (hb5.mono (Below.size (B := w6.heap.size) (w := w6) (by first | (with_reducible exact (Below.refl _ _).drew) | (with_reducible exact (last3 (by assumption)))))))
                | (go_at_call 23
                   with_reducible refine Calls.mono (HP2.out _) ?_
                   rintro e v7 ⟨rfl, hb7⟩
                   have hv7 : Below w6.heap.size w6 v7 := Below.trans (by first | (with_reducible exact (Below.refl _ _).drew) | (with_reducible exact (last3 (by assumption)))) (hb7.mono (Below.size (B := w6.heap.size) (w := w6) (by first | (with_reducible exact (Below.refl _ _).drew) | (with_reducible exact (last3 (by assumption)))))))
                | (go_at_call 22
                   with_reducible refine Calls.mono (HC2.out _) ?_
                   rintro e v8 ⟨rfl, hb8⟩
                   have hv8 : Below w6.heap.size w6 v8 := Below.trans (by first | (with_reducible exact (Below.refl _ _).drew) | (with_reducible exact (last3 (by assumption)))) (hb8.mono (Below.size (B := w6.heap.size) (w := w6) (by first | (with_reducible exact (Below.refl _ _).drew) | (with_reducible exact (last3 (by assumption)))))))
                | (go_at_call 17
                   with_reducible refine Calls.mono (HW.out _ (B6.out.trans (Below.mono (B := w6.heap.size) (by first | (with_reducible exact (Below.refl _ _).drew) | (with_reducible exact (last3 (by assumption)))) B6.out.size))) ?_
                   rintro e v9 ⟨rfl, hb9⟩
                   have hv9 : Below w6.heap.size w6 v9 := Below.trans (by first | (with_reducible exact (Below.refl _ _).drew) | (with_reducible exact (last3 (by assumption)))) (hb9.mono (Below.size (B := w6.heap.size) (w := w6) (by first | (with_reducible exact (Below.refl _ _).drew) | (with_reducible exact (last3 (by assumption))))))))
            all_goals
              go_wp2
              go_ret
              exact ⟨rfl, B6.out.trans (hv9.mono B6.out.size)⟩
    · have hcb : (chkR [] ⟨n, l⟩ != 0) = true := by simpa using hc
      clear hc
      generalize chkR [] ⟨n, l⟩ = c at *
      obtain rfl := HW0.out
      go_enter Tryz.func3, Tryz.ntmps3
      go_wp2_with fail
      refine (HLI.out).mono ?_
      rintro e w1 ⟨rfl, hb1⟩
      have Lw1 := Lib.hid (hb1)
      have L1 := Lw1
      have B1 := Lib.hid (HB0.out.trans (L1.out.mono HB0.out.size))
      clear hb1
      have Q := q0.out.later Lw1.out
      have k0_0 : w1.cell? ⟨w.heap.size, 0, none⟩ = some (.int .i64 n) := Q.cell 0
      have k0_1 : w1.cell? ⟨w.heap.size, 1, none⟩ = some (.slice a l.length cap) := Q.cell 1
      have z0 : w.heap.size < w1.heap.size := Q.lt
      clear Q
      go_wp2_with fail
      refine (HCK.out _ L1.out).mono ?_
      rintro e w2 ⟨rfl, hb2⟩
      have Lw2 := Lib.hid (L1.out.trans (hb2.mono L1.out.size))
      clear k0_0 k0_1 z0
      have L2 := Lw2
      have B2 := Lib.hid (HB0.out.trans (L2.out.mono HB0.out.size))
      clear hb2
      have Q := q0.out.later Lw2.out
      have k0_0 : w2.cell? ⟨w.heap.size, 0, none⟩ = some (.int .i64 n) := Q.cell 0
      have k0_1 : w2.cell? ⟨w.heap.size, 1, none⟩ = some (.slice a l.length cap) := Q.cell 1
      have z0 : w.heap.size < w2.heap.size := Q.lt
      clear Q
      go_wp2_with fail
      refine (HW.out _ B2.out).mono ?_
      rintro e w3 ⟨rfl, hb3⟩
      have Lw3 := Lib.hid (L2.out.trans (hb3.mono L2.out.size))
      clear k0_0 k0_1 z0
      have L3 := Lw3
      have B3 := Lib.hid (HB0.out.trans (L3.out.mono HB0.out.size))
      clear hb3
      go_wp2
      go_ret
      exact ⟨rfl, B3.out⟩
end Go.Proofs.YtkaojolofaanfaaGreatDoor
