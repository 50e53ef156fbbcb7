/- Part of the proofs that laws of censuslaw38 return true for every input, where the tables that the rows list are laid. Texts: QKey, NetVars, SetOf, Node1. -/
import Derived.Test.YtkaojolofaanfaaGreatDoorZA4
import Derived.Deep.AppendLies
import Derived.Deep.RegionHeld3
import Derived.Lib.AppendIntMem
import Derived.Lib.OthersKept
import Derived.Lib.Slices
import Derived.Laws.IdiomStrings
import Derived.Outline
import Derived.Test.YtkaojolofaanfaaGreatDoorZA2

/- The walk of query.key. -/
namespace Go.Proofs.YtkaojolofaanfaaGreatDoor
open Go.RowKit Cen
set_option maxHeartbeats 4000000
set_option maxRecDepth 100000

theorem elemByte : Elem 154 5 1 1 (.int .u8 0) := .mk Tryz.underlying154 (by kernel_rfl) rfl (by decide)
/-- Bytes that the call owns. -/
def OwnB (w : World) (base : Nat) (v : Value) (l : List UInt8) : Prop := w.ownsRow base 5 1 v l.length (Lib.byteCells l)
theorem OwnB.nil (w : World) (base : Nat) : OwnB w base (.slice none 0 0) [] := World.ownsRow_nil _ _ _ _
theorem OwnB.later {w w' : World} {base : Nat} {v : Value} {l : List UInt8} (h : OwnB w base v l) (hb : Below w.heap.size w w') : OwnB w' base v l := by
  refine ⟨h.1, ?_⟩
  rcases h.2 with h1 | ⟨g, cap, cur, hv, hg, hh, r⟩
  · exact .inl h1
  · exact .inr ⟨g, cap, cur, hv, hg, by rw [hb.block g (lt_of_block hh)]; exact hh, r⟩
theorem OwnB.row {w : World} {base : Nat} {v : Value} {l : List UInt8} (h : OwnB w base v l) : ∀ g, v.ownBlock = some g → ∃ c fz, w.heap[g]? = some (.cells c 5 fz) := by
  intro g hg
  rcases h.2 with ⟨h1, _⟩ | ⟨g', cap, cur, hv, _, hh, _⟩
  · rw [h1] at hg; simp [Value.ownBlock] at hg
  · rw [hv] at hg; simp [Value.ownBlock] at hg; subst hg; exact ⟨cur, _, hh⟩
section
variable {ops : Array Oper} {o : Oper} {a : Act} {w : World} {K : Act → World → Prop} {Q : Exit → Act → World → Prop} {EE : Prop}
theorem byteCells_snoc (l : List UInt8) (c : UInt8) : Lib.byteCells l ++ [Value.int .u8 c.toNat] = Lib.byteCells (l ++ [c]) := by simp [Lib.byteCells]
/-- append(b, c) inside a region. -/
theorem step_appB (hgd : o.guard = none) (s x : Operand) (ho : o.op = .call { callee := .builtin .append, args := #[s, x], argTypes := #[154, 154] })
    (base : Nat) (v : Value) (l : List UInt8) (c : UInt8) (hs : a.eval s = v) (hown : OwnB w base v l) (bc : Nat) (hx : a.eval x = .slice (some ⟨bc, 0, none⟩) 1 1)
    (hnew : w.cell? ⟨bc, 0, none⟩ = some (.int .u8 c.toNat)) (hl : l.length ≤ 1073741824) (hbase : base ≤ w.heap.size)
    (h : ∀ v' w', OwnB w' base v' (l ++ [c]) → w.grownBy w' v.ownBlock → K (a.put o.dst v') w') :
    if Region.wanted o (yielded ops a.tmps) = true then Oper.wp Tryz.prog o a w K Q else EE := by
  obtain ⟨ht, i, hi, hz, hsz, hby', hzs, h0⟩ := elemByte
  refine step_append_lies w hgd s x 154 ho base 5 i (.int .u8 0) 1 1 ht hi hz hsz hby' hzs h0 v l.length (Lib.byteCells l) hs hown ⟨bc, 0, none⟩ 1 1 [.int .u8 c.toNat] hx (by simp) ?_ (by intro u hu; simp at hu; subst hu; rfl) (by omega) (by unfold maxLen; omega) (by omega) hbase w.heap.size rfl ?_
  · intro j u hj
    match j, hj with
    | 0, hj => simp at hj; subst hj; simpa [Addr.add] using hnew
  · intro g cap w' h2 h3 _ _
    refine h _ w' ?_ h3
    unfold OwnB; rw [← byteCells_snoc]; simpa using h2
end
/-- The frame behind 'AppendInt(append(b, c), x, 10)'. -/
theorem num_frame {W W1 W3 W4 : World} {B : Nat} {v : Value} {l : List UInt8} (hBW : B ≤ W.heap.size) (hown : OwnB W B v l) (h1 : Below W.heap.size W W1) (hg : W1.grownBy W3 v.ownBlock) (h4 : Below B W3 W4) (hk : Lib.OthersKept 5 none W3 W4) :
    Below B W W4 ∧ Lib.OthersKept 5 none W W4 := by
  have k1 : Lib.OthersKept 5 none W W1 := fun k o ho _ _ => by rw [h1.block k (lt_of_block ho)]; exact ho
  refine ⟨(((h1.mono hBW)).grown hg (Nat.le_trans hBW h1.size) fun k hk => ?_).trans h4, (k1.grown hg fun g hg' => ?_).trans hk⟩
  · rcases hown.2 with ⟨e, _⟩ | ⟨g, cap, cur, hv, hgB, _⟩
    · rw [e] at hk; simp [Value.ownBlock] at hk
    · rw [hv] at hk; simp [Value.ownBlock] at hk; subst hk; exact hgB
  · exact (hown.later h1).row g hg'
theorem app_frame {W W1 W3 : World} {B : Nat} {v : Value} {l : List UInt8} (hBW : B ≤ W.heap.size) (hown : OwnB W B v l) (h1 : Below W.heap.size W W1) (hg : W1.grownBy W3 v.ownBlock) : Below B W W3 ∧ Lib.OthersKept 5 none W W3 :=
  num_frame hBW hown h1 hg (Below.refl _ _) (Lib.OthersKept.refl _ _ _)
theorem blk_others {w w' : World} {b : Nat} {cs : Array Value} {t : TypeId} (h : Blk w b cs t) (ht : t ≠ 5) (hk : Lib.OthersKept 5 none w w') : Blk w' b cs t :=
  hk b _ h (by simp) fun c fz e => by injection e with _ e2 _; exact ht e2
/-- A part of the whole. -/
def Pfx (tot cur : List UInt8) : Prop := ∃ r, tot = cur ++ r
theorem Pfx.le {tot cur : List UInt8} (h : Pfx tot cur) : cur.length ≤ tot.length := by obtain ⟨r, rfl⟩ := h; simp
theorem Pfx.left {tot a b : List UInt8} (h : Pfx tot (a ++ b)) : Pfx tot a := by obtain ⟨r, rfl⟩ := h; exact ⟨b ++ r, by simp⟩
theorem take_next {α : Type} {l : List α} {k : Nat} (h : k < l.length) {β : Type} (f : α → List β) : l.flatMap f = (l.take k).flatMap f ++ (f l[k] ++ (l.drop (k + 1)).flatMap f) := by
  conv => lhs; rw [show l = l.take k ++ l[k] :: l.drop (k + 1) by simp]
  rw [List.flatMap_append, List.flatMap_cons]
theorem take_snocF {α : Type} {l : List α} {k : Nat} (h : k < l.length) {β : Type} (f : α → List β) : (l.take (k + 1)).flatMap f = (l.take k).flatMap f ++ f l[k] := by
  rw [List.take_succ_eq_append_getElem h, List.flatMap_append]; simp
theorem appendInt_any (B : Nat) (i : Int) (hi : small i) (sv : Value) (l : List UInt8) (w : World) (hown : OwnB w B sv l) (hBw : B ≤ w.heap.size) (hl : l.length ≤ 1073741824)
    (ht : Lib.TabBelow Tryz.prog B w "internal/strconv.uint64pow10" .u64 Lib.pow10Tab) :
    Calls Tryz.prog 203 #[sv, .int .i64 i, .int .i64 10] w fun e w' => ∃ v', e = .returned v' ∧ OwnB w' B v' (l ++ Lib.itoa i) ∧ Below B w w' ∧ Lib.OthersKept 5 none w w' := by
  refine (Tryz.strconv_AppendInt_10 B l.length i (by have := hi.1; omega) (by have := hi.2; omega) sv (Lib.byteCells l) w hown hBw (by omega) ht).mono ?_
  rintro e w' ⟨v', rfl, h1, h2, h3⟩
  refine ⟨v', rfl, ?_, h2, h3⟩
  unfold OwnB; rw [← byteCells_append, List.length_append]; exact h1

theorem qkey_any (a : Option Addr) (cap : Nat) (ns : List Nt) (w : World) (hns : NetCells w a ns) (hn1 : 1 ≤ ns.length) (hnl : ns.length ≤ 1000)
    (hsm : ∀ t ∈ ns, ∀ x ∈ t.l, small x.kind ∧ small x.lit ∧ ∀ i ∈ x.ins, small i) (hlen : (qkey (ns.map Nt.l)).length ≤ 1073741000) (ht : Tab w) :
    Calls Tryz.prog 170 #[.slice a ns.length cap] w fun e w' => e = .returned (.string ⟨(qkey (ns.map Nt.l)).toArray⟩) ∧ Below w.heap.size w w' := by
  have HNS := Lib.hid hns
  have HSM := Lib.hid hsm
  have HLEN := Lib.hid hlen
  have HTB : Hid (Lib.TabBelow Tryz.prog w.heap.size w "internal/strconv.uint64pow10" .u64 Lib.pow10Tab) := Lib.tabBelow_of_tabIs ht
  have htot : qkey (ns.map Nt.l) = ns.flatMap (fun t => qkL t.l) := by simp [qkey, List.flatMap_map]
  have HTOT := Lib.hid htot
  have HN1 := Lib.hid hn1
  generalize qkey (ns.map Nt.l) = tot at *
  clear hns hsm hlen ht htot hn1
  go_enter Tryz.func170, Tryz.ntmps170
  go_wp2
  go_loopw [3, 12] (fun v i wr => ∃ k : Nat, k ≤ ns.length ∧ i = .int .i64 k ∧ OwnB wr w.heap.size v ((ns.take k).flatMap fun t => qkL t.l) ∧ Below w.heap.size w wr) (fun _ i _ => ns.length - (intOf i).toNat)
  case atStart => exact ⟨0, Nat.zero_le _, rfl, OwnB.nil _ _, Below.refl _ _⟩
  case round =>
    obtain ⟨k, hk, rfl, hown, hb⟩ := hrel
    have HO := Lib.hid hown
    have HB := Lib.hid hb
    clear hown hb
    by_cases hlt : k < ns.length
    · obtain ⟨b0, off, rfl, hc⟩ := HNS.out k hlt
      have hgd : ns.getD k default = ns[k] := by simp [List.getD_eq_getElem?_getD, hlt]
      have HX : Hid ((ns.take (k + 1)).flatMap (fun t => qkL t.l) = (ns.take k).flatMap (fun t => qkL t.l) ++ qkL ns[k].l) := take_snocF hlt _
      have HPX : Hid (Pfx tot ((ns.take k).flatMap (fun t => qkL t.l) ++ qkL ns[k].l)) := ⟨(ns.drop (k + 1)).flatMap fun t => qkL t.l, by rw [HTOT.out, take_next hlt]; simp⟩
      have HSK : Hid (∀ x ∈ ns[k].l, small x.kind ∧ small x.lit ∧ ∀ i ∈ x.ins, small i) := HSM.out _ (List.getElem_mem hlt)
      rw [hgd] at hc
      generalize ns[k] = t at *
      generalize (ns.take k).flatMap (fun t => qkL t.l) = p1 at *
      obtain ⟨c0', la, lcap, c1', hnd, hll⟩ := hc
      have hbw : b0 < w.heap.size := cell_block c0'
      have c0 := HB.out.cell (p := ⟨b0, off + k * 2, none⟩) hbw
      have c1 := HB.out.cell (p := ⟨b0, off + k * 2 + 1, none⟩) hbw
      rw [c0'] at c0
      rw [c1'] at c1
      have hbz : b0 < wr.heap.size := cell_block c0
      have HND := Lib.hid hnd
      clear hnd hgd c0' c1'
      obtain ⟨wo, rfl⟩ : ∃ wo : World, wo = wr := ⟨_, rfl⟩
      have HZO := Lib.hid HB.out.size
      go_wp2_with fail
      go_loopw [3, 19] (fun v i wr => ∃ j : Nat, j ≤ t.l.length ∧ i = .int .i64 j ∧ OwnB wr w.heap.size v (p1 ++ (t.l.take j).flatMap qkNd) ∧ Below w.heap.size w wr) (fun _ i _ => t.l.length - (intOf i).toNat)
      case atStart => exact ⟨0, Nat.zero_le _, rfl, by simpa using HO.out.later ((Below.refl _ _).alloc (Nat.le_refl _) _), HB.out.alloc HZO.out _⟩
      case round =>
        obtain ⟨j, hj, rfl, hown, hb⟩ := hrel
        have HO2 := Lib.hid hown
        have HB2 := Lib.hid hb
        have HZ2 := Lib.hid hb.size
        clear hown hb
        by_cases hlt2 : j < t.l.length
        · obtain ⟨b1, off1, rfl, d0', d1', av, cv, d2', hin, hil⟩ := HND.out j hlt2
          have hgd : t.l.getD j default = t.l[j] := by simp [List.getD_eq_getElem?_getD, hlt2]
          have HX2 : Hid ((t.l.take (j + 1)).flatMap qkNd = (t.l.take j).flatMap qkNd ++ qkNd t.l[j]) := take_snocF hlt2 _
          have HPX2 : Hid (Pfx tot (p1 ++ (t.l.take j).flatMap qkNd ++ qkNd t.l[j])) := by
            obtain ⟨r, hr⟩ := HPX.out
            exact ⟨(t.l.drop (j + 1)).flatMap qkNd ++ ([46] ++ r), by rw [hr]; unfold qkL; rw [take_next hlt2]; simp⟩
          have HSX : Hid (small t.l[j].kind ∧ small t.l[j].lit ∧ ∀ i ∈ t.l[j].ins, small i) := HSK.out _ (List.getElem_mem hlt2)
          rw [hgd] at d0' d1' d2' hin hil
          have e2 : (p1 ++ (t.l.take (j + 1)).flatMap qkNd) = (p1 ++ (t.l.take j).flatMap qkNd) ++ qkNd t.l[j] := by rw [HX2.out, List.append_assoc]
          have HE2 := Lib.hid e2
          clear e2
          generalize t.l[j] = x at *
          generalize p1 ++ (t.l.take j).flatMap qkNd = p2 at *
          have hb1w : b1 < w.heap.size := cell_block d0'
          have d0 := HB2.out.cell (p := ⟨b1, off1 + j * 3, none⟩) hb1w
          have d1 := HB2.out.cell (p := ⟨b1, off1 + j * 3 + 1, none⟩) hb1w
          have d2 := HB2.out.cell (p := ⟨b1, off1 + j * 3 + 2, none⟩) hb1w
          rw [d0'] at d0
          rw [d1'] at d1
          rw [d2'] at d2
          have hb1z : b1 < wr.heap.size := cell_block d0
          have HIN := Lib.hid hin
          have HTB2 := Lib.hid (HTB.out.on HB2.out)
          clear hin hgd d0' d1' d2' HX2
          have HBLK := Lib.hid (Blk.new wr #[.int .i64 x.kind, .int .i64 x.lit, .slice av x.ins.length cv] 67)
          have m0 : (wr.alloc (.cells #[.int .i64 x.kind, .int .i64 x.lit, .slice av x.ins.length cv] 67)).cell? ⟨wr.heap.size, 0, none⟩ = some (.int .i64 x.kind) := HBLK.out.cell 0
          have HOW := Lib.hid (HO2.out.later ((Below.refl _ _).alloc (Nat.le_refl _) (.cells #[.int .i64 x.kind, .int .i64 x.lit, .slice av x.ins.length cv] 67)))
          have HBW := Lib.hid (HB2.out.alloc HZ2.out (.cells #[.int .i64 x.kind, .int .i64 x.lit, .slice av x.ins.length cv] 67))
          have HZW : Hid (wr.heap.size < (wr.alloc (.cells #[.int .i64 x.kind, .int .i64 x.lit, .slice av x.ins.length cv] 67)).heap.size) := by show _ < _; simp
          go_wp2_with fail
          generalize hW : wr.alloc (.cells #[.int .i64 x.kind, .int .i64 x.lit, .slice av x.ins.length cv] 67) = W at *
          generalize wr.heap.size = C at *
          clear hW d0 d1 d2
          have HT2 : Hid (Lib.TabBelow Tryz.prog w.heap.size W "internal/strconv.uint64pow10" .u64 Lib.pow10Tab) := HTB.out.on HBW.out
          have HPQ : Hid (p2 ++ qkNd x = ((p2 ++ [59] ++ Lib.itoa x.kind) ++ [32] ++ Lib.itoa x.lit) ++ qkIns x.ins) := by show _ = _; simp [qkNd]
          have HPY := HPX2
          rw [HPQ.out] at HPX2
          have HLN : Hid (p2.length + 50 ≤ 1073741824) := by show _ ≤ _; have h1 := HPX2.out.left.left.left.left.left.le; have h2 := HLEN.out; omega
          have HZB := Lib.hid HBW.out.size
          go_region_held3 (fun w' => w'.cell? ⟨C, 0, none⟩ = some (.int .i64 x.kind)) (first | assumption | go_keep)
            (first
              | (refine step_appB rfl _ _ (by rfl) w.heap.size u3 p2 59 (by rfl) (HOW.out.later ((Below.refl _ _).alloc (Nat.le_refl _) _).drew) W.heap.size (by rfl) (by show (W.alloc _).cell? _ = _; rw [World.cell?_alloc_at _ _ _ _ rfl]; rfl) (by have := HLN.out; omega) (by have := HZB.out; simp; omega) ?_
                 intro v3 w3 hown3 hgrow3
                 have hf3 := app_frame HZB.out HOW.out (((Below.refl _ _).alloc (Nat.le_refl _) _).drew) hgrow3
                 have hk3 := blk_others HBLK.out (by decide) hf3.2
                 have m3 : w3.cell? ⟨C, 0, none⟩ = some (.int .i64 x.kind) := hk3.cell 0)
              | (go_at_call 203
                 refine (appendInt_any w.heap.size x.kind HSX.out.1 v3 _ w3 hown3 (Nat.le_trans HZB.out hf3.1.size) (by rw [List.length_append]; have := HLN.out; simp; omega) (HT2.out.on hf3.1)).mono ?_
                 rintro e w4 ⟨v4, rfl, hown4, hb4, hk4'⟩
                 have hk4 := blk_others hk3 (by decide) hk4'
                 have m4 : w4.cell? ⟨C, 0, none⟩ = some (.int .i64 x.kind) := hk4.cell 0))
          have HO4 := Lib.hid hown4
          have HB4 := Lib.hid ((HBW.out.trans hf3.1).trans hb4)
          have HK4 := Lib.hid hk4
          have HT4 := Lib.hid (HTB.out.on HB4.out)
          have HZ4 := Lib.hid HB4.out.size
          clear hown3 hgrow3 hf3 hk3 m3 hown4 hb4 hk4' hk4 m4 m0
          generalize p2 ++ [59] ++ Lib.itoa x.kind = p3 at *
          have HLN4 : Hid (p3.length + 50 ≤ 1073741824) := by show _ ≤ _; have h1 := HPX2.out.left.left.left.le; have h2 := HLEN.out; omega
          have m1 : w4.cell? ⟨C, 1, none⟩ = some (.int .i64 x.lit) := HK4.out.cell 1
          go_wp2_with fail
          go_region_held3 (fun w' => w'.cell? ⟨C, 1, none⟩ = some (.int .i64 x.lit)) (first | assumption | go_keep)
            (first
              | (refine step_appB rfl _ _ (by rfl) w.heap.size v4 p3 32 (by rfl) (HO4.out.later ((Below.refl _ _).alloc (Nat.le_refl _) _).drew) w4.heap.size (by rfl) (by show (w4.alloc _).cell? _ = _; rw [World.cell?_alloc_at _ _ _ _ rfl]; rfl) (by have := HLN4.out; omega) (by have := HZ4.out; simp; omega) ?_
                 intro v5 w5 hown5 hgrow5
                 have hf5 := app_frame HZ4.out HO4.out (((Below.refl _ _).alloc (Nat.le_refl _) _).drew) hgrow5
                 have hk5 := blk_others HK4.out (by decide) hf5.2
                 have m5 : w5.cell? ⟨C, 1, none⟩ = some (.int .i64 x.lit) := hk5.cell 1)
              | (go_at_call 203
                 refine (appendInt_any w.heap.size x.lit HSX.out.2.1 v5 _ w5 hown5 (Nat.le_trans HZ4.out hf5.1.size) (by rw [List.length_append]; have := HLN4.out; simp; omega) (HT4.out.on hf5.1)).mono ?_
                 rintro e w6 ⟨v6, rfl, hown6, hb6, hk6'⟩
                 have hk6 := blk_others hk5 (by decide) hk6'
                 have m6 : w6.cell? ⟨C, 1, none⟩ = some (.int .i64 x.lit) := hk6.cell 1))
          have HO6 := Lib.hid hown6
          have HB6 := Lib.hid ((HB4.out.trans hf5.1).trans hb6)
          have m2 : w6.cell? ⟨C, 2, none⟩ = some (.slice av x.ins.length cv) := hk6.cell 2
          clear hown5 hgrow5 hf5 hk5 m5 hown6 hb6 hk6' hk6 m6 m1
          generalize p3 ++ [32] ++ Lib.itoa x.lit = p4 at *
          go_wp2_with fail
          go_loopw [3, 38] (fun v i wr => ∃ q : Nat, q ≤ x.ins.length ∧ i = .int .i64 q ∧ OwnB wr w.heap.size v (p4 ++ qkIns (x.ins.take q)) ∧ Below w.heap.size w wr) (fun _ i _ => x.ins.length - (intOf i).toNat)
          case atStart => exact ⟨0, Nat.zero_le _, rfl, by simpa [qkIns] using HO6.out, HB6.out⟩
          case round =>
            obtain ⟨q, hq, rfl, hown, hb⟩ := hrel
            have HO7 := Lib.hid hown
            have HB7 := Lib.hid hb
            have HZ7 := Lib.hid hb.size
            clear hown hb
            by_cases hlt3 : q < x.ins.length
            · obtain ⟨b7, off7, rfl, e0'⟩ := HIN.out q hlt3
              have hgd : x.ins.getD q 0 = x.ins[q] := by simp [List.getD_eq_getElem?_getD, hlt3]
              have HX3 : Hid (p4 ++ qkIns (x.ins.take (q + 1)) = (p4 ++ qkIns (x.ins.take q)) ++ [32] ++ Lib.itoa x.ins[q]) := by
                show _ = _; unfold qkIns; rw [take_snocF hlt3]; simp
              have HPX3 : Hid (Pfx tot ((p4 ++ qkIns (x.ins.take q)) ++ [32] ++ Lib.itoa x.ins[q])) := by
                obtain ⟨r, hr⟩ := HPX2.out
                exact ⟨qkIns (x.ins.drop (q + 1)) ++ r, by rw [hr]; unfold qkIns; rw [take_next hlt3]; simp⟩
              have HSI : Hid (small x.ins[q]) := HSX.out.2.2 _ (List.getElem_mem hlt3)
              rw [hgd] at e0'
              generalize x.ins[q] = y at *
              generalize p4 ++ qkIns (x.ins.take q) = p5 at *
              have hb7w : b7 < w.heap.size := cell_block e0'
              have e0 := HB7.out.cell (p := ⟨b7, off7 + q, none⟩) hb7w
              rw [e0'] at e0
              have HLQ : Hid (p5.length + 50 ≤ 1073741824) := by show _ ≤ _; have h1 := HPX3.out.left.left.le; have h2 := HLEN.out; omega
              clear hgd e0'
              go_wp2_with (at_builtin; refine app1 (C := #[.int .u8 32]) elemByte rfl _ _ rfl w.heap.size _ _ _ rfl HO7.out rfl rfl (by simp [Value.oneCell']) (by unfold maxLen; have := HLQ.out; omega) (by have := HLQ.out; omega) HZ7.out ?_)
              intro v8 w8 hown8 hgrow8 _
              have ho8 : OwnB w8 w.heap.size v8 (p5 ++ [32]) := by unfold OwnB; rw [← byteCells_snoc, List.length_append]; exact hown8
              have hf8 := app_frame HZ7.out HO7.out (Below.refl _ _) hgrow8
              have HO8 := Lib.hid ho8
              have HB8 := Lib.hid (HB7.out.trans hf8.1)
              clear hown8 hgrow8 hf8 ho8
              go_wp2_with fail
              refine (appendInt_any w.heap.size y HSI.out v8 (p5 ++ [32]) w8 HO8.out HB8.out.size (by rw [List.length_append]; have := HLQ.out; simp; omega) (HTB.out.on HB8.out)).mono ?_
              rintro e w9 ⟨v9, rfl, hown9, hb9, _⟩
              have HO9 := Lib.hid hown9
              have HB9 := Lib.hid (HB8.out.trans hb9)
              clear hown9 hb9
              go_wp2
              go_roundw
              case rel => exact ⟨q + 1, by omega, by go_num, by rw [HX3.out]; exact HO9.out, HB9.out⟩
              case measure => simp [intOf]; omega
            · have : q = x.ins.length := by omega
              subst this
              have ho := HO7.out
              rw [List.take_length, ← HPQ.out] at ho
              have HO := Lib.hid ho
              clear ho
              go_wp2
              go_roundw
              case rel => exact ⟨j + 1, by omega, by go_num, by rw [HE2.out]; exact HO.out, HB7.out⟩
              case measure => simp [intOf]; omega
        · have : j = t.l.length := by omega
          subst this
          have ho := HO2.out
          rw [List.take_length] at ho
          have HLQ : Hid ((p1 ++ t.l.flatMap qkNd).length + 50 ≤ 1073741824) := by
            show _ ≤ _
            have h1 := HPX.out
            unfold qkL at h1
            rw [← List.append_assoc] at h1
            have h3 := h1.left.le; have h2 := HLEN.out; omega
          have HO3 := Lib.hid ho
          clear ho
          have HX4 : Hid (p1 ++ qkL t.l = (p1 ++ t.l.flatMap qkNd) ++ [46]) := by show _ = _; simp [qkL]
          generalize p1 ++ t.l.flatMap qkNd = p6 at *
          go_wp2_with (at_builtin; refine app1 (C := #[.int .u8 46]) elemByte rfl _ _ rfl w.heap.size _ _ _ rfl HO3.out rfl rfl (by simp [Value.oneCell']) (by unfold maxLen; have := HLQ.out; omega) (by have := HLQ.out; omega) HZ2.out ?_)
          intro v8 w8 hown8 hgrow8 _
          have ho8 : OwnB w8 w.heap.size v8 (p6 ++ [46]) := by unfold OwnB; rw [← byteCells_snoc, List.length_append]; exact hown8
          have hf8 := app_frame HZ2.out HO3.out (Below.refl _ _) hgrow8
          have HO8 := Lib.hid ho8
          have HB8 := Lib.hid (HB2.out.trans hf8.1)
          clear hown8 hgrow8 hf8 ho8
          go_wp2
          go_roundw
          case rel => exact ⟨k + 1, by omega, by go_num, by rw [HX.out, HX4.out]; exact HO8.out, HB8.out⟩
          case measure => simp [intOf]; omega
    · have : k = ns.length := by omega
      subst this
      have ho := HO.out
      rw [List.take_length, ← HTOT.out] at ho
      have hne : tot ≠ [] := by
        rw [HTOT.out]
        match ns, HN1.out with
        | t :: ns, _ => simp [qkL]
      rcases ho.2 with ⟨_, h0⟩ | ⟨g, cap', cur, rfl, _⟩
      · exact absurd (List.eq_nil_of_length_eq_zero h0) hne
      · have hcv := run_convert_bytes_back (P := Tryz.prog) wr 154 9 5 ⟨g, 0, none⟩ cap' tot Tryz.underlying154 Tryz.underlying5 Tryz.underlying9 (fun j hj => ho.cells (g := g) rfl j _ (by simp [Lib.byteCells, hj]))
        clear ho hne
        go_wp2
        go_ret
        exact ⟨rfl, HB.out⟩
end Go.Proofs.YtkaojolofaanfaaGreatDoor

/- Plain models: the variables below each node, decomposable nets. No program in sight. -/
namespace Cen
def ofL (xs : List Int) : St := xs.foldl St.add St.zero
theorem ofL_ok (xs : List Int) : (ofL xs).ok := by
  have : ∀ s : St, s.ok → (xs.foldl St.add s).ok := by
    induction xs with
    | nil => intro s h; exact h
    | cons x xs ih => intro s h; exact ih _ (St.add_ok h x)
  exact this _ St.zero_ok
def insU (vs : List St) (s : St) (ins : List Int) : St := ins.foldl (fun s k => s.union (vs.getD k.toNat St.zero)) s
def varsAcc : List Nd → List St → List St
  | [], vs => vs
  | x :: l, vs => varsAcc l (vs ++ [insU vs (ofL [litVar x.lit]) x.ins])
def varsL (l : List Nd) : List St := varsAcc l []
theorem varsAcc_append (l r : List Nd) (vs : List St) : varsAcc (l ++ r) vs = varsAcc r (varsAcc l vs) := by
  induction l generalizing vs with
  | nil => rfl
  | cons y l ih => simp only [List.cons_append, varsAcc]; exact ih _
theorem varsL_snoc (l : List Nd) (x : Nd) : varsL (l ++ [x]) = varsL l ++ [insU (varsL l) (ofL [litVar x.lit]) x.ins] := varsAcc_append l [x] []
theorem varsAcc_length (l : List Nd) (vs : List St) : (varsAcc l vs).length = vs.length + l.length := by
  induction l generalizing vs with
  | nil => rfl
  | cons y l ih => simp only [varsAcc, ih]; simp; omega
theorem varsL_length (l : List Nd) : (varsL l).length = l.length := by simp [varsL, varsAcc_length]
theorem insU_ok {vs : List St} (hv : ∀ s ∈ vs, s.ok) (ins : List Int) : ∀ {s : St}, s.ok → (insU vs s ins).ok := by
  induction ins with
  | nil => intro s h; exact h
  | cons k ins ih =>
    intro s h
    refine ih (s := s.union (vs.getD k.toNat St.zero)) (St.union_ok h ?_)
    by_cases hk : k.toNat < vs.length
    · simp only [List.getD_eq_getElem?_getD, List.getElem?_eq_getElem hk]; exact hv _ (List.getElem_mem hk)
    · simp only [List.getD_eq_getElem?_getD, List.getElem?_eq_none (Nat.le_of_not_lt hk)]; exact St.zero_ok
theorem varsAcc_ok (l : List Nd) : ∀ {vs : List St}, (∀ s ∈ vs, s.ok) → ∀ s ∈ varsAcc l vs, s.ok := by
  induction l with
  | nil => intro vs h; exact h
  | cons y l ih =>
    intro vs h
    refine ih fun s hs => ?_
    rcases List.mem_append.1 hs with h1 | h1
    · exact h s h1
    · simp at h1; subst h1; exact insU_ok h _ (ofL_ok _)
theorem varsL_ok (l : List Nd) : ∀ s ∈ varsL l, s.ok := varsAcc_ok l (by simp)
theorem insU_snoc (vs : List St) (s : St) (ins : List Int) (k : Int) : insU vs s (ins ++ [k]) = (insU vs s ins).union (vs.getD k.toNat St.zero) := by simp [insU]
/-- The inputs' variables do not meet, nor do they meet s. -/
def sepF (vs : List St) : St → List Int → Bool
  | _, [] => true
  | s, k :: r => if s.cut (vs.getD k.toNat St.zero) = St.zero then sepF vs (s.union (vs.getD k.toNat St.zero)) r else false
def ndSep (vs : List St) (x : Nd) : Bool := decide (x.kind ≠ 3) || sepF vs St.zero x.ins
def decL (l : List Nd) : Bool := l.all (ndSep (varsL l))
theorem sepF_drop (vs : List St) (s : St) (ins : List Int) (m : Nat) (h : m < ins.length) :
    sepF vs s (ins.drop m) = if s.cut (vs.getD (ins[m]).toNat St.zero) = St.zero then sepF vs (s.union (vs.getD (ins[m]).toNat St.zero)) (ins.drop (m + 1)) else false := by
  rw [List.drop_eq_getElem_cons h]; rfl
theorem decL_false {l : List Nd} {k : Nat} (hk : k < l.length) (h : ndSep (varsL l) l[k] = false) : decL l = false := by
  rw [Bool.eq_false_iff]; intro h'
  rw [decL, List.all_eq_true] at h'
  have := h' l[k] (List.getElem_mem hk)
  rw [h] at this; exact absurd this (by simp)
theorem decL_true {l : List Nd} (h : ∀ j, j < l.length → ndSep (varsL l) (l.getD j default) = true) : decL l = true := by
  rw [decL, List.all_eq_true]
  intro x hx
  obtain ⟨j, hj, rfl⟩ := List.getElem_of_mem hx
  have := h j hj
  simpa [List.getD_eq_getElem?_getD, hj] using this
theorem St.zero_iff (s : St) : s = St.zero ↔ s.a = 0 ∧ s.b = 0 := by cases s; simp [St.zero]
theorem set_mid {α : Type} (vs zs : List α) (c y : α) : (vs ++ c :: zs).set vs.length y = vs ++ y :: zs := by
  rw [List.set_append_right _ _ (Nat.le_refl _)]; simp
theorem get_mid {α : Type} (vs zs : List α) (c : α) (h : vs.length < (vs ++ c :: zs).length) : (vs ++ c :: zs)[vs.length] = c := by
  simp
theorem get_left {α : Type} (vs zs : List α) (c : α) (i : Nat) (h : i < vs.length) (h' : i < (vs ++ c :: zs).length) : (vs ++ c :: zs)[i] = vs[i] := by
  rw [List.getElem_append_left h]
end Cen

/- The walks of vars.Of and node.Vars. -/
namespace Go.Proofs.YtkaojolofaanfaaGreatDoor
open Go.RowKit Cen
set_option maxHeartbeats 400000
set_option maxRecDepth 100000

theorem setv_eq (s : St) : (stv s).cells = #[.int .u64 (s.a : Int), .int .u64 (s.b : Int)] := rfl
abbrev sts (s : St) : Array Value := #[.int .u64 (s.a : Int), .int .u64 (s.b : Int)]
theorem Blk.putSet {w : World} {b : Nat} {s : St} (h : Blk w b (sts s) 54) (t : St) :
    Blk ((w.setCell ⟨b, 0, none⟩ (.int .u64 (t.a : Int))).setCell ⟨b, 1, none⟩ (.int .u64 (t.b : Int))) b (sts t) 54 := (h.set 0 _).set 1 _
theorem Blk.sc {w : World} {b : Nat} {s : St} {t : TypeId} (h : Blk w b (sts s) t) :
    w.cell? ⟨b, 0, none⟩ = some (.int .u64 (s.a : Int)) ∧ w.cell? ⟨b, 1, none⟩ = some (.int .u64 (s.b : Int)) ∧ w.frozen? ⟨b, 0, none⟩ = false ∧ w.frozen? ⟨b, 1, none⟩ = false :=
  ⟨h.cell 0, h.cell 1, h.fr 0, h.fr 1⟩
theorem below_drew {w w' : World} (h : Below w.drew.heap.size w.drew w') : Below w.heap.size w w' := (Below.refl w.heap.size w).drew.trans (h.mono (Nat.le_refl w.heap.size))
/-- A set's block behind a draw and a call that keeps what is there. -/
theorem Blk.drewCall {w w' : World} {b : Nat} {s : St} {t : TypeId} (h : Blk w b (sts s) t) (hb : Below w.drew.heap.size w.drew w') :
    w'.cell? ⟨b, 0, none⟩ = some (.int .u64 (s.a : Int)) ∧ w'.cell? ⟨b, 1, none⟩ = some (.int .u64 (s.b : Int)) ∧ w'.frozen? ⟨b, 0, none⟩ = false ∧ w'.frozen? ⟨b, 1, none⟩ = false :=
  (h.later (below_drew hb)).sc
theorem setOf_any (a : Option Addr) (cap : Nat) (xs : List Int) (w : World) (hl : xs.length ≤ 1073741824) (hx : IntCells w a xs) :
    Calls Tryz.prog 94 #[.slice a xs.length cap] w fun e w' => e = .returned (stv (ofL xs)) ∧ Below w.heap.size w w' := by
  have HX := Lib.hid hx
  clear hx
  go_enter Tryz.func94, Tryz.ntmps94
  go_wp2
  go_loopw [8] (fun i wr => ∃ k : Nat, k ≤ xs.length ∧ i = .int .i64 k ∧ Blk wr (w.heap.size + 1) (sts (ofL (xs.take k))) 54 ∧ Blk wr w.heap.size (sts St.zero) 54 ∧ Below w.heap.size w wr) (fun i _ => xs.length - (intOf i).toNat)
  case atStart => exact ⟨0, Nat.zero_le _, rfl, Blk.new' (w.alloc _) (by simp) (sts St.zero) 54, (Blk.new w _ _).alloc _, ((Below.refl _ _).alloc (Nat.le_refl _) _).alloc (by simp) _⟩
  case round =>
    obtain ⟨k, hk, rfl, hs, hz, hbel⟩ := hrel
    obtain ⟨c0, c1, f0, f1⟩ := hs.sc
    obtain ⟨d0, d1, e0, e1⟩ := hz.sc
    have HS := Lib.hid hs
    have HZ := Lib.hid hz
    have HB := Lib.hid hbel
    have HOK := Lib.hid (ofL_ok (xs.take k))
    clear hs hz hbel
    by_cases hlt : k < xs.length
    · obtain ⟨b, off, rfl, hc0⟩ := HX.out k hlt
      have hc := cell_keep HB.out hc0
      clear hc0
      generalize hxe : xs.getD k 0 = x at hc
      have HXE : Hid (ofL (xs.take (k + 1)) = (ofL (xs.take k)).add x) := by
        show _ = _; rw [List.take_succ_eq_append_getElem hlt]; unfold ofL; rw [List.foldl_append]; rw [← hxe]; simp [List.getD_eq_getElem?_getD, hlt]
      clear hxe
      generalize ofL (xs.take k) = s at *
      go_wp2_with fail
      refine (with_any s x _ HOK.out).mono ?_
      rintro e w1 ⟨rfl, hb1⟩
      have hs1 := HS.out.later hb1
      have hz1 := HZ.out.later hb1
      obtain ⟨g0, g1, k0, k1⟩ := hs1.sc
      have HS1 := Lib.hid hs1
      have HZ1 := Lib.hid hz1
      have HB1 := Lib.hid hb1
      clear hs1 hz1 hb1
      go_wp2
      go_roundw
      case rel => 
        refine ⟨k + 1, by omega, by go_num, ?_, ?_, ?_⟩
        · rw [HXE.out]; exact HS1.out.putSet _
        · exact (HZ1.out.other _ _ (by simp)).other _ _ (by simp)
        · exact ((HB.out.trans (HB1.out.mono HB.out.size)).setCell (by simp) _).setCell (by simp) _
      case measure => simp [intOf]; omega
    · have : k = xs.length := by omega
      subst this
      rw [List.take_length] at *
      go_wp2
      exact bodyPost_ret (v := stv (ofL xs)) (by simp [results, Tryz.results94, go_sem, d0, d1]) rfl ⟨rfl, (HB.out.setCell (Nat.le_refl _) _).setCell (Nat.le_refl _) _⟩
end Go.Proofs.YtkaojolofaanfaaGreatDoor

/- The walks of node.formed and node.Check. -/
namespace Go.Proofs.YtkaojolofaanfaaGreatDoor
open Go.RowKit Cen
set_option maxHeartbeats 400000
set_option maxRecDepth 100000

theorem insOk_any (ins : List Int) (b : Int) : insOk ins b = !(ins.any fun i => decide (i < 0) || decide (b ≤ i)) := by
  rw [insOk, List.not_any_eq_all_not]
  congr 1; funext i
  rw [Bool.eq_iff_iff]; simp

theorem formed_any (kind lit n before : Int) (a : Option Addr) (cap : Nat) (ins : List Int) (w : World) (hl : ins.length ≤ 1073741824) (hx : IntCells w a ins) :
    Calls Tryz.prog 115 #[.agg #[.int .i64 kind, .int .i64 lit, .slice a ins.length cap], .int .i64 n, .int .i64 before] w
      fun e w' => e = .returned (.bool (ndOk ⟨kind, lit, ins⟩ n before)) ∧ Below w.heap.size w w' := by
  have HI := Lib.hid (insOk_any ins before)
  have HX := Lib.hid hx
  have HE : Hid (((ins.length : Int) == 0) = decide (ins = [])) := by show _ = _; rw [Bool.eq_iff_iff]; simp
  have HF := fun (e : Bool) (h : (ins.any fun i => decide (i < 0) || decide (before ≤ i)) = e) =>
    fun (W : World) (hb : Below w.heap.size w W) (q : Addr) (hq : W.cell? q = some (.int .i64 before)) =>
      (containsFunc_any a cap ins 167 #[.pointer (some q)] (fun i => decide (i < 0) || decide (before ≤ i)) W hl (hx.keep hb)
        (fun x _ => formed1_any x before q W hq) callable_formed1).mono (R' := fun E w' => E = .returned (.bool e) ∧ W = w') (fun E w' ⟨h1, h2⟩ => ⟨by rw [h1, h], h2⟩)
  clear hx
  have hB : Below w.heap.size w ((w.alloc (.cells #[.int .i64 kind, .int .i64 lit, .slice a ins.length cap] 67)).alloc (.cells #[.int .i64 before] 3)) :=
    ((Below.refl _ _).alloc (Nat.le_refl _) _).alloc (by simp) _
  have HB := Lib.hid hB
  clear hB
  have HQ : Hid (((w.alloc (.cells #[.int .i64 kind, .int .i64 lit, .slice a ins.length cap] 67)).alloc (.cells #[.int .i64 before] 3)).cell? ⟨w.heap.size + 1, 0, none⟩ = some (.int .i64 before)) := by
    show _ = _
    rw [World.cell?_alloc_at _ _ _ _ (by simp)]; rfl
  cases hany : (ins.any fun i => decide (i < 0) || decide (before ≤ i))
  · have H2 := Lib.hid (HF false hany)
    have hr : ndOk ⟨kind, lit, ins⟩ n before = formOk ⟨kind, lit, ins⟩ n := by simp [ndOk, HI.out, hany]
    rw [hr]; clear hr hany HF
    by_cases k2 : kind = 2
    · subst k2
      cases hv : litOk lit n
      all_goals
        have H3 := Lib.hid (fun W => (litValid_any lit n W).mono (R' := fun E w' => E = .returned (.bool _) ∧ W = w') (fun E w' ⟨h1, h2⟩ => ⟨by rw [h1, hv], h2⟩))
        have HV := Lib.hid hv
        clear hv
        go_enter Tryz.func115, Tryz.ntmps115
        go_wp2_with (first | (go_at_call 103; refine (H2.out _ HB.out _ HQ.out).mono ?_; rintro e w' ⟨rfl, rfl⟩) | (go_at_call 112; refine (H3.out _).mono ?_; rintro e w' ⟨rfl, rfl⟩))
        go_ret
        exact ⟨ret_bool (by simp [formOk, HV.out]; try exact HE.out), HB.out⟩
    · have hk2 : (kind == 2) = false := by simpa using k2
      by_cases k0 : kind = 0 ∨ kind = 1 ∨ kind = 3 ∨ kind = 4
      · by_cases l0 : lit = 0
        · subst l0
          rcases k0 with rfl | rfl | rfl | rfl
          all_goals
            clear k2 hk2
            go_enter Tryz.func115, Tryz.ntmps115
            go_wp2_with (go_at_call 103; refine (H2.out _ HB.out _ HQ.out).mono ?_; rintro e w' ⟨rfl, rfl⟩)
            go_ret
            exact ⟨ret_bool (by simp [formOk]; try exact HE.out), HB.out⟩
        · have hl0 : (lit == 0) = false := by simpa using l0
          rcases k0 with rfl | rfl | rfl | rfl
          all_goals
            clear k2 hk2 l0
            go_enter Tryz.func115, Tryz.ntmps115
            go_wp2_with (go_at_call 103; refine (H2.out _ HB.out _ HQ.out).mono ?_; rintro e w' ⟨rfl, rfl⟩)
            go_ret
            exact ⟨ret_bool (by simp [formOk]; intro h; simp [h] at hl0), HB.out⟩
      · have h0 : (kind == 0) = false := by simp; omega
        have h1 : (kind == 1) = false := by simp; omega
        have h3 : (kind == 3) = false := by simp; omega
        have h4 : (kind == 4) = false := by simp; omega
        have hr : formOk ⟨kind, lit, ins⟩ n = false := by
          unfold formOk; simp only; rw [if_neg (by omega), if_neg (by omega), if_neg (by omega)]
        rw [hr]
        clear k2 k0 hr
        go_enter Tryz.func115, Tryz.ntmps115
        go_wp2_with (go_at_call 103; refine (H2.out _ HB.out _ HQ.out).mono ?_; rintro e w' ⟨rfl, rfl⟩)
        go_ret
        exact ⟨rfl, HB.out⟩
  · have H2 := Lib.hid (HF true hany)
    have hr : ndOk ⟨kind, lit, ins⟩ n before = false := by simp [ndOk, HI.out, hany]
    rw [hr]; clear hr hany HF
    go_enter Tryz.func115, Tryz.ntmps115
    go_wp2_with (go_at_call 103; refine (H2.out _ HB.out _ HQ.out).mono ?_; rintro e w' ⟨rfl, rfl⟩)
    go_ret
    exact ⟨rfl, HB.out⟩
end Go.Proofs.YtkaojolofaanfaaGreatDoor
