/- Part of the proofs that laws return true for every input, where the tables that the rows list are laid. Texts: Fd, Fe, Ho. -/
import Derived.Test.YtflhbcnhaeijbaaGreatDoorYH27
import Derived.Test.YtflhbcnhaeijbaaGreatDoorYH29
import Derived.Test.YtflhbcnhaeijbaaGreatDoorYH28
import Derived.Test.YtflhbcnhaeijbaaGreatDoorYH1
import Derived.Test.YtflhbcnhaeijbaaGreatDoorYH2
import Derived.Outline
import Derived.Deep.RegionHeld3
import Derived.Test.YtflhbcnhaeijbaaGreatDoorYH3
import Derived.Test.YtflhbcnhaeijbaaGreatDoorYH6
import Derived.Test.YtflhbcnhaeijbaaGreatDoorYH9
import Derived.BigQuiet
import Derived.Test.YtflhbcnhaeijbaaGreatDoorYH15
import Derived.Test.YtflhbcnhaeijbaaGreatDoorYH36
import Derived.Test.YtflhbcnhaeijbaaGreatDoorYH32
set_option maxHeartbeats 8000000
set_option maxRecDepth 100000
set_option linter.unusedSimpArgs false
set_option linter.unusedVariables false
namespace Go.Proofs.YtflhbcnhaeijbaaGreatDoor
open Go.RowKit Cen
theorem zxb {n : Nat} {T : Cl} (h : gT n T) : T.length <= 129 := by
 have := zcj (l := T.map zac) (b := 129) (by show List.Pairwise _ _; rw [List.pairwise_map]; exact h.nd) (fun i hi => by
  obtain ⟨x, _, rfl⟩ := List.mem_map.1 hi;unfold zac
  split
  ·omega
  split <;> omega)
 simpa using this
theorem zs8 {ch : List Cl -> Int} {n : Nat} {t : List Cl} {cache : Bool} (hn : n <= 128) (hch : Chooses ch n) (ht : tOk n t) {i : Nat} {c : Nc} {l : List Cl} {term : Cl} (hc : (zae ch cache n t)[i]? = some c) (htag : c.tag = some (l, term)) : gT n term /\ l.length <= 4096 := by
 have hal : (zab n t).length <= 4096 := Nat.le_trans (zbx n t) ht.len
 by_cases h0 : zab n t = []
 ·rw [zbf h0] at hc;have := List.mem_of_getElem? hc;simp only [List.mem_singleton] at this;subst this;simp only [Option.some.injEq, Prod.mk.injEq] at htag;obtain ⟨rfl, rfl⟩ := htag;exact ⟨gT.nil n, by simp⟩
 have hC := core hn hch ht cache
 have hcore : ∀ (i : Nat) (c : Nc), (zao ch cache (zab n t)).1[i]? = some c -> c.tag = some (l, term) -> gT n term /\ l.length <= 4096 := fun i c hc htag => ⟨(hC.inv.tg i c l term hc htag).1, zsd hn hch ht ⟨c, term, hc, htag⟩⟩
 cases hr : zct (zao ch cache (zab n t)) (zab n t) with
 | true =>
   rw [zce h0 hr, List.getElem?_append] at hc
   split at hc
   ·exact hcore i c hc htag
   have := List.mem_of_getElem? hc;simp only [List.mem_singleton] at this;subst this;simp only [Option.some.injEq, Prod.mk.injEq] at htag;obtain ⟨rfl, rfl⟩ := htag;exact ⟨gT.nil n, hal⟩
 | false =>
   rw [zcf h0 hr, List.getElem?_set] at hc
   split at hc
   ·split at hc
    ·obtain rfl := (Option.some.inj hc).symm;simp only [Option.some.injEq, Prod.mk.injEq] at htag;obtain ⟨rfl, rfl⟩ := htag;exact ⟨gT.nil n, hal⟩
    simp at hc
   exact hcore i c hc htag
theorem zs4 {ch : List Cl -> Int} {n : Nat} {t : List Cl} {cache : Bool} (hn : n <= 12) (hch : Chooses ch n) (ht : tOk n t) : (zae ch cache n t).length <= 20000 := by
 have h1 := (zky (cache := cache) (show n <= 128 by omega) hch ht).1;have hg := za2 (show n <= 128 by omega) ht.rg
 have h3 := zm2 (show n <= 128 by omega) (l := zab n t) fun c hc x hx => (hg.gc c hc).rg x hx
 have h4 := zwz (show card (zaf (zab n t)) <= 12 by omega);have h5 : FB 12 = 16381 := rfl;omega
def zwx (ch : List Cl -> Int) (cache : Bool) (n : Nat) (t : List Cl) (C : List Clm) : Prop :=
 ∀ (i : Nat) (c : Nc), (zae ch cache n t)[i]? = some c -> match c.tag with | none => C.getD i ⟨[], []⟩ = ⟨[], []⟩ | some (l, term) => ∃ a, C.getD i ⟨[], []⟩ = ⟨term, a⟩ /\ ClOf n t l term a
theorem zv2 {ch : List Cl -> Int} {n : Nat} {t : List Cl} {cache : Bool} (hn : n <= 12) (hch : Chooses ch n) (ht : tOk n t) {C : List Clm} (hC : C.length = (zae ch cache n t).length) (hcl : zwx ch cache n t C) :
 PfB ⟨n, t, nds (zae ch cache n t), C⟩ /\ ∀ i, i < (nds (zae ch cache n t)).length -> Prf.node ⟨n, t, nds (zae ch cache n t), C⟩ i := by
 have hn2 : n <= 128 := by omega
 have hfew := zs4 (cache := cache) hn hch ht;refine ⟨⟨⟨hn2, ht, zs7 (n := n) (t := t) (cache := cache) hn2 hch ht (by omega), by simp only [za5]; exact hC, fun c hc => ?_⟩, zoe hn2 hch ht⟩, ?_⟩
 ·obtain ⟨i, hi, rfl⟩ := List.getElem_of_mem hc;simp only at hi ⊢
  have hgd : C[i] = C.getD i ⟨[], []⟩ := by simp [List.getD_eq_getElem?_getD, hi]
  have hci : (zae ch cache n t)[i]? = some ((zae ch cache n t)[i]'(by omega)) := List.getElem?_eq_getElem (by omega);have h1 := hcl i _ hci;rw [hgd]
  split at h1
  ·rw [h1]; simp
  rename_i l term htag
  obtain ⟨a, e, hcl2⟩ := h1;have h2 := zs8 hn2 hch ht hci htag;rw [e];obtain ⟨m, h3, h4, _⟩ := hcl2
  have h5 : a.length = l.length := by
   rw [h3, <- h4]; simp [zcu]
  have := zxb h2.1;exact ⟨by simp only; omega, by simp only; omega⟩
 exact zqv (p := ⟨n, t, nds (zae ch cache n t), C⟩) hn2 hch ht rfl rfl rfl fun i c l term hci htag => by
  have h1 := hcl i c hci;rw [htag] at h1;exact h1
structure Gdt (n : Nat) (t : List Cl) (order : List Int) : Prop where
 n9 : n <= 9
 tl : t.length <= 40
 cl : ∀ c ∈ t, c.length <= 10
 ck : za0 n t order = 0
theorem Gdt.ct {n : Nat} {t : List Cl} {order : List Int} (h : Gdt n t order) : chkT n t = 0 := by
 have := h.ck;unfold za0 at this
 split at this
 ·exact absurd this (by assumption)
 rename_i h; simpa using h
theorem Gdt.tok {n : Nat} {t : List Cl} {order : List Int} (h : Gdt n t order) : tOk n t := (zbu (by have := h.n9; omega)).1 h.ct
theorem Gdt.ol {n : Nat} {t : List Cl} {order : List Int} (h : Gdt n t order) : order.length <= n := by
 have := h.ck;unfold za0 at this
 split at this
 ·exact absurd this (by assumption)
 split at this
 ·simp at this
 rename_i h2
 refine Classical.byContradiction fun h3 => h2 ⟨by omega, .inl ?_⟩
 omega
structure CRes (n : Nat) (t : List Cl) (order : List Int) (o1 o2 : Bool) (B : Nat) (w : World) (na : Option Addr) (nc : Nat) (ca : Option Addr) (cc : Nat) (N : List Nd) (C : List Clm) : Prop where
 eqN : N = nds (zae (chF order o1 n) o2 n t)
 cl : zwx (chF order o1 n) o2 n t C
 len : C.length = N.length
 n : NdCells w na N
 cp : NdCap w na N
 c : CmCells w ca C
 mem : ∃ L : List Me, CpMem w B (.slice na L.length nc) (.slice ca L.length cc) L /\ nds (L.map fun e => e.c) = N /\ clms L = C
section
variable {n : Nat} {t : List Cl} {order : List Int} {o1 o2 : Bool} {B : Nat} {w : World} {na : Option Addr} {nc : Nat} {ca : Option Addr} {cc : Nat} {N : List Nd} {C : List Clm}
theorem CRes.pf (h : CRes n t order o1 o2 B w na nc ca cc N C) (hg : Gdt n t order) : PfB ⟨n, t, N, C⟩ /\ ∀ i, i < N.length -> Prf.node ⟨n, t, N, C⟩ i := by
 have h9 := hg.n9;have := zv2 (ch := chF order o1 n) (cache := o2) (show n <= 12 by omega) (ze3 (by omega)) hg.tok (by have := h.len; rw [h.eqN, za5] at this; exact this) h.cl;rw [<- h.eqN] at this;exact this
theorem CRes.ok (h : CRes n t order o1 o2 B w na nc ca cc N C) (hg : Gdt n t order) : zdi ⟨n, N⟩ = true := (h.pf hg).1.ok.N
end
def zwv (n : Nat) (t : List Cl) (order : List Int) (o1 o2 : Bool) (w : World) (e : Ending) (w' : World) : Prop :=
 ∃ (na : Option Addr) (nc : Nat) (ca : Option Addr) (cc : Nat) (N : List Nd) (C : List Clm), e = .returned (.tuple #[.agg #[.int .i64 (n : Int), .slice na N.length nc], .slice ca N.length cc, .int .i64 0]) /\ CRes n t order o1 o2 w.heap.size w' na nc ca cc N C /\ Below w.heap.size w w'
theorem zxj {w : World} (h : Tab w) : 1 < w.heap.size := by
 have := h.cell (g := 1) (by kernel_rfl) 0 (by decide +kernel);exact zak this
theorem zhd (n : Nat) (a : Option Addr) (cap : Nat) (t : List Cl) (oa : Option Addr) (oc : Nat) (order : List Int) (o1 o2 : Bool) (w : World) (hg : Gdt n t order) (hx : LsCells w a t) (ho : IntCells w oa order) (htab : Tab w) :
 Calls Tryz.prog 23 #[.agg #[.int .i64 (n : Int), .slice a t.length cap], .agg #[.slice oa order.length oc, .bool o1, .bool o2]] w (zwv n t order o1 o2 w) := by
 have h9 := hg.n9;have htl := hg.tl;have hol := hg.ol;refine (zqu n (by omega) a cap t oa oc order o1 o2 w (by omega) (fun c hc => ⟨by have := hg.cl c hc; omega, hg.tok.rg c hc⟩) hx (by omega) ho hg.ck hg.tok htab (zxj htab)).mono ?_;rintro e w' ⟨na, nc, ca, cc, C, L, rfl, hC, hN, hcap, hcm, hmem, hL1, hL2, hb, hcl⟩;refine ⟨na, nc, ca, cc, nds (zae (chF order o1 n) o2 n t), C, by rw [za5], ⟨rfl, hcl, by rw [za5]; exact hC, hN, hcap, hcm, L, hmem, hL1, hL2⟩, hb⟩
def subK (rows : List Pr) (s : Nat) : Nat -> Pr
 | 0 => Pr.zero
 | k + 1 => if s / 2 ^ k % 2 = 1 then sumP (subK rows s k) (rows.getD k Pr.zero) else subK rows s k
def swapC (o : Bool) (c : Ct) : Ct := if o then ⟨c.o, c.e⟩ else c
def cellA (N : Nat) (L : List Nd) (rows : List Pr) : Nat -> Option Ct
 | 0 => some ⟨0, 0⟩
 | t + 1 => (cellA N L rows t).bind fun a => (countO N L (subK rows t rows.length).v).bind fun y =>
   if a.e + (swapC (subK rows t rows.length).odd y).e <= 256 /\ a.o + (swapC (subK rows t rows.length).odd y).o <= 256 then some ⟨a.e + (swapC (subK rows t rows.length).odd y).e, a.o + (swapC (subK rows t rows.length).odd y).o⟩ else none
def cellO (N : Nat) (L : List Nd) (l : List Pr) : Option Nat :=
 if (reducedF l).2 = true then (cellA N L (reducedF l).1 (2 ^ (reducedF l).1.length)).bind fun a => if a.o <= a.e /\ (reducedF l).1.length <= 8 then some ((a.e - a.o) / 2 ^ (reducedF l).1.length) else none
 else some 0
def samT : List Cl := [[1, 2], [-1, 3]]
def samN : List Nd := nds (zae (chF [] false 3) false 3 samT)
theorem sam_gd : Gdt 3 samT [] := ⟨by decide, by decide, by decide, by decide +kernel⟩
theorem sam_none : cellO 3 samN [] = some 4 := by decide +kernel
theorem sam_b : cellO 3 samN [⟨⟨3, 0⟩, false⟩] = some 1 := by decide +kernel
theorem sam_c : cellO 3 samN [⟨St.zero, true⟩] = some 0 := by decide +kernel
theorem sam_w : cellO 3 samN [⟨⟨3, 0⟩, true⟩, ⟨⟨4, 0⟩, true⟩] = some 2 := by decide +kernel
theorem sam_p : parsF [193] 3 2 = [⟨⟨3, 0⟩, false⟩, ⟨St.zero, true⟩] := by decide +kernel
theorem sam_e1 : cellO 3 samN (parsF [192] 3 1) = some 1 := by decide +kernel
theorem sam_e2 : cellO 3 samN (parsF [208] 3 1) = some 3 := by decide +kernel
theorem sam_e3 : cellO 3 samN (parsF [16] 3 1) = some 0 := by decide +kernel
end Go.Proofs.YtflhbcnhaeijbaaGreatDoor
