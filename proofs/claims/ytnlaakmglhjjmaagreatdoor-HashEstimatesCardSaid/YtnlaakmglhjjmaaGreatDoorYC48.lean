/- Parts of the proofs of laws. Texts: Kk, ArgU. -/
import Derived.Test.YtnlaakmglhjjmaaGreatDoorYC46
import Derived.Test.YtnlaakmglhjjmaaGreatDoorYC47
set_option maxHeartbeats 8000000
set_option maxRecDepth 100000
set_option linter.all false
namespace Go.Proofs.YtnlaakmglhjjmaaGreatDoor
open Go.RowKit Cen
theorem text2_any(x:Nat)(hx:x<=16777216)(w:World):Calls Tryz.prog 16 #[.agg #[.string (natB x)]] w fun e w'=>e=.returned (.string (decB x))/\Below w.heap.size w w':=by
 rw[natB_eq];exact gtext_any x (nB_mid hx) w
theorem nD_sm{x:Nat}(h:x<=256):nD x<=100000:=by
 unfold nD
 split
 ·decide
 exact Nat.le_trans (ndg_le (n:=3) (by decide) (by omega)) (by decide)
theorem est_bad(n:Int)(ta:Option Addr)(tc:Nat)(t:List Cl)(sa:Option Addr)(sc sl:Nat)(m:Int)(c:Int)(w:World)(hx:LsCells w ta t)(ht:t.length<=1073741824)(htl:∀c∈t,c.length<=1073741824)(hc:chkT n t=c)(h0:c≠0):
 Calls Tryz.prog 17 #[.agg #[.int .i64 n,.slice ta t.length tc],.slice sa sl sc,.int .i64 m] w (zls 0 c w):=by
 obtain⟨w0,hw0⟩:=nm ((w.alloc (.cells #[.int .i64 n,.slice ta t.length tc] 26)).alloc (.cells #[.string ⟨#[]⟩] 36))
 have hb0:Below w.heap.size w w0:=by rw[hw0];exact(ba _ _).alloc (by simp) _
 have q1:Blk w0 (w.heap.size+1) #[.string ⟨#[]⟩] 36:=by rw[hw0];exact Blk.new' _ (by simp) _ _
 have HCK:=lh (fun V(hV:Below w.heap.size w V)=>zbj n ta tc t V ht htl (hx.keep hV));rw[hc]at HCK;have HB0:=lh hb0;have HQ1:=lh q1;clear hb0 q1 hx ht htl hc;go_enter Tryz.func17,Tryz.ntmps17;go_wp2_with fail;rw[<-hw0];clear hw0;refine(HCK.o _ HB0.o).mono ?_;rintro e w1⟨rfl,hb1⟩;have HB1:=bt HB0 hb1;have HA1:=lh (HQ1.o.later hb1);clear hb1 HCK;have a0:=HA1.o.cell 0;have af:=HA1.o.fr 0;have al:=HA1.o.lt;go_wp2_with fail;have g0:=(HA1.o.set 0 (.string ⟨#[]⟩)).cell 0;exact bodyPost_ret (v:=.tuple #[.agg #[.string ⟨#[]⟩],.int .i64 c]) (by simp[results,Tryz.results17,go_sem,g0]) rfl ⟨rfl,HB1.o.setCell (show w.heap.size<=w.heap.size+1 by omega) _⟩
theorem est45_bad(n:Int)(ta:Option Addr)(tc:Nat)(t:List Cl)(sa:Option Addr)(sc sl:Nat)(m:Int)(c:Int)(w:World)(hx:LsCells w ta t)(ht:t.length<=1073741824)(hc:chkT n t=c)(h0:c≠0):
 Calls Tryz.prog 18 #[.agg #[.int .i64 n,.slice ta t.length tc],.slice sa sl sc,.int .i64 m] w (R45 ⟨#[48]⟩ c w):=by
 obtain⟨w0,hw0⟩:=nm (w.alloc (.cells #[.int .i64 n,.slice ta t.length tc] 26))
 have hb0:Below w.heap.size w w0:=by rw[hw0];exact ba _ _
 have q0:Blk w0 w.heap.size #[.int .i64 n,.slice ta t.length tc] 26:=by rw[hw0];exact Blk.new _ _ _
 have HCK:=lh (check5_all n ta tc t w0 ht (hx.keep hb0));rw[hc]at HCK;have HB0:=lh hb0;have k0:=q0.cell 0;have k1:=q0.cell 1;have kz:=q0.lt
 have hcd:(c==0)=false:=by simpa using h0
 clear hb0 q0 hx ht hc h0;go_enter Tryz.func18,Tryz.ntmps18;go_wp2_with fail;rw[<-hw0];clear hw0;refine HCK.o.mono ?_;rintro e w1⟨rfl,hb1⟩;have HB1:=bt HB0 hb1;clear hb1 k0 k1 kz;go_wp2;go_ret2;exact⟨rfl,HB1.o⟩
theorem est45_arg(n:Int)(ta:Option Addr)(tc:Nat)(t:List Cl)(sa:Option Addr)(sc:Nat)(bs:List Nat)(m:Int)(w:World)(hx:LsCells w ta t)(ht:t.length<=1073741824)(hc:chkT n t=0)(hl:bs.length<=1073741824)(hb:parsBad n m bs.length):
 Calls Tryz.prog 18 #[.agg #[.int .i64 n,.slice ta t.length tc],.slice sa bs.length sc,.int .i64 m] w (R45 ⟨#[48]⟩ 1 w):=by
 obtain⟨w0,hw0⟩:=nm (w.alloc (.cells #[.int .i64 n,.slice ta t.length tc] 26))
 have hb0:Below w.heap.size w w0:=by rw[hw0];exact ba _ _
 have q0:Blk w0 w.heap.size #[.int .i64 n,.slice ta t.length tc] 26:=by rw[hw0];exact Blk.new _ _ _
 have HCK:=lh (check5_all n ta tc t w0 ht (hx.keep hb0));rw[hc]at HCK;have HPB:=lh (fun V=>pars5_bad sa sc bs n m V hl hb);have HB0:=lh hb0;have HQ0:=lh q0;have k0:=q0.cell 0;have k1:=q0.cell 1;have kz:=q0.lt;clear hb0 q0 hx ht hc hl hb;go_enter Tryz.func18,Tryz.ntmps18;go_wp2_with fail;rw[<-hw0];clear hw0;refine HCK.o.mono ?_;rintro e w1⟨rfl,hb1⟩;have HB1:=bt HB0 hb1;have HT1:=lh (HQ0.o.later hb1);clear hb1 k0 k1 kz;have k0:=HT1.o.cell 0;have k1:=HT1.o.cell 1;have kz:=HT1.o.lt;go_wp2_with fail;refine(HPB.o _).mono ?_;rintro e w2⟨rfl,rfl⟩;clear k0 k1 kz;go_wp2
 go_ret2;exact⟨rfl,HB1.o⟩
theorem est45_good(n:Nat)(ta:Option Addr)(tc:Nat)(t:List Cl)(sa:Option Addr)(sc:Nat)(bs:List Nat)(m:Nat)(w:World)(hn:n<=8)(htk:tOk n t)(hx:LsCells w ta t)(hs:U8Cells w sa bs)(hbl:bs.length<=1073741824)(hm:m<=16)(h8:m*(n+1)<=8*bs.length):
 Calls Tryz.prog 18 #[.agg #[.int .i64 (n:Int),.slice ta t.length tc],.slice sa bs.length sc,.int .i64 (m:Int)] w (R45 (decB (cellT n t (zbr bs n m)*2^m)) 0 w):=by
 obtain⟨w0,hw0⟩:=nm (w.alloc (.cells #[.int .i64 (n:Int),.slice ta t.length tc] 26))
 have hb0:Below w.heap.size w w0:=by rw[hw0];exact ba _ _
 have q0:Blk w0 w.heap.size #[.int .i64 (n:Int),.slice ta t.length tc] 26:=by rw[hw0];exact Blk.new _ _ _
 have htle:=htk.len;have HCK:=lh (check5_any n ta tc t w0 (by omega) (fun c hc=>by have:=(htk.cl c hc).1;omega) (hx.keep hb0));rw[(zng (by omega)).2 htk]at HCK;have HPA:=lh (fun V(hV:Below w.heap.size w V)=>pars5_any sa sc bs n m V hbl (hs.keep hV) (by omega) hm h8);have hpl:(zbr bs n m).length=m:=zb8 bs n m
 have hv:val45 n t (zbr bs n m)=(decB (cellT n t (zbr bs n m)),0):=by
  unfold val45;rw[if_neg];rw[hpl,zvs (zvu bs n m) (zvt (by omega))]
  simp;omega
 have HCE:=lh (fun V(hV:Below w.heap.size w V)a c(hp:PrCells V a (zbr bs n m))=>cell45_good n ta tc t a c (zbr bs n m) V hn htk (hx.keep hV) (by omega) hp (zvu bs n m));rw[hv,hpl]at HCE;have hq:cellT n t (zbr bs n m)<=256:=Nat.le_trans (zfh _ _ _) (Nat.pow_le_pow_right (by decide) hn:2^n<=2^8);have HPL:=lh hpl
 have hpw:=fun V=>pow10_any m (by omega) V
 have hml:=fun V=>mul10_any (cellT n t (zbr bs n m)) (2^m) (nD_sm (by omega)) (nD_two m (by omega)) V
 generalize cellT n t (zbr bs n m)=q at*;generalize decB (q*2^m)=z at*;generalize decB (2^m)=P at*;generalize decB q=qs at*;have HPW:=lh hpw;have HML:=lh hml;have HB0:=lh hb0;have HQ0:=lh q0;have k0:=q0.cell 0;have k1:=q0.cell 1;have kz:=q0.lt;clear hb0 q0 hx htk htle hs hbl hm h8 hv hpl hq hpw hml;go_enter Tryz.func18,Tryz.ntmps18;go_wp2_with fail;rw[<-hw0];clear hw0;refine HCK.o.mono ?_;rintro e w1⟨rfl,hb1⟩;have HB1:=bt HB0 hb1;have HT1:=lh (HQ0.o.later hb1);clear hb1 k0 k1 kz HCK;have k0:=HT1.o.cell 0;have k1:=HT1.o.cell 1;have kz:=HT1.o.lt;go_wp2_with fail
 refine(HPA.o _ HB1.o).mono ?_;rintro e w2⟨ra,rc,rfl,ho2,hb2⟩;have hpc:=ho2.pc;rw[HPL.o]at ho2⊢;have HPC:=lh hpc;have HB2:=bt HB1 hb2;have HT2:=lh (HT1.o.later hb2);clear hb2 k0 k1 kz HPA ho2 hpc;have k0:=HT2.o.cell 0;have k1:=HT2.o.cell 1;have kz:=HT2.o.lt;go_wp2_with fail;refine(HCE.o _ HB2.o _ _ HPC.o).mono ?_;rintro e w3⟨rfl,hb3⟩;have HB3:=bt HB2 hb3;clear hb3 k0 k1 kz HCE;go_wp2_with fail;refine(HPW.o _).mono ?_;rintro e w4⟨rfl,hb4⟩;have HB4:=bt HB3 hb4;clear hb4;go_wp2_with fail;refine(HML.o _).mono ?_;rintro e w5⟨rfl,hb5⟩;have HB5:=bt HB4 hb5;clear hb5
 go_wp2;go_ret2;exact⟨rfl,HB5.o⟩
instance(n m:Int)(k:Nat):Decidable (parsBad n m k):=by unfold parsBad;infer_instance
def estV(n:Nat)(t:List Cl)(m:Int)(bs:List Nat):Nat×Bool:=if parsBad n m bs.length then(0,false)else(cellT n t (zbr bs n m.toNat)*2^m.toNat,true)
theorem dec_nil:decB 0=⟨#[48]⟩:=by unfold decB decL;rw[if_pos rfl]
theorem est_two(n:Nat)(a:Option Addr)(cap:Nat)(t:List Cl)(sa:Option Addr)(sc:Nat)(bs:List Nat)(m:Int)(V:World)(hn8:n<=8)(hc:chkT n t=0)(h60:t.length<=60/\∀c∈t,c.length<=140)(h300:bs.length<=300)(hx:LsCells V a t)(hs:U8Cells V sa bs)(htab:Tab V)(hdt:Dtab V):
 Calls Tryz.prog 17 #[.agg #[.int .i64 n,.slice a t.length cap],.slice sa bs.length sc,.int .i64 m] V (zls (estV n t m bs).1 (okE (estV n t m bs).2) V)/\
  Calls Tryz.prog 18 #[.agg #[.int .i64 n,.slice a t.length cap],.slice sa bs.length sc,.int .i64 m] V (R45 (decB (estV n t m bs).1) (okE (estV n t m bs).2) V)/\(estV n t m bs).1<=16777216:=by
 have htl:∀c∈t,c.length<=1073741824:=fun c hc=>by have:=h60.2 c hc;omega
 have htk:tOk n t:=(zng (by omega)).1 hc
 by_cases hbad:parsBad n m bs.length
 ·have e:estV n t m bs=(0,false):=if_pos hbad;rw[e];refine⟨est_refuse n a cap t sa sc bs m V hx (by omega) htl hc (by omega) hbad,?_,by decide⟩;rw[dec_nil];exact est45_arg n a cap t sa sc bs m V hx (by omega) hc (by omega) hbad
 have e:estV n t m bs=(cellT n t (zbr bs n m.toNat)*2^m.toNat,true):=if_neg hbad;rw[e]
 have hnb:0<=m/\m<=16/\m*((n:Int)+1)<=8*(bs.length:Int):=by unfold parsBad at hbad;omega
 obtain⟨g3,g4,g5⟩:=hnb;obtain⟨M,rfl⟩:=Int.eq_ofNat_of_zero_le g3;rw[Int.toNat_natCast]
 have g6:M*(n+1)<=8*bs.length:=by
  have e:((M*(n+1):Nat):Int)=(M:Int)*((n:Int)+1):=by push_cast;rfl
  omega
 have hg:Gdt n t []:=⟨by omega,by omega,fun c hc=>(htk.cl c hc).1,by unfold zc3;rw[if_neg (by rw[hc];simp),if_neg (by simp)]⟩
 have hq:cellT n t (zbr bs n M)<=256:=Nat.le_trans (zfh _ _ _) (Nat.pow_le_pow_right (by decide) hn8:2^n<=2^8);have h2m:2^M<=65536:=Nat.le_trans (Nat.pow_le_pow_right (by decide) (by omega)) (by decide:2^16<=65536)
 exact⟨zuf n a cap t sa sc bs M _ V hg hx hs (by omega) (by omega) g6 (zvs (zvu bs n M) (zvt (by omega))) (zr7 hg hn8 _ (zvu bs n M) (zvt (by omega)) _) (by omega) htab hdt,
  est45_good n a cap t sa sc bs M V hn8 htk hx hs (by omega) (by omega) g6,Nat.mul_le_mul hq h2m⟩
theorem light45_is{z:Int}{t:List Cl}(h5:lgt45 z t=true):(t.length<=60/\∀c∈t,c.length<=140)/\(chkT z t=0->∃n:Nat,z=n/\n<=8):=by
 unfold lgt45 at h5;rw[Bool.and_eq_true]at h5;obtain⟨hl5,h5⟩:=h5;refine⟨?_,fun hc=>?_⟩
 ·unfold zdz at hl5;simp only[Bool.and_eq_true,List.all_eq_true,decide_eq_true_eq]at hl5;exact⟨hl5.2,hl5.1⟩
 have hz:0<=z/\z<=128:=Classical.byContradiction fun h=>by
  unfold chkT at hc;rw[if_pos (by omega)]at hc;simp at hc
 have hz8:z<=8:=by rw[hc]at h5;simpa using h5
 obtain⟨n,rfl⟩:=Int.eq_ofNat_of_zero_le hz.1;exact⟨n,rfl,by omega⟩
theorem ests_both(z:Int)(a:Option Addr)(cap:Nat)(t:List Cl)(sa:Option Addr)(sc:Nat)(bs:List Nat)(m:Int)(w:World)(h5:lgt45 z t=true)(h300:bs.length<=300)(hx:LsCells w a t)(hs:U8Cells w sa bs)(htab:Tab w)(hdt:Dtab w):
 ∃(Q:Nat)(c:Int),Q<=16777216/\(∀V,Below w.heap.size w V->Calls Tryz.prog 17 #[.agg #[.int .i64 z,.slice a t.length cap],.slice sa bs.length sc,.int .i64 m] V (zls Q c V))/\
  ∀V,Below w.heap.size w V->Calls Tryz.prog 18 #[.agg #[.int .i64 z,.slice a t.length cap],.slice sa bs.length sc,.int .i64 m] V (R45 (decB Q) c V):=by
 obtain⟨h60,hz⟩:=light45_is h5
 by_cases hc:chkT z t=0
 ·obtain⟨n,rfl,hn8⟩:=hz hc
  have h:=fun V(hV:Below w.heap.size w V)=>est_two n a cap t sa sc bs m V hn8 hc h60 h300 (hx.keep hV) (hs.keep hV) (htab.keep hV) (hdt.keep hV)
  exact⟨_,_,(h w (Below.refl _ _)).2.2,fun V hV=>(h V hV).1,fun V hV=>(h V hV).2.1⟩
 refine⟨0,chkT z t,by decide,fun V hV=>est_bad z a cap t sa sc bs.length m (chkT z t) V (hx.keep hV) (by omega) (fun c hc=>by have:=h60.2 c hc;omega) rfl hc,fun V hV=>?_⟩;rw[dec_nil];exact est45_bad z a cap t sa sc bs.length m (chkT z t) V (hx.keep hV) (by omega) rfl hc
theorem hests_any(z:Int)(a:Option Addr)(cap:Nat)(t:List Cl)(sa:Option Addr)(sc:Nat)(bs:List Nat)(m:Int)(w:World)(hl:t.length<=9223372036854775807)(hx:LsCells w a t)(hll:bs.length<=9223372036854775807)(hs:U8Cells w sa bs)(htab:Tab w)(hdt:Dtab w):
 Calls Tryz.prog 5 #[.agg #[.int .i64 z,.slice a t.length cap],.slice sa bs.length sc,.int .i64 m] w fun e w'=>e=.returned (.bool true)/\Below w.heap.size w w':=by
 obtain⟨w0,hw0⟩:=nm (w.alloc (.cells #[.int .i64 z,.slice a t.length cap] 26))
 have hb0:Below w.heap.size w w0:=by rw[hw0];exact ba _ _
 have q0:Blk w0 w.heap.size #[.int .i64 z,.slice a t.length cap] 26:=by rw[hw0];exact Blk.new _ _ _
 have HLI:=lh (light45_any z a cap t w0 hl (hx.keep hb0));have HWK:=lh (fun V(hV:Below w.heap.size w V)=>zfz V (htab.keep hV) (hdt.keep hV));have HB0:=lh hb0;have HQ0:=lh q0;have k0:=q0.cell 0;have k1:=q0.cell 1;have kz:=q0.lt
 by_cases hc:lgt45 z t=true/\bs.length<=300
 case' neg=>
  cases hlt:lgt45 z t
  case' true=>
   have h20:(300:Int)<(bs.length:Int):=by
    have:¬bs.length<=300:=fun h=>hc ⟨hlt,h⟩
    omega
  all_goals
   rw[hlt]at HLI;clear hb0 q0 hx hl hlt hll hs htab hdt hc;go_enter Tryz.func5,Tryz.ntmps5;go_wp2_with fail;rw[<-hw0];clear hw0;refine HLI.o.mono ?_;rintro e w1⟨rfl,hb1⟩;have HB1:=bt HB0 hb1;clear hb1 k0 k1 kz;go_wp2_with fail;refine(HWK.o _ HB1.o).mono ?_;rintro e w2⟨rfl,hb2⟩;go_wp2;go_ret;exact⟨rfl,HB1.o.trans (hb2.mono HB1.o.size)⟩
 obtain⟨hlt,h20⟩:=hc;obtain⟨Q,c,hQ,hca,hcb⟩:=ests_both z a cap t sa sc bs m w hlt h20 hx hs htab hdt;have HCA:=lh hca;have HCB:=lh hcb;have HTX:=lh (fun V=>text2_any Q hQ V)
 have h20i:¬(300:Int)<(bs.length:Int):=by omega
 rw[hlt]at HLI;clear hb0 q0 hx hl hlt hll hs htab hdt hca hcb hQ h20;go_enter Tryz.func5,Tryz.ntmps5;go_wp2_with fail;rw[<-hw0];clear hw0;refine HLI.o.mono ?_;rintro e w1⟨rfl,hb1⟩;have HB1:=bt HB0 hb1;have HQ1:=lh (HQ0.o.later hb1);clear hb1 k0 k1 kz HLI HB0 HQ0;have k0:=HQ1.o.cell 0;have k1:=HQ1.o.cell 1;have kz:=HQ1.o.lt;go_wp2_with fail;refine(HCA.o _ HB1.o).mono ?_;rintro e w2⟨rfl,hb2⟩;have HB2:=bt HB1 hb2;have HQ2:=lh (HQ1.o.later hb2);clear hb2 k0 k1 kz HQ1 HB1 HCA;obtain⟨nb,hnb⟩:=nm w2.heap.size;obtain⟨w3,hw3⟩:=nm (w2.alloc (.cells #[.string (natB Q)] 36))
 have hb3:Below w2.heap.size w2 w3:=by rw[hw3];exact ba _ _
 have q3:Blk w3 nb #[.string (natB Q)] 36:=by rw[hw3,hnb];exact Blk.new _ _ _
 have HB3:=bt HB2 hb3;have HQ3:=lh (HQ2.o.later hb3);have HN3:=lh q3
 go_upto_region 4 with fail
 rw[<-hw3,<-hnb];clear hw3 hnb hb3 q3 HQ2 HB2;have k0:=HQ3.o.cell 0;have k1:=HQ3.o.cell 1;have kz:=HQ3.o.lt;go_wp2_with fail;refine(HCB.o _ HB3.o).mono ?_;rintro e wx⟨rfl,hbx⟩;have HBX:=bt HB3 hbx;have q4:=HN3.o.later hbx;have n0:=q4.cell 0;have nz:=q4.lt;clear hbx k0 k1 kz;go_wp2_with fail;refine(HTX.o _).mono ?_;rintro e w5⟨rfl,hb5⟩;have HB5:=bt HBX hb5;clear hb5 n0 nz q4;go_wp2_with fail;refine(HWK.o _ HB5.o).mono ?_;rintro e w6⟨rfl,hb6⟩;go_wp2;go_ret;exact⟨rfl,HB5.o.trans (hb6.mono HB5.o.size)⟩
end Go.Proofs.YtnlaakmglhjjmaaGreatDoor
namespace Go.Proofs.YtnlaakmglhjjmaaGreatDoor
open Go.Joins Go.ChangeShapes Go.WideShapes Go.ChangeAt Go.Deep Go.RowKit Cen
section
variable{H:Type}{enc:TypeId×Value->H}{W:World}{base:Nat}{spare:Nat->Bool}{held:Bool}
theorem open_u8{fuel:Nat}{v:Value}{x:DataW H×List MemPlace}(h:DataW.trod enc Tryz.prog W base spare held fuel 50 [v]=some x):
 ∃(a:Option Addr)(l:List Nat)(cap:Nat),v=.slice a l.length cap/\l.length<=9223372036854775807/\U8Cells W a l:=by
 rcases open_ints Tryz.underlying50 Tryz.underlying5 (by kernel_rfl) h with⟨hcs,_⟩|⟨a,len,cap,zs,hcs,_,hl,hm,hz,_,hc,hw⟩
 ·simp only[List.cons.injEq,and_true]at hcs;exact⟨none,[],0,hcs,by simp,fun i hi=>absurd hi (Nat.not_lt_zero _)⟩
 simp only[List.cons.injEq,and_true]at hcs
 have hlz:len<=zs.length:=by rw[hz];split<;>omega
 have hlt:(zs.take len).length=len:=by simp;omega
 have hlm:((zs.take len).map Int.toNat).length=len:=by rw[List.length_map,hlt]
 refine⟨some a,(zs.take len).map Int.toNat,cap,by rw[hlm];exact hcs,?_,fun i hi=>?_⟩
 ·rw[hlm];have:maxLen=9223372036854775807:=rfl;omega
 rw[hlm]at hi
 have hiz:i<zs.length:=by omega
 have hb:=zyz (hw (zs[i]) (List.getElem_mem hiz))
 have e:((zs.take len).map Int.toNat).getD i 0=(zs[i]).toNat:=by
  simp[List.getD_eq_getElem?_getD,hi,List.getElem?_eq_getElem hiz]
 have ea:=zv5 (hc 0 (by omega));have hci:=zts (hc i (by omega))
 have eg:zs.getD i 0=zs[i]:=by simp[List.getD_eq_getElem?_getD,List.getElem?_eq_getElem hiz]
 rw[eg]at hci;refine⟨a.block,a.off,by rw[<-ea],?_,by rw[e];omega⟩;rw[e,Int.toNat_of_nonneg hb.1];exact hci
theorem open_u8s{r:Reach}{b0:Nat}{v:Value}{d:DataW H}{p:List MemPlace}(hv:Value.okWide Tryz.prog W r b0 50 v)(h:DataW.Trod enc Tryz.prog W base spare held 50 v d p):
 ∃(a:Option Addr)(l:List Nat)(cap:Nat),v=.slice a l.length cap/\l.length<=9223372036854775807/\U8Cells W a l:=by
 obtain⟨a0,la,ca,rfl⟩:=okWide_slice Tryz.underlying50 hv;obtain⟨fuel,hf⟩:=h;exact open_u8 (v:=.slice a0 la ca) hf
end
end Go.Proofs.YtnlaakmglhjjmaaGreatDoor
