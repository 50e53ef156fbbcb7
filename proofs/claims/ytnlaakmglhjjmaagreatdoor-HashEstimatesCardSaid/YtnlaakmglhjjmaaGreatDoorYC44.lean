/- Parts of the proofs of laws. Texts: Ke, Hj, Ht. -/
import Derived.Test.YtnlaakmglhjjmaaGreatDoorYC40
import Derived.Test.YtnlaakmglhjjmaaGreatDoorYC43
set_option maxHeartbeats 8000000
set_option maxRecDepth 100000
set_option linter.all false
namespace Go.Proofs.YtnlaakmglhjjmaaGreatDoor
open Go.RowKit Cen
theorem assign5b_any(s:St)(n:Nat)(b:Bool)(w:World)(hn1:n<=128)(hs:s.ok)(hb:b=true↔∀v:Int,s.mem v=true->v<=n):
 Calls Tryz.prog 39 #[.agg #[.int .u64 (s.a:Int),.int .u64 (s.b:Int)],.int .i64 (n:Int)] w fun e w'=>e=.returned (.bool b)/\Below w.heap.size w w':=by
 have hb0:Below w.heap.size w (w.alloc (.cells #[.int .u64 (s.a:Int),.int .u64 (s.b:Int)] 29)):=ba _ _;have HB0:=lh hb0;have Q0:=lh (Blk.new w #[.int .u64 (s.a:Int),.int .u64 (s.b:Int)] 29);have HH:=lh (fun v V=>has5_any s v V hs);have HSB:=lh hb;unfold stv at HH;clear hb0 hb hs;go_enter Tryz.func39,Tryz.ntmps39;go_wp2_with fail;generalize w.alloc (.cells #[.int .u64 (s.a:Int),.int .u64 (s.b:Int)] 29)=w0 at*
 go_loopw[5](fun i wr=>∃v:Int,n+1<=v/\v<=129/\i=.int .i64 v/\(∀u:Int,(n:Int)<u->u<v->s.mem u=false)/\Below w0.heap.size w0 wr)(fun i _=>129-(intOf i).toNat)
 case atStart=>exact⟨n+1,by omega,by omega,rfl,fun u h1 h2=>absurd h2 (by omega),Below.refl _ _⟩
 obtain⟨v,hv1,hv2,rfl,hno,hb⟩:=hrel;have HB:=lh hb;have HNO:=lh hno;have HBW:=bt HB0 hb;have q:=Q0.o.later hb;have c0:=q.cell 0;have c1:=q.cell 1;have z0:=q.lt;clear hb q hno
 by_cases hlt:v<=128
 ·have HV:=lh (HH.o v)
  have hv0:0<=v:=by omega
  cases hm:s.mem v with
  |true=>
    rw[hm]at HV
    have hbf:b=false:=by
     cases hb:b with
     |false=>rfl
     |true=>have:=HSB.o.1 hb v hm;omega
    subst hbf;clear hm HSB HNO;go_wp2_with fail;refine(HV.o _).mono ?_;rintro e w1⟨rfl,hb1⟩;have HB1:=bt HBW hb1;clear hb1;go_wp2;go_ret;exact⟨rfl,HB1.o⟩
  |false=>
    rw[hm]at HV
    have HN2:Hid (∀u:Int,(n:Int)<u->u<v+1->s.mem u=false):=fun u h1 h2=>by
     by_cases e:u=v
     ·rw[e];exact hm
     exact HNO.o u h1 (by omega)
    clear hm HNO;go_wp2_with fail;refine(HV.o _).mono ?_;rintro e w1⟨rfl,hb1⟩;have HB1:=bt HB hb1;clear hb1;go_wp2;go_roundw
    case rel=>exact⟨v+1,by omega,by omega,rfl,HN2.o,HB1.o⟩
    case measure=>simp[intOf];omega
 have hv:v=129:=by omega
 subst hv
 have hbt:b=true:=HSB.o.2 fun u hu=>by
  have hr:=zg8 hu
  refine Classical.byContradiction fun h=>?_
  have:=HNO.o u (by omega) (by omega);rw[hu]at this;simp at this
 subst hbt;clear HSB HNO;go_wp2;go_ret;exact⟨rfl,HBW.o⟩
theorem OwnL.sets{w:World}{base:Nat}{M:List St}{a:Option Addr}{c:Nat}(h:OwnL stk 29 2 w base (.slice a M.length c) M):∀k(hk:k<M.length),∃b off,a=some ⟨b,off,none⟩/\w.cell? ⟨b,off+k*2,none⟩=some (.int .u64 ((M[k]).a:Int))/\w.cell? ⟨b,off+k*2+1,none⟩=some (.int .u64 ((M[k]).b:Int)):=fun k hk=>by
 rcases h.shape with⟨_,h2⟩|⟨g,cap,h1,_⟩
 ·subst h2;simp at hk
 simp only[Value.slice.injEq]at h1;obtain⟨rfl,_,_⟩:=h1;have c0:=OwnL.cell rfl h stk_len k 0 hk (by omega);have c1:=OwnL.cell rfl h stk_len k 1 hk (by omega);simp only[stk,Nat.add_zero,List.getElem?_cons_zero,List.getElem?_cons_succ]at c0 c1;exact⟨g,0,rfl,by rw[Nat.zero_add];exact c0,by rw[Nat.zero_add];exact c1⟩
theorem cell45_bad(n:Int)(ta:Option Addr)(tc:Nat)(t:List Cl)(la:Option Addr)(lc ll:Nat)(c:Int)(w:World)(hx:LsCells w ta t)(ht:t.length<=1073741824)(hc:chkT n t=c)(h0:c≠0):
 Calls Tryz.prog 14 #[.agg #[.int .i64 n,.slice ta t.length tc],.slice la ll lc] w (R45 ⟨#[48]⟩ c w):=by
 obtain⟨w0,hw0⟩:=nm (w.alloc (.cells #[.int .i64 n,.slice ta t.length tc] 26))
 have hb0:Below w.heap.size w w0:=by rw[hw0];exact ba _ _
 have q0:Blk w0 w.heap.size #[.int .i64 n,.slice ta t.length tc] 26:=by rw[hw0];exact Blk.new _ _ _
 have HCK:=lh (check5_all n ta tc t w0 ht (hx.keep hb0));rw[hc]at HCK;have HB0:=lh hb0;have k0:=q0.cell 0;have k1:=q0.cell 1;have kz:=q0.lt
 have hcd:(c==0)=false:=by simpa using h0
 clear hb0 q0 hx ht hc h0;go_enter Tryz.func14,Tryz.ntmps14;go_wp2_with fail;rw[<-hw0];clear hw0;refine HCK.o.mono ?_;rintro e w1⟨rfl,hb1⟩;have HB1:=bt HB0 hb1;clear hb1 k0 k1 kz;go_wp2;go_ret2;exact⟨rfl,HB1.o⟩
def val45(n:Nat)(t:List Cl)(l:List Pr):ByteArray×Int:=if 16<l.length\/l.any (outP n)=true then(⟨#[48]⟩,1)else(decB (cellT n t l),0)
theorem cell45_good(n:Nat)(ta:Option Addr)(tc:Nat)(t:List Cl)(la:Option Addr)(lc:Nat)(l:List Pr)(w:World)(hn:n<=8)(htk:tOk n t)(hx:LsCells w ta t)(hl:l.length<=20)(hp:PrCells w la l)(hok:∀p∈l,p.ok):
 Calls Tryz.prog 14 #[.agg #[.int .i64 (n:Int),.slice ta t.length tc],.slice la l.length lc] w (R45 (val45 n t l).1 (val45 n t l).2 w):=by
 obtain⟨w0,hw0⟩:=nm (w.alloc (.cells #[.int .i64 (n:Int),.slice ta t.length tc] 26))
 have hb0:Below w.heap.size w w0:=by rw[hw0];exact ba _ _
 have q0:Blk w0 w.heap.size #[.int .i64 (n:Int),.slice ta t.length tc] 26:=by rw[hw0];exact Blk.new _ _ _
 have htle:=htk.len;have HCK:=lh (check5_any n ta tc t w0 (by omega) (fun c hc=>by have:=(htk.cl c hc).1;omega) (hx.keep hb0));rw[(zng (by omega)).2 htk]at HCK;have HMD:=lh (fun V(hV:Below w.heap.size w V)=>models5_any n (by omega) ta tc t V htk (hx.keep hV));have HPC:=lh (fun V(hV:Below w.heap.size w V)=>hp.keep hV);have HOK:=lh hok;have HB0:=lh hb0;have HQ0:=lh q0;have k0:=q0.cell 0;have k1:=q0.cell 1;have kz:=q0.lt
 have hn8:(n:Int)<=8:=by omega
 clear hb0 q0 hx htk htle hp hok
 by_cases h16:16<l.length
 ·have HV:Hid (val45 n t l=(⟨#[48]⟩,1)):=by show _=_;unfold val45;rw[if_pos (.inl h16)]
  have h16i:(16:Int)<(l.length:Int):=by omega
  rw[HV.o];clear h16;go_enter Tryz.func14,Tryz.ntmps14;go_wp2_with fail;rw[<-hw0];clear hw0;refine HCK.o.mono ?_;rintro e w1⟨rfl,hb1⟩;have HB1:=bt HB0 hb1;clear hb1 k0 k1 kz;go_wp2;go_ret2;exact⟨rfl,HB1.o⟩
 have h16i:¬((16:Int)<(l.length:Int)):=by omega
 have hl16:l.length<=16:=by omega
 have HVO:Hid (∀k(hk:k<l.length),outP n l[k]=true->val45 n t l=(⟨#[48]⟩,1)):=fun k hk h=>by
  unfold val45;rw[if_pos (.inr (List.any_eq_true.2 ⟨_,List.getElem_mem hk,h⟩))]
 have HVI:Hid ((∀k(hk:k<l.length),outP n l[k]=false)->val45 n t l=(decB (cellT n t l),0)/\((mdl n t (2^n)).filter fun s=>satP 128 l s.mem).length=cellT n t l):=fun h=>by
  have hall:l.any (outP n)=false:=by
   rw[List.any_eq_false];intro p hp;obtain⟨k,hk,rfl⟩:=List.getElem_of_mem hp;rw[h k hk];simp
  refine⟨?_,mdl_cell (by omega) t fun p hp v hv=>?_⟩
  ·unfold val45;rw[if_neg];rw[hall];simp;omega
  have h2:outP n p=false:=by
   rw[List.any_eq_false]at hall
   simpa using hall p hp
  exact(zyc (HOK.o p hp)).1 h2 v hv
 generalize val45 n t l=R at*;clear h16;go_enter Tryz.func14,Tryz.ntmps14;go_wp2_with fail;rw[<-hw0];clear hw0;refine HCK.o.mono ?_;rintro e w1⟨rfl,hb1⟩;have HB1:=bt HB0 hb1;have HQ1:=lh (HQ0.o.later hb1);clear hb1 k0 k1 kz HCK HB0 HQ0;go_wp2_with fail
 go_loopw[7](fun i wr=>∃k:Nat,k<=l.length/\i=.int .i64 k/\(∀j(hj:j<l.length),j<k->outP n l[j]=false)/\Below w1.heap.size w1 wr)(fun i _=>l.length-(intOf i).toNat)
 case atStart=>exact⟨0,Nat.zero_le _,rfl,fun j _ h=>absurd h (Nat.not_lt_zero _),Below.refl _ _⟩
 obtain⟨k,hk,rfl,hno,hb⟩:=hrel;have HB:=lh hb;have HNO:=lh hno;have HBW:=bt HB1 hb;have HQR:=lh (HQ1.o.later hb);clear hb hno
 by_cases hlt:k<l.length
 ·have hki:(k:Int)<(l.length:Int):=by omega
  obtain⟨b,off,hae,c0,c1,c2⟩:=(HPC.o _ HBW.o).at hlt;have HOO:=lh (HVO.o k hlt);have hpk:=HOK.o l[k] (List.getElem_mem hlt)
  have HN2:Hid (outP n l[k]=false->∀j(hj:j<l.length),j<k+1->outP n l[j]=false):=fun h j hj hjk=>by
   by_cases e:j=k
   ·subst e;exact h
   exact HNO.o j hj (by omega)
  have HAS:=lh (fun V=>assign5b_any (l[k]).v n (!outP n l[k]) V (by omega) hpk (by rw[Bool.not_eq_true'];exact zyc hpk));subst hae;generalize l[k]=p at*;have k0:=HQR.o.cell 0;have kz:=HQR.o.lt;have zb:=zai c0;clear c2 hpk HNO
  cases ho:outP n p with
  |true=>
    have HR:=lh (HOO.o ho);rw[ho]at HAS;clear ho HN2 HOO
    go_upto_region 9 with fail
    have HKS:Hid (∀w':World,Below wr.heap.size wr w'->(fun w'=>w'.cell? ⟨b,off+k*3,none⟩=some (.int .u64 (p.v.a:Int))/\w'.cell? ⟨b,off+k*3+1,none⟩=some (.int .u64 (p.v.b:Int))/\w'.cell? ⟨w.heap.size,0,none⟩=some (.int .i64 (n:Int))) w'):=fun w' hb=>⟨zab hb c0,zab hb c1,zab hb k0⟩
    refine wp_region_held_drew (S:=(fun w'=>w'.cell? ⟨b,off+k*3,none⟩=some (.int .u64 (p.v.a:Int))/\w'.cell? ⟨b,off+k*3+1,none⟩=some (.int .u64 (p.v.b:Int))/\w'.cell? ⟨w.heap.size,0,none⟩=some (.int .i64 (n:Int)))) (by kernel_rfl) (by exact HKS.o _ ((Below.refl wr.heap.size wr).drew)) fun hH=>?_
    refine tkV 0 27 rfl rfl ?_;try simp only[tkS]
    refine tkV 1 28 rfl rfl ?_;try simp only[tkS]
    refine tkV 2 29 rfl rfl ?_;try simp only[tkS]
    refine tkV 3 30 rfl rfl ?_;try simp only[tkS]
    refine tkV 4 31 rfl rfl ?_;try simp only[tkS]
    refine tkV 5 32 rfl rfl ?_;try simp only[tkS]
    refine tkV 6 33 rfl rfl ?_;try simp only[tkS]
    refine tkR 7 (.cons rfl (fun K hK=>?_) .nil);go_simp;go_at_call 39;refine Calls.mono (HAS.o _) ?_;rintro e V21⟨rfl,hb21⟩;have hv21:Below wr.heap.size wr V21:=Below.trans (Below.refl wr.heap.size wr).drew (Below.mono hb21 (Below.size (Below.refl wr.heap.size wr).drew));clear hb21;go_wp2_with fail
    refine hK.out _ _ (by exact HKS.o _ hv21) fun hH=>?_
    clear hK K
    try simp only[tkS]
    refine tkV 8 35 rfl rfl ?_;try simp only[tkS]
    refine wpAnyH_done (by kernel_rfl) ?_ _;go_wp2;go_ret2;exact⟨by rw[HR.o];rfl,HBW.o.trans (hv21.mono HBW.o.size)⟩
  |false=>
    have HR:=lh (HN2.o ho);rw[ho]at HAS;clear ho HN2 HOO
    go_upto_region 9 with fail
    have HKS:Hid (∀w':World,Below wr.heap.size wr w'->(fun w'=>w'.cell? ⟨b,off+k*3,none⟩=some (.int .u64 (p.v.a:Int))/\w'.cell? ⟨b,off+k*3+1,none⟩=some (.int .u64 (p.v.b:Int))/\w'.cell? ⟨w.heap.size,0,none⟩=some (.int .i64 (n:Int))) w'):=fun w' hb=>⟨zab hb c0,zab hb c1,zab hb k0⟩
    refine wp_region_held_drew (S:=(fun w'=>w'.cell? ⟨b,off+k*3,none⟩=some (.int .u64 (p.v.a:Int))/\w'.cell? ⟨b,off+k*3+1,none⟩=some (.int .u64 (p.v.b:Int))/\w'.cell? ⟨w.heap.size,0,none⟩=some (.int .i64 (n:Int)))) (by kernel_rfl) (by exact HKS.o _ ((Below.refl wr.heap.size wr).drew)) fun hH=>?_
    refine tkV 0 27 rfl rfl ?_;try simp only[tkS]
    refine tkV 1 28 rfl rfl ?_;try simp only[tkS]
    refine tkV 2 29 rfl rfl ?_;try simp only[tkS]
    refine tkV 3 30 rfl rfl ?_;try simp only[tkS]
    refine tkV 4 31 rfl rfl ?_;try simp only[tkS]
    refine tkV 5 32 rfl rfl ?_;try simp only[tkS]
    refine tkV 6 33 rfl rfl ?_;try simp only[tkS]
    refine tkR 7 (.cons rfl (fun K hK=>?_) .nil);go_simp;go_at_call 39;refine Calls.mono (HAS.o _) ?_;rintro e V21⟨rfl,hb21⟩;have hv21:Below wr.heap.size wr V21:=Below.trans (Below.refl wr.heap.size wr).drew (Below.mono hb21 (Below.size (Below.refl wr.heap.size wr).drew));clear hb21;go_wp2_with fail
    refine hK.out _ _ (by exact HKS.o _ hv21) fun hH=>?_
    clear hK K
    try simp only[tkS]
    refine tkV 8 35 rfl rfl ?_;try simp only[tkS]
    refine wpAnyH_done (by kernel_rfl) ?_ _;go_wp2_with fail;go_roundw
    case rel=>exact⟨k+1,by omega,by go_num,HR.o,HB.o.trans (hv21.mono HB.o.size)⟩
    case measure=>simp[intOf];omega
 obtain rfl:k=l.length:=by omega
 have hkn:¬((l.length:Int)<(l.length:Int)):=by omega
 obtain⟨hv,hcnt⟩:=HVI.o fun k hk=>HNO.o k hk hk
 have HV:=lh hv;have HCT:=lh hcnt;have HML:Hid ((mdl n t (2^n)).length<=256):=Nat.le_trans (mdl_len _ _ _) (Nat.pow_le_pow_right (by decide) hn:2^n<=2^8)
 have HMO:Hid (∀s∈mdl n t (2^n),s.ok):=fun s hs=>by
  unfold mdl at hs;obtain⟨j,hj,rfl⟩:=List.mem_map.1 hs;exact(rv_ok (by omega) (List.mem_range.1 (List.mem_filter.1 hj).1)).1
 have HMC:=lh (HMD.o _ HBW.o);clear hv hcnt HVI HVO HMD HNO;generalize mdl n t (2^n)=M at*;generalize cellT n t l=q at*;have k0:=HQR.o.cell 0;have k1:=HQR.o.cell 1;have kz:=HQR.o.lt;go_wp2_with fail;refine HMC.o.mono ?_;rintro e w2⟨ma,mc,rfl,hom,hb2⟩;have HBM:=bt HBW hb2;have HMM:=lh (hom.sets);have hml:=HML.o;clear hom hb2 k0 k1 kz HMC HQR HBW HB;go_wp2_with fail
 go_loopw[9,10](fun c i wr=>∃k:Nat,k<=M.length/\i=.int .i64 k/\c=.int .u64 ((((M.take k).filter fun s=>satP 128 l s.mem).length:Nat):Int)/\Below w2.heap.size w2 wr)(fun _ i _=>M.length-(intOf i).toNat)
 case atStart=>exact⟨0,Nat.zero_le _,rfl,rfl,Below.refl _ _⟩
 obtain⟨k,hk,rfl,rfl,hb⟩:=hrel;have HB:=lh hb;clear hb
 by_cases hlt2:k<M.length
 ·have hki:(k:Int)<(M.length:Int):=by omega
  have HTK:Hid (((M.take (k+1)).filter fun s=>satP 128 l s.mem).length=((M.take k).filter fun s=>satP 128 l s.mem).length+if satP 128 l (M[k]).mem then 1 else 0):=by
   show _=_
   rw[List.take_succ_eq_append_getElem hlt2,List.filter_append,List.length_append]
   cases h:satP 128 l (M[k]).mem<;>simp[h]
  have HTL:Hid (((M.take k).filter fun s=>satP 128 l s.mem).length<=256):=by
   have h1:=List.length_filter_le (fun s=>satP 128 l s.mem) (M.take k);rw[List.length_take]at h1
   show _<=_;omega
  have HMK:=lh (fun V(hV:Below w2.heap.size w2 V)=>(fun hq=>hq) (show∃b off,ma=some ⟨b,off,none⟩/\V.cell? ⟨b,off+k*2,none⟩=some (.int .u64 ((M[k]).a:Int))/\V.cell? ⟨b,off+k*2+1,none⟩=some (.int .u64 ((M[k]).b:Int))from by
   obtain⟨b,off,e,c0,c1⟩:=HMM.o k hlt2
   exact⟨b,off,e,zab hV c0,zab hV c1⟩))
  have hsk:=HMO.o M[k] (List.getElem_mem hlt2);generalize((M.take k).filter fun s=>satP 128 l s.mem).length=C at*;generalize M[k]=s at*;have HSK:=lh hsk;clear hsk;go_wp2_with fail
  go_loopw[11,12](fun v i wi=>∃j:Nat,j<=l.length/\i=.int .i64 j/\v=.bool (satP 128 (l.take j) s.mem)/\Below w2.heap.size w2 wi)(fun _ i _=>l.length-(intOf i).toNat)
  case atStart=>exact⟨0,Nat.zero_le _,rfl,rfl,HB.o⟩
  rename World=>wi
  obtain⟨j,hj,rfl,rfl,hbi⟩:=hrel;have HBI:=lh hbi;have HBWI:=bt HBM hbi;clear hbi
  by_cases hjl:j<l.length
  ·have hji:(j:Int)<(l.length:Int):=by omega
   have HST:=lh (satP_tk1 hjl 128 s.mem)
   cases hsj:satP 128 (l.take j) s.mem with
   |false=>
     rw[hsj,Bool.false_and]at HST;clear hsj;go_wp2_with fail
     go_upto_region 20 with fail
     go_quiet(fail)
     have HBQ:Hid (Below w2.heap.size w2 (wi.drewN nq)):=HBI.o.trans (drewN_w _ _);generalize wi.drewN nq=wj at*;go_wp2_with fail;go_roundw
     case rel=>exact⟨j+1,by omega,by go_num,by rw[HST.o],HBQ.o⟩
     case measure=>simp[intOf];omega
   |true=>
     rw[hsj,Bool.true_and]at HST;clear hsj;obtain⟨b,off,hae,c0,c1,c2⟩:=(HPC.o _ HBWI.o).at hjl;obtain⟨mb,mo,hma,s0,s1⟩:=HMK.o _ HBI.o;have hpk:=HOK.o l[j] (List.getElem_mem hjl);have HSA:=lh (fun V=>sat45_any s l[j] V HSK.o hpk);subst hae;generalize l[j]=p at*;have zb:=zai c0;have sz:=zai s0;clear hpk;subst hma
     go_upto_region 20 with fail
     have HKS:Hid (∀w':World,Below wi.heap.size wi w'->(fun w'=>w'.cell? ⟨b,off+j*3,none⟩=some (.int .u64 (p.v.a:Int))/\w'.cell? ⟨b,off+j*3+1,none⟩=some (.int .u64 (p.v.b:Int))/\w'.cell? ⟨b,off+j*3+2,none⟩=some (.bool p.odd)/\w'.cell? ⟨mb,mo+k*2,none⟩=some (.int .u64 (s.a:Int))/\w'.cell? ⟨mb,mo+k*2+1,none⟩=some (.int .u64 (s.b:Int))) w'):=fun w' hb=>⟨zab hb c0,zab hb c1,zab hb c2,zab hb s0,zab hb s1⟩
     refine wp_region_held_drew (S:=(fun w'=>w'.cell? ⟨b,off+j*3,none⟩=some (.int .u64 (p.v.a:Int))/\w'.cell? ⟨b,off+j*3+1,none⟩=some (.int .u64 (p.v.b:Int))/\w'.cell? ⟨b,off+j*3+2,none⟩=some (.bool p.odd)/\w'.cell? ⟨mb,mo+k*2,none⟩=some (.int .u64 (s.a:Int))/\w'.cell? ⟨mb,mo+k*2+1,none⟩=some (.int .u64 (s.b:Int)))) (by kernel_rfl) (by exact HKS.o _ ((Below.refl wi.heap.size wi).drew)) fun hH=>?_
     refine tkV 0 50 rfl rfl ?_;try simp only[tkS]
     refine tkV 1 51 rfl rfl ?_;try simp only[tkS]
     refine tkV 2 52 rfl rfl ?_;try simp only[tkS]
     refine tkV 3 53 rfl rfl ?_;try simp only[tkS]
     refine tkV 4 54 rfl rfl ?_;try simp only[tkS]
     refine tkV 5 55 rfl rfl ?_;try simp only[tkS]
     refine tkV 6 56 rfl rfl ?_;try simp only[tkS]
     refine tkV 7 57 rfl rfl ?_;try simp only[tkS]
     refine tkV 8 58 rfl rfl ?_;try simp only[tkS]
     refine tkV 9 59 rfl rfl ?_;try simp only[tkS]
     refine tkR 10 (.cons rfl (fun K hK=>?_) .nil);go_simp;go_at_call 41;refine Calls.mono (HSA.o _) ?_;rintro e V21⟨rfl,hb21⟩;have hv21:Below wi.heap.size wi V21:=Below.trans (Below.refl wi.heap.size wi).drew (Below.mono hb21 (Below.size (Below.refl wi.heap.size wi).drew));clear hb21;go_wp2_with fail
     refine hK.out _ _ (by exact HKS.o _ hv21) fun hH=>?_
     clear hK K
     try simp only[tkS]
     refine tkV 11 61 rfl rfl ?_;try simp only[tkS]
     refine tkV 12 11 rfl rfl ?_;try simp only[tkS]
     refine wpAnyH_done (by kernel_rfl) ?_ _;go_wp2_with fail;go_roundw
     case rel=>exact⟨j+1,by omega,by go_num,by rw[HST.o],HBI.o.trans (hv21.mono HBI.o.size)⟩
     case measure=>simp[intOf];omega
  obtain rfl:j=l.length:=by omega
  have hjn:¬((l.length:Int)<(l.length:Int)):=by omega
  have HTA:Hid (l.take l.length=l):=List.take_length;rw[HTA.o]
  cases hss:satP 128 l s.mem with
  |true=>
    rw[hss,if_pos rfl]at HTK;clear hss;have hC:=HTL.o;go_wp2_with fail;go_roundw
    case rel=>exact⟨k+1,by omega,by go_num,by rw[HTK.o];go_num,HBI.o⟩
    case measure=>simp[intOf];omega
  |false=>
    rw[hss]at HTK
    have HTK2:Hid (((M.take (k+1)).filter fun s=>satP 128 l s.mem).length=C):=by have h:=HTK.o;rw[if_neg (by simp),Nat.add_zero]at h;exact h
    clear hss;go_wp2_with fail;go_roundw
    case rel=>exact⟨k+1,by omega,by go_num,by rw[HTK2.o],HBI.o⟩
    case measure=>simp[intOf];omega
 obtain rfl:k=M.length:=by omega
 have hkn:¬((M.length:Int)<(M.length:Int)):=by omega
 have HTA:Hid (M.take M.length=M):=List.take_length;have HBF:=lh (HBM.o.trans (HB.o.mono HBM.o.size))
 have HQL:Hid (q<=256):=by
  have h1:=List.length_filter_le (fun s=>satP 128 l s.mem) M;have h2:=HCT.o
  show _<=_;omega
 rw[HTA.o,HCT.o];have HOF:=lh (of10_any q (by have:=HQL.o;omega) wr);go_wp2_with fail;refine HOF.o.mono ?_;rintro e w9⟨rfl,hb9⟩;have HB9:=bt HBF hb9;clear hb9;go_wp2;go_ret2;exact⟨by rw[HV.o];rfl,HB9.o⟩
theorem zrm(a:Option Addr)(cap:Nat)(bs:List Nat)(n m:Nat)(w:World)(hl:bs.length<=1073741824)(hx:U8Cells w a bs)(hn:n<=128)(hm:m<=16)(h8:m*(n+1)<=8*bs.length):
 Calls Tryz.prog 21 #[.slice a bs.length cap,.int .i64 (n:Int),.int .i64 (m:Int)] w fun e w'=>∃g,e=.returned (.tuple #[.slice (some ⟨g,0,none⟩) m m,.int .i64 0])/\OwnP w' w.heap.size (.slice (some ⟨g,0,none⟩) m m) (zbr bs n m)/\Below w.heap.size w w':=by
 have HX:=lh hx;have HB0:Hid (Below w.heap.size w (w.alloc (.cells #[.slice a bs.length cap] 50))):=ba _ _;have HSE:=lh (fun V=>zom (n:Int) (m:Int) V)
 have hsF:zjy (n:Int) (m:Int)=((m*(n+1):Nat):Int):=by unfold zjy;rw[if_neg (by omega)];push_cast;rfl
 rw[hsF]at HSE;have H8:=lh h8
 have h8i:¬(8*(bs.length:Int)<((m*(n+1):Nat):Int)):=by omega
 have HWP:Hid (IntKind.i64.wrap (8*(bs.length:Int))=8*(bs.length:Int)):=IntWalk.i64_in _ (by omega);have hcf:∀(args:Array Value)(w:World),(callFunc 55 args).run Tryz.prog w=.ok (.enter 55 args) w:=zl4
 have h1:¬((n:Int)<0):=by omega
 have h2:¬(128<(n:Int)):=by omega
 have h3:¬((m:Int)<0):=by omega
 have h4:¬(16<(m:Int)):=by omega
 clear hsF hx h8;generalize((m*(n+1):Nat):Int)=s at*;go_enter Tryz.func21,Tryz.ntmps21;go_wp2_with fail;have hwp:=HWP.o
 go_quiet(exact Calls.quiet_of_same ((HSE.o _).mono fun _ _ hh=>⟨hh.1,hh.2.symm⟩))
 clear hwp;obtain⟨w1,hw1⟩:=nm ((w.alloc (.cells #[.slice a bs.length cap] 50)).drewN nq)
 have hb1:Below w.heap.size w w1:=by rw[hw1];exact HB0.o.trans (zl9 _ _)
 have qS:Blk w1 w.heap.size #[.slice a bs.length cap] 50:=by rw[hw1];exact Blk.new w _ _
 have hz1:w1.heap.size=w.heap.size+1:=by rw[hw1];exact World.size_alloc _ _
 rw[<-hw1];clear hw1
 have HM1:Hid (m<=maxLen):=by show _<=_;unfold maxLen;omega
 obtain⟨w2,hw2⟩:=nm (w1.alloc (.cells #[.int .i64 (-1)] 3))
 have hb2:Below w.heap.size w w2:=by rw[hw2];exact hb1.alloc (by omega) _
 have qS2:Blk w2 w.heap.size #[.slice a bs.length cap] 50:=by rw[hw2];exact qS.alloc _
 have qA2:Blk w2 (w.heap.size+1) #[.int .i64 (-1)] 3:=by rw[hw2];exact Blk.new' _ hz1 _ _
 have hz2:w2.heap.size=w.heap.size+1+1:=by rw[hw2,World.size_alloc,hz1]
 go_wp2_with(at_make;go_loud(refine mk zq2 rfl _ _ rfl w2.heap.size .i64 .i64 _ _ m rfl rfl rfl rfl (by omega) HM1.o (by rw[hw2];exact Nat.le_refl _) prc Pr.zero rfl ?_));intro w3 hown3 hgrow3;rw[<-hw2]at hgrow3;have HB3:Hid (Below w2.heap.size w2 w3):=(Below.refl _ _).grown hgrow3 (Nat.le_refl _) (by simp)
 have hown4:OwnP w3 w.heap.size (.slice (some ⟨w.heap.size+1+1,0,none⟩) m m) (List.replicate m Pr.zero):=by
  have h:=OwnL.lower hown3 (show w.heap.size<=w.heap.size+1+1 by omega);exact h
 have HO3:=lh hown4
 have HA3:Hid (Blk w3 (w.heap.size+1) #[.int .i64 (((0*(n+1):Nat):Int)-1)] 3):=by rw[Nat.zero_mul];exact qA2.later HB3.o
 have HS3:=lh (qS2.later HB3.o);have HBW3:Hid (Below w.heap.size w w3):=hb2.trans (HB3.o.mono hb2.size)
 have HAB:Hid (∀q,a=some q->bs≠[]->q.block<w.heap.size):=fun q hq hne=>by
  obtain⟨b,off,e,c0,_⟩:=HX.o 0 (List.length_pos_iff.2 hne);rw[hq]at e;simp only[Option.some.injEq]at e;subst e;exact zai c0
 clear hown3 hgrow3 hown4 hw2 hb1 hb2 qS qS2 qA2 hz1 hz2 HB3 HB0 HSE h8i HWP;go_wp2_with fail
 go_loopw[41](fun i wr=>∃k:Nat,k<=m/\i=.int .i64 k/\OwnP wr w.heap.size (.slice (some ⟨w.heap.size+1+1,0,none⟩) m m) ((zbr bs n m).take k++List.replicate (m-k) Pr.zero)/\Blk wr (w.heap.size+1) #[.int .i64 (((k*(n+1):Nat):Int)-1)] 3/\Blk wr w.heap.size #[.slice a bs.length cap] 50/\Below w.heap.size w wr)(fun i _=>m-(intOf i).toNat)
 case atStart=>exact⟨0,Nat.zero_le _,rfl,by simpa using HO3.o,HA3.o,HS3.o,HBW3.o⟩
 obtain⟨wo,rfl⟩:∃wo:World,wo=wr:=⟨_,rfl⟩
 obtain⟨k,hk,rfl,hown,hA,hS,hb⟩:=hrel
 by_cases hlt:k<m
 ·have hkm:(k:Int)<(m:Int):=by omega
  have hrp:List.replicate (m-k) Pr.zero=Pr.zero::List.replicate (m-(k+1)) Pr.zero:=by rw[<-List.replicate_succ];congr 1;omega
  obtain⟨Z,hZ⟩:=nm (List.replicate (m-(k+1)) Pr.zero);have HZ:=lh hZ
  have htl:((zbr bs n m).take k).length=k:=by rw[List.length_take,zb8];omega
  have HTL:Hid (k=((zbr bs n m).take k).length):=htl.symm
  have HNL:Hid (∀c:Pr,m=((zbr bs n m).take k++c::Z).length):=fun c=>by rw[List.length_append,htl,List.length_cons,hZ,List.length_replicate];omega
  rw[hrp,<-hZ]at hown
  obtain⟨f,hf⟩:∃f:Nat->Bool,f=fun v=>bitN bs (k*(n+1)+(v-1)):=⟨_,rfl⟩
  have HF:=lh hf;have HO:Hid (OwnP wo w.heap.size (.slice (some ⟨w.heap.size+1+1,0,none⟩) m m) ((zbr bs n m).take k++⟨setB f 0,false⟩::Z)):=hown;have HA:=lh hA;have HS:=lh hS;have HB:=lh hb
  have HML:Hid (k*(n+1)+n<8*bs.length):=by
   have h1:(k+1)*(n+1)<=m*(n+1):=Nat.mul_le_mul_right _ hlt;have h2:=H8.o;rw[Nat.succ_mul]at h1
   show _<_;omega
  clear hrp hZ htl hown hA hS hb hf;go_wp2_with fail
  go_loopw[12](fun v wi=>∃j:Nat,j<=n/\v=.int .i64 ((j:Int)+1)/\OwnP wi w.heap.size (.slice (some ⟨w.heap.size+1+1,0,none⟩) m m) ((zbr bs n m).take k++⟨setB f j,false⟩::Z)/\Blk wi (w.heap.size+1) #[.int .i64 (((k*(n+1)+j:Nat):Int)-1)] 3/\Blk wi w.heap.size #[.slice a bs.length cap] 50/\Below w.heap.size w wi)(fun v _=>n+2-(intOf v).toNat)
  case atStart=>exact⟨0,Nat.zero_le _,rfl,HO.o,HA.o,HS.o,HB.o⟩
  obtain⟨wi,rfl⟩:∃wi:World,wi=wr:=⟨_,rfl⟩
  obtain⟨j,hj,rfl,hown,hA,hS,hb⟩:=hrel;have HOI:=lh hown;have HBI:=lh hb;have HSI:=lh hS
  have hne:bs≠[]:=fun h=>by have:=HML.o;rw[h]at this;simp at this
  have HNX:=lh (fun(hi:(k*(n+1)+j)/8<bs.length)=>zx1 (w.heap.size+1) w.heap.size a cap bs (k*(n+1)+j) wi hl (HX.o.keep hb) hi hA hS (by omega) (fun q hq=>by have:=HAB.o q hq hne;omega));have HNX2:=lh (HNX.o (by have:=HML.o;omega));have hzi:=hb.size;clear HNX hown hA hS hb
  by_cases hjn:j<n
  ·have hji:¬(n:Int)<(j:Int)+1:=by omega
   have hjj:(j:Int)+1<=(n:Int):=by omega
   go_wp2_with fail;refine HNX2.o.mono ?_;rintro e w5⟨rfl,hA5,hk5⟩;have HO5:=lh (HOI.o.kept hk5 (fun y hy h=>by simp[Value.ownBlock]at hy;omega));have HS5:=lh (HSI.o.kept hk5 (by omega));have HB5:Hid (Below w.heap.size w w5):=HBI.o.trans (hk5.toBelow hzi (fun y hy e=>by omega))
   have HA5:Hid (Blk w5 (w.heap.size+1) #[.int .i64 (((k*(n+1)+(j+1):Nat):Int)-1)] 3):=by
    have e:(((k*(n+1)+(j+1):Nat):Int)-1)=((k*(n+1)+j:Nat):Int):=by push_cast;omega
    rw[e];exact hA5
   have hsb:setB f (j+1)=if f (j+1)then(setB f j).add ((j:Int)+1)else setB f j:=rfl
   have hfj:f (j+1)=bitN bs (k*(n+1)+j):=by rw[HF.o];rfl
   rw[hfj]at hsb;clear hA5 hk5 hfj hzi
   cases hbit:bitN bs (k*(n+1)+j)with
   |false=>
     rw[hbit]at hsb;have HSB:Hid (setB f (j+1)=setB f j):=hsb;clear hbit hsb;go_wp2;go_roundw
     case rel=>exact⟨j+1,by omega,by go_num,by rw[HSB.o];exact HO5.o,HA5.o,HS5.o,HB5.o⟩
     case measure=>simp[intOf];omega
   |true=>
     rw[hbit]at hsb;have HSB:Hid (setB f (j+1)=(setB f j).add ((j:Int)+1)):=hsb;have e0:=HO5.o.mid HTL.o (HNL.o _) zax 0 (by omega);have e1:=HO5.o.mid HTL.o (HNL.o _) zax 1 (by omega);simp only[prc,List.getElem?_cons_zero,List.getElem?_cons_succ,Nat.add_zero]at e0 e1;have gl:=HO5.o.lt.1;have HWT:=lh (fun V=>zgs (setB f j) ((j:Int)+1) V (zfw f j));clear hbit hsb;go_wp2_with fail;refine(HWT.o _).mono ?_;rintro e w6⟨rfl,hb6⟩;have HO6:=lh (HO5.o.later hb6);have HS6:=lh (HS5.o.later hb6);have HA6:=lh (HA5.o.later hb6);have HB6:=bt HB5 hb6;have d0:=HO6.o.mid HTL.o (HNL.o _) zax 0 (by omega)
     have d1:=HO6.o.mid HTL.o (HNL.o _) zax 1 (by omega);simp only[prc,List.getElem?_cons_zero,List.getElem?_cons_succ,Nat.add_zero]at d0 d1;have f0:=HO6.o.fr (HNL.o _) (k*3);have f1:=HO6.o.fr (HNL.o _) (k*3+1);have dl:=HO6.o.lt.1;have HPU:=lh (ybj HO6.o HTL.o (HNL.o _) ((setB f j).add ((j:Int)+1)).a ((setB f j).add ((j:Int)+1)).b);have hkq:Kp (fun y=>y=w.heap.size+1+1) w6 _:=Kp.trans (M:=fun y=>y=w.heap.size+1+1) (Kp.setCell (M:=fun y=>y=w.heap.size+1+1) w6 ⟨w.heap.size+1+1,k*3,none⟩ (.int .u64 (((setB f j).add ((j:Int)+1)).a:Int)) rfl) (Kp.setCell (M:=fun y=>y=w.heap.size+1+1) _ ⟨w.heap.size+1+1,k*3+1,none⟩ (.int .u64 (((setB f j).add ((j:Int)+1)).b:Int)) rfl)
     have HKQ:=lh hkq;clear hb6 e0 e1 gl hkq;go_wp2;go_roundw
     case rel=>
      refine⟨j+1,by omega,by go_num,?_,HA6.o.kept HKQ.o (by omega),HS6.o.kept HKQ.o (by omega),HB6.o.trans (HKQ.o.toBelow HB6.o.size (fun y hy e=>by omega))⟩;rw[HSB.o];exact HPU.o
     case measure=>simp[intOf];omega
  have hje:j=n:=by omega
  have hji:(n:Int)<(j:Int)+1:=by omega
  have HJE:Hid (j=n):=hje;clear hje;go_wp2_with fail;refine HNX2.o.mono ?_;rintro e w5⟨rfl,hA5,hk5⟩;have HO5:=lh (HOI.o.kept hk5 (fun y hy h=>by simp[Value.ownBlock]at hy;omega));have HS5:=lh (HSI.o.kept hk5 (by omega));have HB5:Hid (Below w.heap.size w w5):=HBI.o.trans (hk5.toBelow hzi (fun y hy e=>by omega))
  have HA5:Hid (Blk w5 (w.heap.size+1) #[.int .i64 ((((k+1)*(n+1):Nat):Int)-1)] 3):=by
   have e:((((k+1)*(n+1):Nat):Int)-1)=((k*(n+1)+j:Nat):Int):=by rw[Nat.succ_mul];have:=HJE.o;push_cast;omega
   rw[e];exact hA5
  have HP5:Hid (prAt bs n k=⟨setB f j,bitN bs (k*(n+1)+j)⟩):=by
   show _=_;rw[ybh,HJE.o,HF.o]
  generalize bitN bs (k*(n+1)+j)=x at*;have d2:=HO5.o.mid HTL.o (HNL.o _) zax 2 (by omega);simp only[prc,List.getElem?_cons_zero,List.getElem?_cons_succ]at d2;have f2:=HO5.o.fr (HNL.o _) (k*3+2);have dl:=HO5.o.lt.1;have HPU:=lh (ybi HO5.o HTL.o (HNL.o _) x);have HKQ:Hid (Kp (fun y=>y=w.heap.size+1+1) w5 (w5.setCell ⟨w.heap.size+1+1,k*3+2,none⟩ (.bool x))):=Kp.setCell _ _ _ rfl;clear hA5 hk5 hzi;go_wp2;go_roundw
  case rel=>
   refine⟨k+1,by omega,by go_num,?_,HA5.o.kept HKQ.o (by omega),HS5.o.kept HKQ.o (by omega),HB5.o.trans (HKQ.o.toBelow HB5.o.size (fun y hy e=>by omega))⟩;rw[zs0 bs n m k hlt,List.append_assoc,HP5.o,<-HZ.o];exact HPU.o
  case measure=>simp[intOf];omega
 have hke:k=m:=by omega
 subst hke;rw[List.take_of_length_le (by rw[zb8];exact Nat.le_refl _),Nat.sub_self,List.replicate_zero,List.append_nil]at hown;have HO:=lh hown;have HB:=lh hb;clear hown hA hS hb;go_wp2;go_ret2;exact⟨_,rfl,HO.o,HB.o⟩
theorem zyd(bs:List Nat)(n m:Nat):∀p∈zbr bs n m,p.ok:=by
 intro p hp;obtain⟨i,_,rfl⟩:=List.mem_map.1 hp;exact zfw _ _
theorem zuf(n:Nat)(ta:Option Addr)(tc:Nat)(t:List Cl)(sa:Option Addr)(sc:Nat)(bs:List Nat)(m q:Nat)(w:World)(hg:Gdt n t [])(hx:LsCells w ta t)(hs:U8Cells w sa bs)(hbl:bs.length<=1073741824)(hm8:m<=16)(h8:m*(n+1)<=8*bs.length)
 (hin:(zbr bs n m).any (outP n)=false)(hcell:zfl n (nds (zad (chF [] false n) false n t)) (zbr bs n m)=some q)(hq:q<=65535)(htab:Tab w)(hdt:Dtab w):
 Calls Tryz.prog 17 #[.agg #[.int .i64 (n:Int),.slice ta t.length tc],.slice sa bs.length sc,.int .i64 (m:Int)] w (zls (q*2^m) 0 w):=by
 obtain⟨w0,hw0⟩:=nm ((w.alloc (.cells #[.int .i64 (n:Int),.slice ta t.length tc] 26)).alloc (.cells #[.string ⟨#[]⟩] 36))
 have hb0:Below w.heap.size w w0:=by rw[hw0];exact(ba _ _).alloc (by simp) _
 have q0:Blk w0 w.heap.size #[.int .i64 (n:Int),.slice ta t.length tc] 26:=by rw[hw0];exact(Blk.new _ _ _).alloc _
 have q1:Blk w0 (w.heap.size+1) #[.string ⟨#[]⟩] 36:=by rw[hw0];exact Blk.new' _ (by simp) _ _
 have h40:t.length<=1073741824:=by have:=hg.tl;omega
 have hn128:n<=128:=by have:=hg.n9;omega
 have HCK:=lh (fun V(hV:Below w.heap.size w V)=>zbj (n:Int) ta tc t V h40 (fun c hc=>by have:=hg.cl c hc;omega) (hx.keep hV));rw[hg.ct]at HCK;have HPA:=lh (fun V(hV:Below w.heap.size w V)=>zrm sa sc bs n m V hbl (hs.keep hV) hn128 (by omega) h8);have HCE:=lh (fun V(hV:Below w.heap.size w V)a c(hp:PrCells V a (zbr bs n m))=>zqs n ta tc t a c (zbr bs n m) q V hg (hx.keep hV) (by rw[zb8];omega) hp (zyd bs n m) hin hcell (htab.keep hV) (hdt.keep hV));rw[zb8]at HCE;have h2m:2^m<=65536:=Nat.le_trans (Nat.pow_le_pow_right (by omega) hm8) (by decide:2^16<=65536)
 have HPW:=lh (fun V=>powW_any m (by omega) V);have HML:=lh (fun V=>mulW_any q (2^m) (by omega) (by omega) V);generalize q*2^m=z at*;generalize 2^m=P at*;unfold natv at HPW HML;have HPL:=lh (zb8 bs n m);have HB0:=lh hb0;have HQ0:=lh q0;have HQ1:=lh q1;have k0:=q0.cell 0;have k1:=q0.cell 1;have kz:=q0.lt;clear hb0 q0 q1 hx hin hcell htab hdt hg h40 hn128 hs hbl h8 h2m hq hm8;go_enter Tryz.func17,Tryz.ntmps17;go_wp2_with fail;rw[<-hw0];clear hw0;refine(HCK.o _ HB0.o).mono ?_;rintro e w1⟨rfl,hb1⟩;have HB1:=bt HB0 hb1;have HT1:=lh (HQ0.o.later hb1);have HA1:=lh (HQ1.o.later hb1)
 clear hb1 k0 k1 kz HCK;have k0:=HT1.o.cell 0;have k1:=HT1.o.cell 1;have kz:=HT1.o.lt;go_wp2_with fail;refine(HPA.o _ HB1.o).mono ?_;rintro e w2⟨g,rfl,hown,hb2⟩;obtain⟨a2,c2,hv2,hpc⟩:=OwnP.pc hown;rw[HPL.o]at hv2;simp only[Value.slice.injEq,true_and]at hv2;obtain⟨rfl,rfl⟩:=hv2;have HPC:=lh hpc;have HB2:=bt HB1 hb2;have HT2:=lh (HT1.o.later hb2);have HA2:=lh (HA1.o.later hb2);clear hb2 k0 k1 kz HPA hown hpc;have k0:=HT2.o.cell 0;have k1:=HT2.o.cell 1;have kz:=HT2.o.lt;go_wp2_with fail;refine(HCE.o _ HB2.o _ _ HPC.o).mono ?_;rintro e w3⟨rfl,hb3⟩;have HB3:=bt HB2 hb3
 have HA3:=lh (HA2.o.later hb3);clear hb3 k0 k1 kz HCE;obtain⟨B,hB⟩:=nm w3.heap.size;obtain⟨w4,hw4⟩:=nm (w3.alloc (.cells #[.string (natB q)] 36))
 have hb4:Below w3.heap.size w3 w4:=by rw[hw4];exact ba _ _
 have q4:Blk w4 B #[.string (natB q)] 36:=by rw[hw4,hB];exact Blk.new _ _ _
 have HB4:=bt HB3 hb4;have HA4:=lh (HA3.o.later hb4);have HQ4:=lh q4
 have hBA:w.heap.size+1<B:=by rw[hB];exact HA3.o.lt
 have hqc:=q4.cell 0;have hqz:=q4.lt;clear hb4 q4
 go_upto_region 8 with fail
 rw[<-hw4,<-hB];clear hw4 hB
 have HKS:Hid (∀w':World,Kp (fun y=>y=w.heap.size+1) w4 w'->w'.cell? ⟨B,0,none⟩=some (.string (natB q))):=fun w' hb=>hb.cell hqc (by dsimp only;omega)
 refine wp_region_held_drew (S:=(fun w'=>w'.cell? ⟨B,0,none⟩=some (.string (natB q)))) (by kernel_rfl) (by exact HKS.o _ (Kp.below (Below.refl w4.heap.size w4).drew)) fun hH=>?_
 refine tkV 0 36 rfl rfl ?_;try simp only[tkS]
 refine tkV 1 37 rfl rfl ?_;try simp only[tkS]
 refine tkV 4 40 rfl rfl ?_;try simp only[tkS]
 refine tkR 2 (.cons rfl (fun K hK=>?_) .nil);go_simp;go_at_call 10;refine Calls.mono (HPW.o _) ?_;rintro e V5⟨rfl,hb5⟩;have hv5:Below w4.heap.size w4 V5:=Below.trans (Below.refl w4.heap.size w4).drew (Below.mono hb5 (Below.size (Below.refl w4.heap.size w4).drew));clear hb5;go_wp2_with fail
 refine hK.out _ _ (by exact HKS.o _ (Kp.below hv5)) fun hH=>?_
 clear hK K
 try simp only[tkS]
 refine tkR 3 (.cons rfl (fun K hK=>?_) .nil);go_simp;go_at_call 47;refine Calls.mono (HML.o _) ?_;rintro e V6⟨rfl,hb6⟩;have hv6:Below w4.heap.size w4 V6:=Below.trans hv5 (Below.mono hb6 (Below.size hv5));clear hb6;go_wp2_with fail
 refine hK.out _ _ (by exact HKS.o _ (Kp.below hv6)) fun hH=>?_
 clear hK K
 try simp only[tkS]
 have q6:=HA4.o.later hv6;have e0:=q6.cell 0;have ef:=q6.fr 0;have ez:=q6.lt;refine tkR 5 (.cons rfl (fun K hK=>?_) .nil);go_simp
 refine hK.out _ _ (by exact HKS.o _ ((Kp.below hv6).trans (Kp.setCell _ _ _ rfl))) fun hH=>?_
 clear hK K
 try simp only[tkS]
 refine tkV 6 7 rfl rfl ?_;try simp only[tkS]
 refine wpAnyH_done (by kernel_rfl) ?_ _;go_wp2_with fail;have g0:=(q6.set 0 (.string (natB z))).cell 0;exact bodyPost_ret (v:=.tuple #[.agg #[.string (natB z)],.int .i64 0]) (by simp[results,Tryz.results17,go_sem,g0]) rfl ⟨rfl,(HB4.o.trans (hv6.mono HB4.o.size)).setCell (show w.heap.size<=w.heap.size+1 by omega) _⟩
end Go.Proofs.YtnlaakmglhjjmaaGreatDoor
