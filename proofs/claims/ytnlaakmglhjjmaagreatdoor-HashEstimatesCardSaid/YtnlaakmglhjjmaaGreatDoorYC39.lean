/- Parts of the proofs of laws. Texts: Fb, Kc, Pg, Ke0, Hk, Kd, NatB. -/
import Derived.Test.YtnlaakmglhjjmaaGreatDoorYC38
set_option maxHeartbeats 8000000
set_option maxRecDepth 100000
set_option linter.all false
namespace Go.Proofs.YtnlaakmglhjjmaaGreatDoor
open Go.RowKit Cen
theorem assign5_ok(s:St)(n:Int)(w:World)(hn0:0<=n)(hn1:n<=128)(hs:s.ok)(hsn:∀v:Int,n<v->s.mem v=false):
 Calls Tryz.prog 39 #[stv s,.int .i64 n] w fun e w'=>e=.returned (.bool true)/\Below w.heap.size w w':=by
 have hb0:Below w.heap.size w (w.alloc (.cells #[.int .u64 (s.a:Int),.int .u64 (s.b:Int)] 29)):=ba _ _;have HB0:=lh hb0;have Q0:=lh (Blk.new w #[.int .u64 (s.a:Int),.int .u64 (s.b:Int)] 29);have HH:=lh (fun v V=>has5_any s v V hs);have HSN:=lh hsn;clear hb0 hsn;go_enter Tryz.func39,Tryz.ntmps39;go_wp2_with fail;generalize w.alloc (.cells #[.int .u64 (s.a:Int),.int .u64 (s.b:Int)] 29)=w0 at*
 go_loopw[5](fun i wr=>∃v:Int,n+1<=v/\v<=129/\i=.int .i64 v/\Below w0.heap.size w0 wr)(fun i _=>129-(intOf i).toNat)
 case atStart=>exact⟨n+1,by omega,by omega,rfl,Below.refl _ _⟩
 obtain⟨v,hv1,hv2,rfl,hb⟩:=hrel;have HB:=lh hb;have HBW:=bt HB0 hb;have q:=Q0.o.later hb;have c0:=q.cell 0;have c1:=q.cell 1;have z0:=q.lt;clear hb q
 by_cases hlt:v<=128
 ·have HV:=lh (HH.o v);rw[HSN.o v (by omega)]at HV
  have hv0:0<=v:=by omega
  go_wp2_with fail;refine(HV.o _).mono ?_;rintro e w1⟨rfl,hb1⟩;have HB1:=bt HB hb1;clear hb1;go_wp2;go_roundw
  case rel=>exact⟨v+1,by omega,by omega,rfl,HB1.o⟩
  case measure=>simp[intOf];omega
 have hv:v=129:=by omega
 subst hv;go_wp2;go_ret;exact⟨rfl,HBW.o⟩
theorem zxb{s:Int->Bool}{t:List Cl}{k:Nat}(h:k<t.length):evL s (t.drop k)=(evC s (t.getD k [])&&evL s (t.drop (k+1))):=by
 unfold evL;rw[List.drop_eq_getElem_cons h,List.all_cons];simp[List.getD_eq_getElem?_getD,h]
theorem eval5_ok(n:Nat)(hn:n<=128)(a:Option Addr)(cap:Nat)(t:List Cl)(s:St)(w:World)(ht:tOk n t)(hx:LsCells w a t)(hs:s.ok)(hsn:∀v:Int,(n:Int)<v->s.mem v=false):
 Calls Tryz.prog 83 #[.agg #[.int .i64 n,.slice a t.length cap],stv s] w fun e w'=>e=.returned (.bool (evL s.mem t))/\Below w.heap.size w w':=by
 obtain⟨w0,hw0⟩:=nm ((w.alloc (.cells #[.int .i64 n,.slice a t.length cap] 26)).alloc (.cells #[.int .u64 (s.a:Int),.int .u64 (s.b:Int)] 29))
 have hb0:Below w.heap.size w w0:=by rw[hw0];exact(ba _ _).alloc (by simp) _
 have q0:Blk w0 w.heap.size #[.int .i64 n,.slice a t.length cap] 26:=by rw[hw0];exact(Blk.new w _ _).alloc _
 have q1:Blk w0 (w.heap.size+1) #[.int .u64 (s.a:Int),.int .u64 (s.b:Int)] 29:=by rw[hw0];exact Blk.new' _ (by simp) _ _
 have htle:=ht.len;have HC:=lh (check5_any n a cap t w0 (by omega) (fun c hc=>by have:=(ht.cl c hc).1;omega) (hx.keep hb0));rw[(zng hn).2 ht]at HC;have HAS:=lh (fun W=>assign5_ok s n W (by omega) (by omega) hs hsn);have HHO:=lh (fun l W(hl:zac l≠0)=>holds5_any s l W hs hl);have HB0:=lh hb0;have Q0:=lh q0;have Q1:=lh q1;have HX:=lh (hx.keep hb0);have HT:=lh ht;have HE0:Hid (evL s.mem t=evL s.mem (t.drop 0)):=rfl
 have HLV:Hid (∀y:Int,litN n y->zac y≠0):=fun y hy=>by rw[zam hy.1 (by have:=hy.2.1;omega) (by have:=hy.2.2;omega)];have:=hy.1;split<;>omega
 clear hx hb0 q0 q1 ht hsn;generalize evL s.mem t=R at*;go_enter Tryz.func83,Tryz.ntmps83;go_wp2_with fail;rw[<-hw0];refine HC.o.mono ?_;rintro e w1⟨rfl,hb1⟩;have HB1:=lh hb1;have p0:=Q0.o.later hb1;have p1:=Q1.o.later hb1;have c0:=p0.cell 0;have c1:=p0.cell 1;have d0:=p1.cell 0;have d1:=p1.cell 1;have z0:=p0.lt;have z1:=p1.lt;clear hb1 hw0 p0 p1;go_wp2_with fail;refine(HAS.o _).mono ?_;rintro e w2⟨rfl,hb2⟩;have HB2:=bt HB1 hb2;have HBW2:=lh (HB0.o.trans ((HB1.o.trans (hb2.mono HB1.o.size)).mono HB0.o.size));clear hb2 c0 c1 d0 d1 z0 z1;go_wp2_with fail
 go_loopw[5](fun i wr=>∃k:Nat,k<=t.length/\i=.int .i64 k/\Below w0.heap.size w0 wr/\R=evL s.mem (t.drop k))(fun i _=>t.length-(intOf i).toNat)
 case atStart=>exact⟨0,Nat.zero_le _,rfl,HB2.o,HE0.o⟩
 obtain⟨k,hk,rfl,hbr,hch⟩:=hrel;have HCH:=lh hch;have HBR:=lh hbr;have HBW:=bt HB0 hbr;have HXR:=lh (HX.o.keep hbr);have P0:=lh (Q0.o.later hbr);have P1:=lh (Q1.o.later hbr);have k0:=P0.o.cell 0;have k1:=P0.o.cell 1;have y0:=P0.o.lt;clear hch hbr
 by_cases hlt:k<t.length
 ·obtain⟨b1,off1,ai,ci,rfl,hc1,hi⟩:=HXR.o k hlt
  have hmem:t.getD k []∈t:=by rw[List.getD_eq_getElem?_getD,List.getElem?_eq_getElem hlt];exact List.getElem_mem hlt
  obtain⟨hcl,hcr⟩:=HT.o.cl _ hmem;have HD:=lh (zxb (s:=s.mem) hlt);have HI:=lh hi;have HCR:=lh hcr
  have hki:(k:Int)<(t.length:Int):=by omega
  generalize t.getD k []=c at*;clear hmem hcr hi;go_wp2_with fail
  go_loopw[6,7](fun is i wi=>∃q:Nat,q<=c.length/\i=.int .i64 q/\is=.bool ((c.take q).any (zcj s.mem))/\Below wr.heap.size wr wi)(fun _ i _=>c.length-(intOf i).toNat)
  case atStart=>exact⟨0,Nat.zero_le _,rfl,rfl,Below.refl _ _⟩
  obtain⟨q,hq,rfl,rfl,hbi⟩:=hrel
  rename World=>wi
  have HBI:=lh hbi;have T0:=lh (P0.o.later hbi);have T1:=lh (P1.o.later hbi);have m1:=T0.o.cell 1;have n0:=T1.o.cell 0;have n1:=T1.o.cell 1;have x0:=T0.o.lt;have x1:=T1.o.lt;have hc2:=zab hbi hc1;have HI2:=lh (HI.o.keep hbi);clear hbi
  by_cases hqc:q<c.length
  ·obtain⟨b2,off2,rfl,e0⟩:=HI2.o q hqc
   have hqi:(q:Int)<(c.length:Int):=by omega
   have HAN:=lh (any_succ (zcj s.mem) 0 hqc);have HLVQ:=lh (HLV.o _ (HCR.o _ (getD_mem0 hqc)));generalize c.getD q 0=y at*
   cases hbs:(c.take q).any (zcj s.mem)with
   |true=>
     rw[hbs]at HAN;clear hbs;go_wp2_with fail
     go_quiet(fail)
     go_wp2;go_roundw
     case rel=>exact⟨q+1,by omega,by go_num,by rw[HAN.o];rfl,HBI.o.trans (zal _ _)⟩
     case measure=>simp[intOf];omega
   |false=>
     rw[hbs]at HAN;clear hbs;have HHY:=lh (fun W=>HHO.o y W HLVQ.o);go_wp2_with fail
     go_region_with(go_at_call 111;refine(HHY.o _).mono ?_;rintro e w5⟨rfl,hb5⟩;have HB5:Hid (Below wi.heap.size wi w5):=zci hb5)
     all_goals
      go_wp2;go_roundw
      case rel=>exact⟨q+1,by omega,by go_num,by rw[HAN.o];rfl,HBI.o.trans (HB5.o.mono HBI.o.size)⟩
      case measure=>simp[intOf];omega
  have hqe:q=c.length:=by omega
  subst hqe
  have HFE:Hid (evC s.mem c=(c.take c.length).any (zcj s.mem)):=by show _=_;rw[List.take_length];rfl
  cases hbs:(c.take c.length).any (zcj s.mem)with
  |true=>
    rw[hbs]at HFE
    have HN:Hid (R=evL s.mem (t.drop (k+1))):=by show _=_;rw[HCH.o,HD.o,HFE.o,Bool.true_and]
    clear hbs;go_wp2;go_roundw
    case rel=>exact⟨k+1,by omega,by go_num,HBR.o.trans (HBI.o.mono HBR.o.size),HN.o⟩
    case measure=>simp[intOf];omega
  |false=>
    rw[hbs]at HFE
    have HN:Hid (R=false):=by show _=_;rw[HCH.o,HD.o,HFE.o,Bool.false_and]
    clear hbs;go_wp2;go_ret;exact⟨by rw[HN.o];rfl,HBW.o.trans (HBI.o.mono HBW.o.size)⟩
 have hke:k=t.length:=by omega
 subst hke
 have HN:Hid (R=true):=by show _=_;rw[HCH.o,List.drop_length];rfl
 go_wp2;go_ret;exact⟨by rw[HN.o];rfl,HBW.o⟩
theorem asg5_any(n k:Nat)(hn:n<=12)(hk:k<2^n)(w:World):Calls Tryz.prog 82 #[.int .i64 (k:Int),.int .i64 (n:Int)] w fun e w'=>e=.returned (stv ⟨rvN n k,0⟩)/\Below w.heap.size w w':=by
 obtain⟨w0,hw0⟩:=nm ((w.alloc (.cells #[.int .u64 0,.int .u64 0] 29)).alloc (.cells #[.int .u64 0,.int .u64 0] 29))
 have hb0:Below w.heap.size w w0:=by rw[hw0];exact(ba _ _).alloc (by simp) _
 have q0:Blk w0 w.heap.size #[.int .u64 0,.int .u64 0] 29:=by rw[hw0];exact(Blk.new _ _ _).alloc _
 have q1:Blk w0 (w.heap.size+1) #[.int .u64 0,.int .u64 0] 29:=by rw[hw0];exact Blk.new' _ (by simp) _ _
 have HB0:=lh hb0;have HQ0:=lh q0;have HQ1:=lh q1;have hk12:k<4096:=Nat.lt_of_lt_of_le hk (by have:2^n<=2^12:=Nat.pow_le_pow_right (by decide) hn;exact this)
 have HRV:Hid (rvN n k<4096):=by
  have h1:=rvN_lt n k;have h2:2^n<=2^12:=Nat.pow_le_pow_right (by decide) hn
  show _<_;omega
 have HW:=lh hw0;clear hb0 q0 q1 hk hw0;go_enter Tryz.func82,Tryz.ntmps82;go_wp2_with fail;rw[<-HW.o];clear HW
 go_loopw[0,6](fun v0 v6 wr=>∃(v kk a:Nat),v<=n/\kk<4096/\v6=.int .i64 v/\v0=.int .i64 kk/\Blk wr (w.heap.size+1) #[.int .u64 (a:Int),.int .u64 0] 29/\Blk wr w.heap.size #[.int .u64 0,.int .u64 0] 29/\a+rvN v kk=rvN n k/\Below w.heap.size w wr)(fun _ v6 _=>(intOf v6).toNat)
 case atStart=>exact⟨n,k,0,Nat.le_refl _,hk12,rfl,rfl,HQ1.o,HQ0.o,Nat.zero_add _,HB0.o⟩
 obtain⟨v,kk,a,hv,hkk,rfl,rfl,hq1,hq0,he,hb⟩:=hrel;have HQA:=lh hq1;have HQR:=lh hq0;have HE:=lh he;have HB:=lh hb;have c0:=hq1.cell 0;have c1:=hq1.cell 1;have f0:=hq1.fr 0;have cz:=hq1.lt;clear hq1 hq0 he hb
 cases v with
 |zero=>
   obtain rfl:a=rvN n k:=by have h:=HE.o;rw[rvN,Nat.add_zero]at h;exact h
   have r0:=HQR.o.cell 0;have r1:=HQR.o.cell 1;have rf0:=HQR.o.fr 0;have rf1:=HQR.o.fr 1;have rz:=HQR.o.lt;go_wp2_with fail;generalize rvN n k=a at*;have g0:=(HQR.o.set 0 (.int .u64 (a:Int))).cell 0;have g1:=((HQR.o.set 0 (.int .u64 (a:Int))).set 1 (.int .u64 0)).cell 1;exact bodyPost_ret (v:=stv ⟨a,0⟩) (by simp[results,Tryz.results82,go_sem,g0,g1,stv]) rfl ⟨rfl,(HB.o.setCell (Nat.le_refl _) _).setCell (Nat.le_refl _) _⟩
 |succ v=>
   have hv12:(v:Int)<=11:=by omega
   have e1:(v:Int)/64=0:=by omega
   have e2:(v:Int)%64=(v:Int):=by omega
   have hvi:(v:Int)+1-1=(v:Int):=by omega
   have HRS:Hid (rvN (v+1) kk=kk%2*2^v+rvN v (kk/2)):=rfl
   have hd2:(kk:Int)/2=((kk/2:Nat):Int):=by omega
   have HDV:=lh hd2;clear hd2
   by_cases hb1:kk%2=1
   ·have hm:(kk:Int)%2=1:=by omega
    have h2v:2^v<=2^11:=Nat.pow_le_pow_right (by decide) (by omega)
    have HAV:Hid (IntKind.u64.wrap ((a:Int)+IntKind.u64.wrap ((2:Int)^v))=((a+2^v:Nat):Int)):=by
     have h1:=HE.o;have h2:=HRV.o;rw[HRS.o,hb1,Nat.one_mul]at h1
     show _=_
     rw[show(2:Int)^v=((2^v:Nat):Int)by push_cast;rfl];generalize 2^v=P at*
     simp[IntKind.wrap,IntKind.bits,IntKind.signed];omega
    have HE3:Hid (a+2^v+rvN v (kk/2)=rvN n k):=by
     have h1:=HE.o;rw[HRS.o,hb1,Nat.one_mul]at h1
     show _=_;omega
    clear hb1 h2v;go_wp2_with fail;rw[HAV.o,HDV.o];exact⟨⟨v,kk/2,a+2^v,by omega,by omega,rfl,rfl,HQA.o.set 0 _,HQR.o.other _ _ (by dsimp only;omega),HE3.o,HB.o.setCell (by dsimp only;omega) _⟩,by simp[intOf]⟩
   have hm:(kk:Int)%2=0:=by omega
   have HE3:Hid (a+rvN v (kk/2)=rvN n k):=by
    have h1:=HE.o;rw[HRS.o,show kk%2=0 by omega,Nat.zero_mul,Nat.zero_add]at h1;exact h1
   clear hb1;go_wp2_with fail;rw[HDV.o];exact⟨⟨v,kk/2,a,by omega,by omega,rfl,rfl,HQA.o,HQR.o,HE3.o,HB.o⟩,by simp[intOf]⟩
def stk(s:St):List Value:=[.int .u64 (s.a:Int),.int .u64 (s.b:Int)]
theorem stk_len(s:St):(stk s).length=2:=rfl
theorem stk_one(s:St):∀u∈stk s,u.oneCell'=true:=by intro u hu;simp[stk]at hu;rcases hu with rfl|rfl<;>rfl
theorem elemSt:Elem 81 29 2 16 (.agg #[.int .u64 0,.int .u64 0]):=.mk Tryz.underlying81 (by kernel_rfl) rfl (by decide)
def mdl(n:Nat)(t:List Cl)(k:Nat):List St:=((List.range k).filter fun j=>evL (St.mem ⟨rvN n j,0⟩) t).map fun j=>⟨rvN n j,0⟩
theorem mdl_succ(n:Nat)(t:List Cl)(k:Nat):mdl n t (k+1)=if evL (St.mem ⟨rvN n k,0⟩) t then mdl n t k++[⟨rvN n k,0⟩]else mdl n t k:=by
 unfold mdl;rw[List.range_succ,List.filter_append,List.map_append]
 cases h:evL (St.mem ⟨rvN n k,0⟩) t<;>simp[h]
theorem mdl_len(n:Nat)(t:List Cl)(k:Nat):(mdl n t k).length<=k:=by
 unfold mdl;rw[List.length_map];exact Nat.le_trans (List.length_filter_le _ _) (by rw[List.length_range];exact Nat.le_refl _)
theorem rv_ok{n k:Nat}(hn:n<=12)(hk:k<2^n):(St.mk (rvN n k) 0).ok/\∀v:Int,(n:Int)<v->(St.mk (rvN n k) 0).mem v=false:=by
 have h1:=rvN_lt n k;have h2:2^n<=2^12:=Nat.pow_le_pow_right (by decide) hn;refine⟨⟨by show _<U64;unfold U64;show rvN n k<_;omega,by show(0:Nat)<U64;unfold U64;decide⟩,fun v hv=>?_⟩;unfold St.mem
 split
 ·show(rvN n k).testBit _=false
  refine Nat.testBit_lt_two_pow (Nat.lt_of_lt_of_le h1 (Nat.pow_le_pow_right (by decide) ?_));omega
 split
 ·exact Nat.zero_testBit _
 rfl
theorem models5_any(n:Nat)(hn:n<=12)(a:Option Addr)(cap:Nat)(t:List Cl)(w:World)(ht:tOk n t)(hx:LsCells w a t):
 Calls Tryz.prog 40 #[.agg #[.int .i64 (n:Int),.slice a t.length cap]] w fun e w'=>∃oa oc,e=.returned (.slice oa (mdl n t (2^n)).length oc)/\OwnL stk 29 2 w' w.heap.size (.slice oa (mdl n t (2^n)).length oc) (mdl n t (2^n))/\Below w.heap.size w w':=by
 obtain⟨w0,hw0⟩:=nm (w.alloc (.cells #[.int .i64 (n:Int),.slice a t.length cap] 26))
 have hb0:Below w.heap.size w w0:=by rw[hw0];exact ba _ _
 have q0:Blk w0 w.heap.size #[.int .i64 (n:Int),.slice a t.length cap] 26:=by rw[hw0];exact Blk.new _ _ _
 obtain⟨P,hP⟩:∃P:Nat,P=2^n:=⟨_,rfl⟩
 have hP12:P<=4096:=by rw[hP];exact(Nat.pow_le_pow_right (by decide) hn:2^n<=2^12)
 have htle:=ht.len;have HCK:=lh (check5_any n a cap t w0 (by omega) (fun c hc=>by have:=(ht.cl c hc).1;omega) (hx.keep hb0));rw[(zng (by omega)).2 ht]at HCK;have HAS:=lh (fun V k(hk:k<P)=>asg5_any n k hn (by rw[<-hP];exact hk) V);have HEV:=lh (fun V(hV:Below w.heap.size w V)k(hk:k<P)=>eval5_ok n (by omega) a cap t ⟨rvN n k,0⟩ V ht (hx.keep hV) (rv_ok hn (by rw[<-hP];exact hk)).1 (rv_ok hn (by rw[<-hP];exact hk)).2)
 have hshl:IntKind.i64.wrap ((2:Int)^n)=(P:Int):=by
  rw[show((2:Int)^n)=((2^n:Nat):Int)by push_cast;rfl,<-hP];exact IntWalk.i64_in _ ⟨by omega,by omega⟩
 have hshl2:wrap64 ((2:Int)^n)=(P:Int):=by
  rw[show((2:Int)^n)=((2^n:Nat):Int)by push_cast;rfl,<-hP];exact IntWalk.wrap64_in _ (by omega)
 rw[<-hP];have HB0:=lh hb0;have HQ0:=lh q0;have HS1:=lh hshl;have HS2:=lh hshl2;have k0:=q0.cell 0;have k1:=q0.cell 1;have kz:=q0.lt
 have hn64:(n:Int)<64:=by omega
 have hn12:¬(12<(n:Int)):=by omega
 clear hb0 q0 hx ht hP htle hshl hshl2;go_enter Tryz.func40,Tryz.ntmps40;go_wp2_with fail;rw[<-hw0];clear hw0;refine HCK.o.mono ?_;rintro e w1⟨rfl,hb1⟩;have HB1:=bt HB0 hb1;have HQ1:=lh (HQ0.o.later hb1);clear hb1 k0 k1 kz HCK HB0 HQ0;have k0:=HQ1.o.cell 0;have k1:=HQ1.o.cell 1;have kz:=HQ1.o.lt;go_wp2_with fail;clear k0 k1 kz
 go_loopw[3,4](fun v3 v4 wr=>∃(k:Nat)(oa:Option Addr)(oc:Nat),k<=P/\v4=.int .i64 k/\v3=.slice oa (mdl n t k).length oc/\OwnL stk 29 2 wr (w.heap.size+1) (.slice oa (mdl n t k).length oc) (mdl n t k)/\Blk wr w.heap.size #[.int .i64 (n:Int),.slice a t.length cap] 26/\Below w.heap.size w wr)(fun _ v4 _=>P-(intOf v4).toNat)
 case atStart=>exact⟨0,none,0,Nat.zero_le _,rfl,rfl,OwnL.nil _ _,HQ1.o,HB1.o⟩
 obtain⟨k,oa,oc,hk,rfl,rfl,ho,hq,hb⟩:=hrel;have HO:=lh ho;have HQ:=lh hq;have HB:=lh hb;have k0:=hq.cell 0;have k1:=hq.cell 1;have kz:=hq.lt;clear ho hq hb
 by_cases hlt:k<P
 ·have hki:(k:Int)<(P:Int):=by omega
  have HAK:=lh (fun V=>HAS.o V k hlt);have HEK:=lh (fun V hV=>HEV.o V hV k hlt)
  have HLE:Hid ((mdl n t k).length<=1073741824):=by show _<=_;have:=mdl_len n t k;omega
  have HMS:=lh (mdl_succ n t k);unfold stv at HAK HEK;generalize rvN n k=r at*;have hs2:=HS2.o;go_wp2_with fail;refine(HAK.o _).mono ?_;rintro e w2⟨rfl,hb2⟩;obtain⟨w3,hw3⟩:=nm (w2.alloc (.cells #[.int .u64 (r:Int),.int .u64 0] 29))
  have hb23:Below w2.heap.size w2 w3:=by rw[hw3];exact ba _ _
  have q3:Blk w3 w2.heap.size #[.int .u64 (r:Int),.int .u64 0] 29:=by rw[hw3];exact Blk.new _ _ _
  obtain⟨sb,hsb⟩:=nm w2.heap.size;rw[<-hsb]at q3;have hb3:=hb2.trans (hb23.mono hb2.size);have HB3:=bt HB hb3;have HO3:=lh (HO.o.later hb3);have HQ3:=lh (HQ.o.later hb3);clear k0 k1 kz hs2 HAK hb2 hb23 HB HO HQ
  go_upto_region 8 with fail
  rw[<-hw3,<-hsb];clear hw3 hsb;have k0:=HQ3.o.cell 0;have k1:=HQ3.o.cell 1;have kz:=HQ3.o.lt;have s0:=q3.cell 0;have s1:=q3.cell 1;have sz:=q3.lt;go_wp2_with fail;refine(HEK.o _ HB3.o).mono ?_;rintro e w4⟨rfl,hb4⟩;have HB4:=bt HB3 hb4;have HO4:=lh (HO3.o.later hb4);have HQ4:=lh (HQ3.o.later hb4);have q4:=q3.later hb4;have s0':=q4.cell 0;have s1':=q4.cell 1;have sz':=q4.lt;clear k0 k1 kz s0 s1 sz hb3 hb4 HEK HB3 HO3 HQ3 q3 q4
  cases hev:evL (St.mem ⟨r,0⟩) t with
  |true=>
    rw[hev,if_pos rfl]at HMS
    have HL1:Hid ((mdl n t (k+1)).length=(mdl n t k).length+1):=by show _=_;rw[HMS.o];simp
    have HZ4:Hid (w.heap.size+1<=w4.heap.size):=HQ4.o.lt;clear hev;generalize mdl n t k=M at*;go_wp2_with(at_builtin;go_loud(refine zlx (C:=#[.int .u64 (r:Int),.int .u64 0]) elemSt rfl _ _ rfl (w.heap.size+1) (.slice oa M.length oc) M ⟨r,0⟩ rfl HO4.o rfl rfl rfl (stk_one ⟨r,0⟩) HLE.o (by decide) HZ4.o ?_));intro g5 cap5 w5 ho5 hg5 hgn5;rw[<-HL1.o,<-HMS.o]at ho5;have HO5:=lh ho5
    have hge:∀j,(Value.slice oa M.length oc).ownBlock=some j->w.heap.size+1<=j:=fun j hj=>(World.ownsRow.lt HO4.o j hj).1
    have HQ5:=lh (HQ4.o.kept (Kp.grown (M:=fun j=>(Value.slice oa M.length oc).ownBlock=some j) hg5 (fun j e=>e)) (fun e=>by have:=hge _ e;omega));have HB5:Hid (Below w.heap.size w w5):=HB4.o.grown hg5 HB4.o.size (fun j hj=>by have:=hge j hj;omega);rw[<-HL1.o];clear ho5 hg5 hgn5 hge s0' s1' sz';go_wp2_with fail;go_roundw
    case rel=>exact⟨k+1,some ⟨g5,0,none⟩,cap5,by omega,by go_num,rfl,HO5.o,HQ5.o,HB5.o⟩
    case measure=>simp[intOf];omega
  |false=>
    rw[hev]at HMS;have HMS2:Hid (mdl n t (k+1)=mdl n t k):=HMS.o
    have HO5:Hid (OwnL stk 29 2 w4 (w.heap.size+1) (.slice oa (mdl n t (k+1)).length oc) (mdl n t (k+1))):=by rw[HMS2.o];exact HO4.o
    rw[<-HMS2.o];clear hev;go_wp2_with fail;go_roundw
    case rel=>exact⟨k+1,oa,oc,by omega,by go_num,rfl,HO5.o,HQ4.o,HB4.o⟩
    case measure=>simp[intOf];omega
 obtain rfl:k=P:=by omega
 have hs2:=HS2.o;go_wp2;go_ret;exact⟨oa,oc,rfl,HO.o.lower (by omega),HB.o⟩
def cellN(n:Nat)(f:(Int->Bool)->Bool)(l:List Pr):Nat:=cnt (fun x=>f x&&satP n l x) n fun _=>false
theorem par_more{D:Int->Bool}{n:Nat}(hD:∀v:Int,(n:Int)<v->D v=false)(x:Int->Bool):∀m,n<=m->par D m x=par D n x
 |0,h=>by rw[show n=0 by omega]
 |m+1,h=>by
   by_cases e:n=m+1
   ·rw[e]
   rw[par,par_more hD x m (by omega),hD _ (by omega),Bool.false_and]
   cases par D n x<;>rfl
theorem satP_more{n:Nat}{l:List Pr}(hn:n<=128)(h:∀p∈l,∀v,p.v.mem v=true->v<=n)(x:Int->Bool):satP 128 l x=satP n l x:=by
 unfold satP;rw[Bool.eq_iff_iff,List.all_eq_true,List.all_eq_true]
 refine forall_congr' fun p=>forall_congr' fun hp=>?_
 have e:gP 128 p x=gP n p x:=by
  unfold gP
  rw[par_more (n:=n) (fun v hv=>by
   cases hm:p.v.mem v with
   |false=>rfl
   |true=>have:=h p hp v hm;omega) x 128 hn]
 rw[e]
theorem mdl_count(n:Nat)(t:List Cl)(f:St->Bool):∀k,((mdl n t k).filter f).length=sumE (fun j=>if evL (St.mem ⟨rvN n j,0⟩) t&&f ⟨rvN n j,0⟩then 1 else 0) k
 |0=>rfl
 |k+1=>by
   rw[mdl_succ,sumE,<-mdl_count n t f k]
   cases h:evL (St.mem ⟨rvN n k,0⟩) t with
   |false=>simp
   |true=>
     rw[if_pos rfl,List.filter_append,List.length_append]
     cases hf:f ⟨rvN n k,0⟩<;>simp[hf]
theorem mdl_cell{n:Nat}(hn:n<=64)(t:List Cl){l:List Pr}(h:∀p∈l,∀v,p.v.mem v=true->v<=n):((mdl n t (2^n)).filter fun s=>satP 128 l s.mem).length=cellN n (fun x=>evL x t) l:=by
 rw[mdl_count];unfold cellN;rw[cnt_rvN hn]
 refine za3 _ fun j _=>?_
 show(if(evL (St.mem ⟨rvN n j,0⟩) t&&satP 128 l (St.mem ⟨rvN n j,0⟩))=true then 1 else 0)=_
 rw[satP_more (by omega) h]
theorem satP_tk1{l:List Pr}{k:Nat}(hk:k<l.length)(N:Nat)(x:Int->Bool):satP N (l.take (k+1)) x=(satP N (l.take k) x&&!gP N l[k] x):=by
 unfold satP;rw[List.take_succ_eq_append_getElem hk,List.all_append]
 simp
theorem elemPr5:Elem 46 94 3 24 (prv Pr.zero):=.mk Tryz.underlying46 (by kernel_rfl) rfl (by decide)
abbrev OwnP5:=OwnL prc 94 3
theorem seeds5_any(n m:Int)(w:World):Calls Tryz.prog 86 #[.int .i64 n,.int .i64 m] w fun e w'=>e=.returned (.int .i64 (zjy n m))/\w=w':=by
 have HS:Hid (zjy n m=if n<0\/128<n\/m<0\/16<m then 0 else m*(n+1)):=rfl
 by_cases h:n<0\/128<n\/m<0\/16<m
 ·have HE:Hid (zjy n m=0):=by show _=_;rw[HS.o,if_pos h]
  clear HS
  have h1:n<0\/¬n<0:=by omega
  rcases h1 with h1|h1
  ·go_enter Tryz.func86,Tryz.ntmps86;go_wp2;go_ret;exact⟨by rw[HE.o];rfl,rfl⟩
  have h2:128<n\/¬128<n:=by omega
  rcases h2 with h2|h2
  ·go_enter Tryz.func86,Tryz.ntmps86;go_wp2;go_ret;exact⟨by rw[HE.o];rfl,rfl⟩
  have h3:m<0\/¬m<0:=by omega
  rcases h3 with h3|h3
  ·go_enter Tryz.func86,Tryz.ntmps86;go_wp2;go_ret;exact⟨by rw[HE.o];rfl,rfl⟩
  have h4:16<m:=by omega
  go_enter Tryz.func86,Tryz.ntmps86;go_wp2;go_ret;exact⟨by rw[HE.o];rfl,rfl⟩
 have HE:Hid (zjy n m=m*(n+1)):=by show _=_;rw[HS.o,if_neg h]
 have h1:¬n<0:=by omega
 have h2:¬128<n:=by omega
 have h3:¬m<0:=by omega
 have h4:¬16<m:=by omega
 have h5:m*(n+1)<=2064:=by
  have a1:m*(n+1)<=16*(n+1):=Int.mul_le_mul_of_nonneg_right (by omega) (by omega);omega
 have h6:0<=m*(n+1):=Int.mul_nonneg (by omega) (by omega);clear h HS;go_enter Tryz.func86,Tryz.ntmps86;go_wp2;go_ret;exact⟨by rw[HE.o];rfl,rfl⟩
theorem setB_a_lt(f:Nat->Bool):∀k,k<=64->(setB f k).a<2^k
 |0,_=>by simp[setB,St.zero]
 |k+1,h=>by
   have ih:=setB_a_lt f k (by omega);have h2:(setB f k).a<2^(k+1):=Nat.lt_trans ih (Nat.pow_lt_pow_right (by omega) (Nat.lt_succ_self _));rw[setB]
   split
   ·unfold St.add;rw[if_pos (by omega)];exact Nat.or_lt_two_pow h2 (by rw[show((k:Int)+1-1).toNat=k by omega];exact Nat.pow_lt_pow_right (by omega) (Nat.lt_succ_self _))
   exact h2
theorem setB_b_lt(f:Nat->Bool):∀k,k<=128->(setB f k).b<2^(k-64)
 |0,_=>by simp[setB,St.zero]
 |k+1,h=>by
   have ih:=setB_b_lt f k (by omega);have h2:(setB f k).b<2^(k+1-64):=Nat.lt_of_lt_of_le ih (Nat.pow_le_pow_right (by omega) (by omega));rw[setB]
   split
   ·unfold St.add
    by_cases h64:k<64
    ·rw[if_pos (by omega)];exact h2
    rw[if_neg (by omega),if_pos (by omega)];exact Nat.or_lt_two_pow h2 (Nat.pow_lt_pow_right (by omega) (by omega))
   exact h2
theorem or_add{x i:Nat}(h:x<2^i):x|||2^i=x+2^i:=by
 have:=Nat.two_pow_add_eq_or_of_lt h 1;rw[Nat.mul_one]at this;rw[Nat.or_comm,<-this,Nat.add_comm]
theorem pars5_bad(a:Option Addr)(cap:Nat)(bs:List Nat)(n m:Int)(w:World)(hl:bs.length<=1073741824)(hb:parsBad n m bs.length):
 Calls Tryz.prog 48 #[.slice a bs.length cap,.int .i64 n,.int .i64 m] w fun e w'=>e=.returned (.tuple #[.slice none 0 0,.int .i64 1])/\w=w':=by
 unfold parsBad at hb
 have h1:n<0\/¬n<0:=by omega
 rcases h1 with h1|h1
 ·clear hb;go_enter Tryz.func48,Tryz.ntmps48;go_wp2;go_ret2;exact⟨rfl,rfl⟩
 have h2:128<n\/¬128<n:=by omega
 rcases h2 with h2|h2
 ·clear hb;go_enter Tryz.func48,Tryz.ntmps48;go_wp2;go_ret2;exact⟨rfl,rfl⟩
 have h3:m<0\/¬m<0:=by omega
 rcases h3 with h3|h3
 ·clear hb;go_enter Tryz.func48,Tryz.ntmps48;go_wp2;go_ret2;exact⟨rfl,rfl⟩
 have h4:16<m\/¬16<m:=by omega
 rcases h4 with h4|h4
 ·clear hb;go_enter Tryz.func48,Tryz.ntmps48;go_wp2;go_ret2;exact⟨rfl,rfl⟩
 have h5:8*(bs.length:Int)<m*(n+1):=by omega
 have HSE:=lh (fun V=>seeds5_any n m V);rw[show zjy n m=m*(n+1)by unfold zjy;rw[if_neg (by omega)]]at HSE;clear hb;generalize m*(n+1)=s at*;go_enter Tryz.func48,Tryz.ntmps48;go_wp2_with fail;refine(HSE.o _).mono ?_;rintro e w'⟨rfl,rfl⟩;go_wp2;go_ret2;exact⟨rfl,rfl⟩
theorem sat45_any(s:St)(p:Pr)(w:World)(hs:s.ok)(hp:p.ok):Calls Tryz.prog 41 #[.agg #[.int .u64 (s.a:Int),.int .u64 (s.b:Int)],.agg #[.int .u64 (p.v.a:Int),.int .u64 (p.v.b:Int),.bool p.odd]] w fun e w'=>e=.returned (.bool (!gP 128 p s.mem))/\Below w.heap.size w w':=by
 obtain⟨w0,hw0⟩:=nm ((w.alloc (.cells #[.int .u64 (s.a:Int),.int .u64 (s.b:Int)] 29)).alloc (.cells #[.int .u64 (p.v.a:Int),.int .u64 (p.v.b:Int),.bool p.odd] 94))
 have hb0:Below w.heap.size w w0:=by rw[hw0];exact(ba _ _).alloc (by simp) _
 have q0:Blk w0 w.heap.size #[.int .u64 (s.a:Int),.int .u64 (s.b:Int)] 29:=by rw[hw0];exact(Blk.new _ _ _).alloc _
 have q1:Blk w0 (w.heap.size+1) #[.int .u64 (p.v.a:Int),.int .u64 (p.v.b:Int),.bool p.odd] 94:=by rw[hw0];exact Blk.new' _ (by simp) _ _
 have HHS:=lh (fun v V=>has5_any s v V hs);have HHP:=lh (fun v V=>has5_any p.v v V hp);unfold stv at HHS HHP;have HB0:=lh hb0;have HQ0:=lh q0;have HQ1:=lh q1;clear hb0 q0 q1 hs hp;go_enter Tryz.func41,Tryz.ntmps41;go_wp2_with fail;rw[<-hw0];clear hw0
 go_loopw[5,6](fun o i wr=>∃v:Nat,v<=128/\i=.int .i64 ((v:Int)+1)/\o=.bool (par p.v.mem v s.mem)/\Below w0.heap.size w0 wr)(fun _ i _=>130-(intOf i).toNat)
 case atStart=>exact⟨0,by decide,rfl,rfl,Below.refl _ _⟩
 obtain⟨v,hv,rfl,rfl,hb⟩:=hrel;have HB:=lh hb;have HQA:=lh (HQ0.o.later hb);have HQB:=lh (HQ1.o.later hb);have HBW:=bt HB0 hb;clear hb
 by_cases hlt:v<128
 ·have hvi:(v:Int)+1<=128:=by omega
  have HS:=lh (HHS.o ((v:Int)+1));have HP:=lh (HHP.o ((v:Int)+1));have HPS:Hid (par p.v.mem (v+1) s.mem=(par p.v.mem v s.mem !=(p.v.mem ((v:Int)+1)&&s.mem ((v:Int)+1)))):=rfl;have c0:=HQA.o.cell 0;have c1:=HQA.o.cell 1;have cz:=HQA.o.lt
  cases hsv:s.mem ((v:Int)+1)with
  |false=>
    rw[hsv]at HS HPS;rw[Bool.and_false]at HPS
    have HPS2:Hid (par p.v.mem (v+1) s.mem=par p.v.mem v s.mem):=by show _=_;rw[HPS.o];cases par p.v.mem v s.mem<;>rfl
    clear hsv;go_wp2_with fail;refine(HS.o _).mono ?_;rintro e w1⟨rfl,hb1⟩;have HB1:=bt HB hb1;clear hb1 c0 c1 cz;go_wp2_with fail;go_roundw
    case rel=>exact⟨v+1,by omega,by go_num,by rw[HPS2.o],HB1.o⟩
    case measure=>simp[intOf];omega
  |true=>
    rw[hsv]at HS HPS;rw[Bool.and_true]at HPS;clear hsv
    cases hpv:p.v.mem ((v:Int)+1)with
    |false=>
      rw[hpv]at HP HPS
      have HPS2:Hid (par p.v.mem (v+1) s.mem=par p.v.mem v s.mem):=by show _=_;rw[HPS.o];cases par p.v.mem v s.mem<;>rfl
      clear hpv;go_wp2_with fail;refine(HS.o _).mono ?_;rintro e w1⟨rfl,hb1⟩;have HB1:=bt HB hb1;have HQ:=lh (HQB.o.later hb1);clear hb1 c0 c1 cz;have c0:=HQ.o.cell 0;have c1:=HQ.o.cell 1;have cz:=HQ.o.lt;go_wp2_with fail;refine(HP.o _).mono ?_;rintro e w2⟨rfl,hb2⟩;have HB2:=bt HB1 hb2;clear hb2 c0 c1 cz;go_wp2_with fail;go_roundw
      case rel=>exact⟨v+1,by omega,by go_num,by rw[HPS2.o],HB2.o⟩
      case measure=>simp[intOf];omega
    |true=>
      rw[hpv]at HP HPS
      have HPS2:Hid (par p.v.mem (v+1) s.mem=!par p.v.mem v s.mem):=by show _=_;rw[HPS.o];cases par p.v.mem v s.mem<;>rfl
      clear hpv;go_wp2_with fail;refine(HS.o _).mono ?_;rintro e w1⟨rfl,hb1⟩;have HB1:=bt HB hb1;have HQ:=lh (HQB.o.later hb1);clear hb1 c0 c1 cz;have c0:=HQ.o.cell 0;have c1:=HQ.o.cell 1;have cz:=HQ.o.lt;go_wp2_with fail;refine(HP.o _).mono ?_;rintro e w2⟨rfl,hb2⟩;have HB2:=bt HB1 hb2;clear hb2 c0 c1 cz;go_wp2_with fail;go_roundw
      case rel=>exact⟨v+1,by omega,by go_num,by rw[HPS2.o],HB2.o⟩
      case measure=>simp[intOf];omega
 obtain rfl:v=128:=by omega
 have c2:=HQB.o.cell 2;have cz:=HQB.o.lt
 have HR:Hid ((par p.v.mem 128 s.mem==p.odd)=!gP 128 p s.mem):=by show _=_;unfold gP;rw[bne,Bool.not_not]
 generalize par p.v.mem 128 s.mem=o at*;clear hlt;go_wp2_with fail;go_ret;exact⟨by rw[<-HR.o];rfl,HBW.o⟩
def SpPost(l:List Pr)(w:World)(e:Ending)(w':World):Prop:=∃(oa:Option Addr)(oc:Nat),e=.returned (.slice oa l.length oc)/\OwnP5 w' w.heap.size (.slice oa l.length oc) l/\Below w.heap.size w w'
theorem spec45_any(a:Option Addr)(cap:Nat)(l:List Pr)(w:World)(hl:l.length<=1073741824)(hx:PrCells w a l):
 Calls Tryz.prog 15 #[.slice a l.length cap] w (SpPost l w):=by
 have HX:=lh hx;clear hx;go_enter Tryz.func15,Tryz.ntmps15;go_wp2_with fail
 go_loopw[3,8](fun v i wr=>∃(k:Nat)(va:Option Addr)(vc:Nat),k<=l.length/\i=.int .i64 k/\v=.slice va k vc/\OwnP5 wr w.heap.size (.slice va k vc) (l.take k)/\Below w.heap.size w wr)(fun _ i _=>l.length-(intOf i).toNat)
 case atStart=>exact⟨0,none,0,Nat.zero_le _,rfl,rfl,OwnL.nil _ _,Below.refl _ _⟩
 obtain⟨k,va,vc,hk,rfl,rfl,hown,hb⟩:=hrel;have HO:=lh hown;have HB:=lh hb;have HXR:=lh (HX.o.keep hb);clear hown hb
 by_cases hlt:k<l.length
 ·obtain⟨b2,off2,hae,c0,c1,c2⟩:=HXR.o.at hlt
  have hki:(k:Int)<(l.length:Int):=by omega
  have zb:=zai c0;have HNX:Hid (l.take (k+1)=l.take k++[l[k]]):=List.take_succ_eq_append_getElem hlt
  have HTL:Hid ((l.take k).length=k):=by show _=_;rw[List.length_take];omega
  generalize l[k]=p at*;generalize l.take k=L at*
  have HLN:Hid (L.length<=1073741824):=by show _<=_;rw[HTL.o];omega
  subst hae;obtain⟨V,hV⟩:=nm (wr.alloc (.cells #[.int .u64 (p.v.a:Int),.int .u64 (p.v.b:Int),.bool p.odd] 31))
  have hbv:Below wr.heap.size wr V:=by rw[hV];exact ba _ _
  have qv:Blk V wr.heap.size #[.int .u64 (p.v.a:Int),.int .u64 (p.v.b:Int),.bool p.odd] 31:=by rw[hV];exact Blk.new _ _ _
  have HOV:=lh (HO.o.later hbv);have HBV:=bt HB hbv
  go_upto_region 5 with fail
  rw[<-hV];clear hV hbv c0 c1 c2 zb;have d0:=qv.cell 0;have d1:=qv.cell 1;have d2:=qv.cell 2;have dz:=qv.lt;clear qv;go_wp2_with(at_builtin;go_loud(refine zlx (C:=#[.int .u64 (p.v.a:Int),.int .u64 (p.v.b:Int),.bool p.odd]) elemPr5 rfl _ _ rfl w.heap.size (.slice va k vc) L p rfl HOV.o rfl rfl rfl (zp8 p) HLN.o (by decide) HBV.o.size ?_));intro g5 cap5 w5 ho5 hg5 hgn5;rw[HTL.o]at ho5⊢
  have HO5:Hid (OwnP5 w5 w.heap.size (.slice (some ⟨g5,0,none⟩) (k+1) cap5) (l.take (k+1))):=by rw[HNX.o];exact ho5
  have HB5:Hid (Below w.heap.size w w5):=HBV.o.grown hg5 HBV.o.size (fun q hq=>(World.ownsRow.lt HOV.o q hq).1);clear ho5 hg5 hgn5 d0 d1 d2 dz;go_wp2;go_roundw
  case rel=>exact⟨k+1,some ⟨g5,0,none⟩,cap5,by omega,by go_num,rfl,HO5.o,HB5.o⟩
  case measure=>simp[intOf];omega
 obtain rfl:k=l.length:=by omega
 rw[List.take_length]at HO
 have hkn:¬((l.length:Int)<(l.length:Int)):=by omega
 go_wp2;go_ret;exact⟨_,_,rfl,HO.o,HB.o⟩
theorem writeByte_any(B b:Nat)(bs:List Value)(x:Nat)(w:World)(h:SBld B b bs w)(hlen:bs.length<=1000000000)(hBw:B<=w.heap.size):
 Calls Tryz.prog 45 #[.pointer (some ⟨b,0,none⟩),.int .u8 (x:Int)] w fun e w'=>(∃v,e=.returned v)/\(SBld B b (bs++[.int .u8 (x:Int)]) w'/\Below B w w'):=by
 have HL:=lh hlen;have HS:=lh h;clear hlen h;go_enter Tryz.func45,Tryz.ntmps45;go_wp2_with fail;refine(copyCheck_any B b bs _ HS.o).mono ?_;rintro e w1⟨rfl,h1,hb1⟩;obtain⟨hB,v,hbk,hown,hne⟩:=h1
 have c0:w1.cell? ⟨b,0,none⟩=some (.pointer (some ⟨b,0,none⟩)):=by rw[Lib.cell_of_heap hbk];rfl
 have c1:w1.cell? ⟨b,1,none⟩=some v:=by rw[Lib.cell_of_heap hbk];rfl
 have HBK:=lh hbk;have HB1:=lh hb1;have HNE:=lh hne;clear hbk hb1 hne;go_wp2_with(at_builtin;go_loud(refine app1 (C:=#[.int .u8 (x:Int)]) elem8 rfl _ _ rfl B v bs.length bs rfl hown rfl rfl (by intro u hu;simp at hu;subst hu;rfl) ?c3 ?c4 ?c5 ?_))
 case c3=>have:=HL.o;unfold maxLen;omega
 case c4=>have:=HL.o;omega
 case c5=>have:=HB1.o.size;omega
 intro v' w2 hown' hgrow _;have hlt:b<w1.heap.size:=lt_of_block HBK.o
 have hb2:w2.heap[b]?=some (.cells #[.pointer (some ⟨b,0,none⟩),v] 102 (0,0)):=by
  rw[hgrow.block b hlt (fun e=>HNE.o e.symm)];exact HBK.o
 have d0:w2.cell? ⟨b,0,none⟩=some (.pointer (some ⟨b,0,none⟩)):=by rw[Lib.cell_of_heap hb2];rfl
 have d1:w2.cell? ⟨b,1,none⟩=some v:=by rw[Lib.cell_of_heap hb2];rfl
 have f1:w2.frozen? ⟨b,1,none⟩=false:=Lib.frozen_of_heap hb2 1;have HB2:=lh hb2;have HO:=lh hown';have HOW:=lh hown;have HG:=lh hgrow
 obtain⟨ao,n',cap,rfl⟩:∃ao n' cap,v'=.slice ao n' cap:=by
  rcases hown'.2 with⟨hv,_⟩|⟨g,cap,cur,hv,_⟩
  ·exact⟨_,_,_,hv⟩
  exact⟨_,_,_,hv⟩
 clear hown hown' hgrow hb2 c0 c1;go_wp2;go_ret;refine⟨⟨_,rfl⟩,.inr ?_,?_⟩
 ·exact Lib.BuilderAt.put (T:=102) (e:=5) hB HB2.o (bs':=bs++[.int .u8 (x:Int)]) (by simpa using HO.o) (by decide)
 exact(HB1.o.grown HG.o (by have:=HB1.o.size;omega) (fun k hk=>(HOW.o.lt k hk).1)).setCell (p:=⟨b,1,none⟩) hB _
end Go.Proofs.YtnlaakmglhjjmaaGreatDoor
