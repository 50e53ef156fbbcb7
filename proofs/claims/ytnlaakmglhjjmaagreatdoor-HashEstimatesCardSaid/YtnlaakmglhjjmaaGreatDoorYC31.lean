/- Parts of the proofs of laws. Texts: Tz, Members, MemP, Memb, First, Ha, Hb, NatA. -/
import Derived.Lib.TrailingZeros
import Derived.RangeFuncNested
import Derived.RangeFuncBound
import Derived.Test.YtnlaakmglhjjmaaGreatDoorYC6
set_option maxHeartbeats 8000000
set_option maxRecDepth 100000
set_option linter.all false
namespace Go.Proofs.YtnlaakmglhjjmaaGreatDoor
open Go.RowKit Cen
def Dtab(w:World):Prop:=∀j,j<64->w.cell? ⟨0,j,none⟩=some (.int .u8 (Lib.deBruijn64tab.getD j 0:Nat))
theorem Dtab.keep{w w':World}(h:Dtab w)(hb:Below w.heap.size w w'):Dtab w':=fun j hj=>zab hb (h j hj)
theorem ydk(x a:Nat)(hx:x<U64)(hx0:x≠0)(hlow:x&&&(18446744073709551616-x)=a):
 IntKind.u64.wrap (bits BinOp.and IntKind.u64 (x:Int) (IntKind.u64.wrap (-(x:Int)))*285870213051353865)/288230376151711744=((a*285870213051353865%18446744073709551616/288230376151711744:Nat):Int):=by
 unfold U64 at hx
 have e1:IntKind.u64.wrap (-(x:Int))=((18446744073709551616-x:Nat):Int):=by rw[IntKind.wrap_u64];omega
 rw[e1,ztt (by unfold U64;omega) (by unfold U64;omega),hlow,IntKind.wrap_u64];omega
theorem zwe(x k idx:Nat)(w:World)(hx1:((x:Int)==0)=false)
 (key:IntKind.u64.wrap (bits BinOp.and IntKind.u64 (x:Int) (IntKind.u64.wrap (-(x:Int)))*285870213051353865)/288230376151711744=(idx:Int))
 (hi:idx<64)(hk:k<64)(hcell:w.cell? ⟨0,idx,none⟩=some (.int .u8 k)):
 Calls Tryz.prog 140 #[.int .u64 (x:Int)] w fun e w'=>e=.returned (.int .i64 k)/\w=w':=by
 go_enter Tryz.func140,Tryz.ntmps140;go_wp2_with(simp only[key]);go_ret;exact⟨rfl,rfl⟩
theorem zr1(x:Nat)(hx:x<U64)(hx0:x≠0)(w:World)(hT:Dtab w):
 Calls Tryz.prog 140 #[.int .u64 (x:Int)] w fun e w'=>e=.returned (.int .i64 (Lib.ctz 64 x:Nat))/\w=w':=by
 obtain⟨hlow,hk⟩:=Lib.lowest_bit 64 x hx0 (by unfold U64 at hx;exact hx);obtain⟨hi,htab⟩:=Lib.deBruijn64_at _ hk;have hcell:=hT _ hi;rw[htab]at hcell;exact zwe x _ _ w (by simp;omega) (ydk x _ hx hx0 hlow) hi hk hcell
theorem ybc{x i:Nat}(h0:x≠0)(h:x<2^64):(x&&&(x-1)).testBit i=(x.testBit i&&decide (i≠Lib.ctz 64 x)):=by
 obtain⟨m,hm,_⟩:=Lib.ctzFrom_spec 64 x (by omega) h
 have e:Lib.ctz 64 x=Lib.ctzFrom 64 x:=by simp[Lib.ctz,h0]
 rw[e];generalize Lib.ctzFrom 64 x=c at*;have hp:0<2^c:=Nat.pow_pos (by omega)
 have e1:x-1=2^c*(2*m)+(2^c-1):=by rw[hm,Nat.mul_add,Nat.mul_one];omega
 have b1:∀i,x.testBit i=(decide (c<=i)&&(2*m+1).testBit (i-c)):=fun i=>by rw[hm,Nat.mul_comm,Nat.testBit_mul_two_pow]
 have b2:∀i,(x-1).testBit i=if i<c then true else(2*m).testBit (i-c):=fun i=>by
  rw[e1,Nat.testBit_two_pow_mul_add _ (by omega)]
  split
  ·rename_i h;rw[Nat.testBit_two_pow_sub_one];simpa using h
  rfl
 rw[Nat.testBit_and,b1,b2]
 by_cases h1:i<c
 ·rw[decide_eq_false (show¬c<=i by omega)];simp
 rw[if_neg h1,decide_eq_true (show c<=i by omega)]
 by_cases h2:i=c
 ·subst h2;simp
 rw[decide_eq_true h2,Bool.and_true,Bool.true_and]
 obtain⟨j,hj⟩:∃j,i-c=j+1:=⟨i-c-1,by omega⟩
 rw[hj,Nat.testBit_succ,Nat.testBit_succ,show(2*m+1)/2=m by omega,show 2*m/2=m by omega,Bool.and_self]
theorem zvc{x:Nat}(h0:x≠0)(h:x<2^64):x.testBit (Lib.ctz 64 x)=true/\(∀j,j<Lib.ctz 64 x->x.testBit j=false)/\Lib.ctz 64 x<64:=by
 obtain⟨m,hm,hk⟩:=Lib.ctzFrom_spec 64 x (by omega) h
 have e:Lib.ctz 64 x=Lib.ctzFrom 64 x:=by simp[Lib.ctz,h0]
 rw[e];generalize Lib.ctzFrom 64 x=c at*
 have b1:∀i,x.testBit i=(decide (c<=i)&&(2*m+1).testBit (i-c)):=fun i=>by rw[hm,Nat.mul_comm,Nat.testBit_mul_two_pow]
 refine⟨?_,fun j hj=>?_,hk⟩
 ·rw[b1,decide_eq_true (Nat.le_refl c),Nat.sub_self];simp
 rw[b1,decide_eq_false (show¬c<=j by omega)];rfl
def zff(x:Nat):List Nat:=(List.range 64).filter fun i=>x.testBit i
theorem zm9:zff 0=[]:=by unfold zff;simp
theorem zgx{x:Nat}(h0:x≠0)(h:x<2^64):zff x=Lib.ctz 64 x::zff (x&&&(x-1)):=by
 obtain⟨h1,h2,h3⟩:=zvc h0 h
 have hoff:=fun i=>ybc (i:=i) h0 h
 generalize Lib.ctz 64 x=c at*;unfold zff
 have hs:List.range 64=List.range c++(c::(List.range (63-c)).map (·+(c+1))):=by
  apply List.ext_getElem
  ·simp;omega
  intro i a b;rw[List.getElem_range]
  by_cases e1:i<c
  ·rw[List.getElem_append_left (by simpa using e1),List.getElem_range]
  rw[List.getElem_append_right (by simpa using e1)];simp only[List.length_range]
  by_cases e2:i=c
  ·subst e2;simp
  obtain⟨j,hj⟩:∃j,i-c=j+1:=⟨i-c-1,by omega⟩
  simp only[hj,List.getElem_cons_succ,List.getElem_map,List.getElem_range];omega
 have f1:(List.range c).filter (fun i=>x.testBit i)=[]:=by
  rw[List.filter_eq_nil_iff];intro i hi;rw[h2 i (List.mem_range.1 hi)];simp
 have f2:(List.range c).filter (fun i=>(x&&&(x-1)).testBit i)=[]:=by
  rw[List.filter_eq_nil_iff];intro i hi;rw[hoff,h2 i (List.mem_range.1 hi)];simp
 rw[hs,List.filter_append,List.filter_append,f1,f2,List.filter_cons,List.filter_cons,if_pos h1,if_neg (by rw[hoff];simp),List.nil_append,List.nil_append]
 congr 1
 refine List.filter_congr fun i hi=>?_
 rw[List.mem_map]at hi;obtain⟨j,_,rfl⟩:=hi;rw[hoff,decide_eq_true (show j+(c+1)≠c by omega),Bool.and_true]
end Go.Proofs.YtnlaakmglhjjmaaGreatDoor
namespace Go.Proofs.YtnlaakmglhjjmaaGreatDoor
open Go.RowKit Go.Shelf Cen
attribute[local go_sem]Oper.semAt_some
def offs(wd:Nat)(x:Nat):List Int:=(zff x).map fun i:Nat=>64*(wd:Int)+(i:Int)+1
def memS(s:St):List Int:=offs 0 s.a++offs 1 s.b
def zha(s:St):Nat->List Int
 |0=>[]
 |1=>offs 0 s.a
 |_=>memS s
theorem zoe{x:Nat}(wd:Nat)(h0:x≠0)(h:x<2^64):offs wd x=(64*(wd:Int)+(Lib.ctz 64 x:Int)+1)::offs wd (x&&&(x-1)):=by
 unfold offs;rw[zgx h0 h,List.map_cons]
theorem zic(wd x:Nat):(offs wd x).length<=64:=by
 unfold offs zff;rw[List.length_map];have:=List.length_filter_le (fun i=>x.testBit i) (List.range 64)
 simpa using this
theorem zrg(s:St):(memS s).length<=128:=by
 unfold memS;rw[List.length_append];have:=zic 0 s.a;have:=zic 1 s.b;omega
theorem zm7{x:Nat}(h:x<U64)(h0:x≠0):bits .and .u64 (x:Int) (IntKind.u64.wrap ((x:Int)-1))=((x&&&(x-1):Nat):Int):=by
 have e:IntKind.u64.wrap ((x:Int)-1)=((x-1:Nat):Int):=by
  unfold U64 at h;rw[IntKind.wrap_u64];omega
 rw[e,ztt h (by unfold U64 at*;omega)]
theorem zp2(n:Nat)(hn:1<=n)(l Bs n₀:Nat)(s:St)(hs:s.ok)(J Jx:List Int->World->Prop)
 (hY:∀pre x W,J pre W->pre.length<128->YieldAt Fence.wide (n-1) Tryz.prog l #[.int .i64 x] W fun e W'=>
   (e=.returned (.bool true)/\J (pre++[x]) W'/\Below n₀ W W')\/(e=.returned (.bool false)/\Jx (pre++[x]) W'))
 (W:World)(hB0:W.cell? ⟨Bs,0,none⟩=some (.int .u64 (s.a:Int)))(hB1:W.cell? ⟨Bs,1,none⟩=some (.int .u64 (s.b:Int)))(hT:∀V,Below n₀ W V->Dtab V)(h0:J [] W):
 CallsIn Fence.wide n Tryz.prog 139 #[.func (.yield l) #[] #[],.pointer (some ⟨Bs,0,none⟩)] W fun e W'=>(∃v,e=.returned v)/\
  ((∃ys,ys=memS s/\J ys W')\/(∃pre,pre<+:memS s/\Jx pre W')):=by
 have HT:=lh hT;have HY:=lh hY
 have hi0:∀w,(Instr.index 29 (.agg #[.int .u64 (s.a:Int),.int .u64 (s.b:Int)]) (.int .i64 0)).run Tryz.prog w=.ok (.int .u64 (s.a:Int)) w:=fun _=>by kernel_rfl
 have hi1:∀w,(Instr.index 29 (.agg #[.int .u64 (s.a:Int),.int .u64 (s.b:Int)]) (.int .i64 1)).run Tryz.prog w=.ok (.int .u64 (s.b:Int)) w:=fun _=>by kernel_rfl
 clear hT hY;refine callsIn_of_wp Tryz.func139 rfl trivial ?_ rfl;simp only[Tryz.ntmps139,List.size_toArray,List.length_cons,List.length_nil,Nat.reduceAdd,Nat.reduceSub,Array.replicate_succ,Array.replicate_zero,List.push_toArray,List.append_toArray,List.nil_append,List.cons_append]
 gi_wp2
 gi_loopw[6](fun i wr=>((i=.int .i64 0/\J (zha s 0) wr)\/(i=.int .i64 1/\J (zha s 1) wr)\/(i=.int .i64 2/\J (zha s 2) wr))/\Below n₀ W wr)(fun i _=>2-(intOf i).toNat)
 case atStart=>exact⟨.inl ⟨rfl,h0⟩,Below.refl _ _⟩
 obtain⟨hcase,hb⟩:=hrel;have HB:=lh hb;clear hb
 rcases hcase with⟨rfl,hJ⟩|⟨rfl,hJ⟩|⟨rfl,hJ⟩
 ·have HJ:=lh hJ;clear hJ
  gi_wp2
  obtain⟨wo,rfl⟩:∃wo:World,wo=wr:=⟨_,rfl⟩
  gi_loopw[4](fun x wi=>∃(y:Nat)(pre:List Int),x=.int .u64 (y:Int)/\y<U64/\pre++offs 0 y=zha s 1/\J pre wi/\Below n₀ W wi)(fun x _=>(zff (intOf x).toNat).length)
  case atStart=>exact⟨s.a,[],rfl,hs.1,rfl,HJ.o,HB.o⟩
  obtain⟨wi,rfl⟩:∃wi:World,wi=wr:=⟨_,rfl⟩
  obtain⟨y,pre,rfl,hy1,hpre,hJi,hbi⟩:=hrel;have HJI:=lh hJi;have HBI:=lh hbi;have HPRE:=lh hpre;have HY1:=lh hy1;clear hJi hbi hpre hy1
  by_cases hy0:y=0
  ·subst hy0
   have HE:Hid (pre=zha s 1):=by
    have h:=HPRE.o;rw[show offs 0 0=[]by unfold offs;rw[zm9];rfl,List.append_nil]at h;exact h
   gi_wp2
   go_roundw
   case rel=>exact⟨.inr (.inl ⟨rfl,by rw[<-HE.o];exact HJI.o⟩),HBI.o⟩
   case measure=>simp[intOf]
  have hne:((y:Int)!=0)=true:=by simp;omega
  have hst:=zoe 0 hy0 (by have:=HY1.o;unfold U64 at this;exact this);have hbs:=zgx hy0 (by have:=HY1.o;unfold U64 at this;exact this);have hlo:=(zvc hy0 (by have:=HY1.o;unfold U64 at this;exact this)).2.2;have hand:=zm7 HY1.o hy0;have HTZ:=lh (fun V(hV:Below n₀ W V)=>zr1 y HY1.o hy0 V (HT.o V hV));have HY2:Hid ((y&&&(y-1))<U64):=zc7 HY1.o
  have hlen:pre.length<128:=by
   have h:=congrArg List.length HPRE.o;rw[hst,List.length_append,List.length_cons]at h;have h2:=zrg s;have h3:=zic 0 s.a;have h4:(zha s 1).length=(offs 0 s.a).length:=rfl;omega
  have HPX:Hid ((pre++[(Lib.ctz 64 y:Int)+1])++offs 0 (y&&&(y-1))=zha s 1):=by
   show _=_
   have h:=HPRE.o;rw[hst]at h;rw[List.append_assoc,<-h]
   simp
  have HBS:Hid ((zff (y&&&(y-1))).length<(zff y).length):=by show _<_;rw[hbs];simp
  generalize Lib.ctz 64 y=c at*
  have hc1:(c:Int)<=63:=by omega
  have hc0:(0:Int)<=(c:Int):=by omega
  obtain⟨z,hz⟩:=nm (y&&&(y-1));rw[<-hz]at hand HY2 HPX HBS;obtain⟨fn,tmps,assign,body,hy,hR⟩:=HY.o pre ((c:Int)+1) wi HJI.o hlen
  have HPP:Hid (∀q,pre++[(c:Int)+1]++q=zha s 1->pre++[(c:Int)+1]<+:memS s):=lh fun q hq=>by
   exact⟨q++offs 1 s.b,by rw[<-List.append_assoc,hq];rfl⟩
  clear hst hbs hlo hlen hz hy0
  gi_wp2_with(refine⟨trivial,?_⟩;gi_at_call 140;refine(callsIn_wide.2 (HTZ.o _ HBI.o)).mono ?_;rintro e w'⟨rfl,rfl⟩)
  refine hR.mono ?_;rintro e W3(⟨rfl,hJ3,hk3⟩|⟨rfl,hJx3⟩)
  ·have HJ3:=lh hJ3;have HB3:=lh (HBI.o.trans hk3);clear hJ3 hk3
   gi_wp2
   go_roundw
   case rel=>exact⟨z,_,rfl,HY2.o,HPX.o,HJ3.o,HB3.o⟩
   case measure=>simpa[intOf]using HBS.o
  have HJX:=lh hJx3;clear hJx3
  gi_wp2
  refine bodyPost_ret (results_none rfl _ _ _) rfl ?_;exact⟨⟨_,rfl⟩,.inr ⟨_,HPP.o _ HPX.o,HJX.o⟩⟩
 ·have HJ:=lh hJ;clear hJ
  ·skip
   gi_wp2
   obtain⟨wo,rfl⟩:∃wo:World,wo=wr:=⟨_,rfl⟩
   gi_loopw[4](fun x wi=>∃(y:Nat)(pre:List Int),x=.int .u64 (y:Int)/\y<U64/\pre++offs 1 y=zha s 2/\J pre wi/\Below n₀ W wi)(fun x _=>(zff (intOf x).toNat).length)
   case atStart=>exact⟨s.b,offs 0 s.a,rfl,hs.2,rfl,HJ.o,HB.o⟩
   obtain⟨wi,rfl⟩:∃wi:World,wi=wr:=⟨_,rfl⟩
   obtain⟨y,pre,rfl,hy1,hpre,hJi,hbi⟩:=hrel;have HJI:=lh hJi;have HBI:=lh hbi;have HPRE:=lh hpre;have HY1:=lh hy1;clear hJi hbi hpre hy1
   by_cases hy0:y=0
   ·subst hy0
    have HE:Hid (pre=zha s 2):=by
     have h:=HPRE.o;rw[show offs 1 0=[]by unfold offs;rw[zm9];rfl,List.append_nil]at h;exact h
    gi_wp2
    go_roundw
    case rel=>exact⟨.inr (.inr ⟨rfl,by rw[<-HE.o];exact HJI.o⟩),HBI.o⟩
    case measure=>simp[intOf]
   have hne:((y:Int)!=0)=true:=by simp;omega
   have hst:=zoe 1 hy0 (by have:=HY1.o;unfold U64 at this;exact this);have hbs:=zgx hy0 (by have:=HY1.o;unfold U64 at this;exact this);have hlo:=(zvc hy0 (by have:=HY1.o;unfold U64 at this;exact this)).2.2;have hand:=zm7 HY1.o hy0;have HTZ:=lh (fun V(hV:Below n₀ W V)=>zr1 y HY1.o hy0 V (HT.o V hV));have HY2:Hid ((y&&&(y-1))<U64):=zc7 HY1.o
   have hlen:pre.length<128:=by
    have h:=congrArg List.length HPRE.o;rw[hst,List.length_append,List.length_cons]at h;have h2:=zrg s;have h3:=zic 0 s.a;have h4:(zha s 2).length=(memS s).length:=rfl;omega
   have HPX:Hid ((pre++[64+(Lib.ctz 64 y:Int)+1])++offs 1 (y&&&(y-1))=zha s 2):=by
    show _=_
    have h:=HPRE.o;rw[hst]at h;rw[List.append_assoc,<-h]
    simp
   have HBS:Hid ((zff (y&&&(y-1))).length<(zff y).length):=by show _<_;rw[hbs];simp
   generalize Lib.ctz 64 y=c at*
   have hc1:(c:Int)<=63:=by omega
   have hc0:(0:Int)<=(c:Int):=by omega
   obtain⟨z,hz⟩:=nm (y&&&(y-1));rw[<-hz]at hand HY2 HPX HBS;obtain⟨fn,tmps,assign,body,hy,hR⟩:=HY.o pre (64+(c:Int)+1) wi HJI.o hlen
   have HPP:Hid (∀q,pre++[64+(c:Int)+1]++q=zha s 2->pre++[64+(c:Int)+1]<+:memS s):=lh fun q hq=>by
    exact⟨q,hq⟩
   clear hst hbs hlo hlen hz hy0
   gi_wp2_with(refine⟨trivial,?_⟩;gi_at_call 140;refine(callsIn_wide.2 (HTZ.o _ HBI.o)).mono ?_;rintro e w'⟨rfl,rfl⟩)
   refine hR.mono ?_;rintro e W3(⟨rfl,hJ3,hk3⟩|⟨rfl,hJx3⟩)
   ·have HJ3:=lh hJ3;have HB3:=lh (HBI.o.trans hk3);clear hJ3 hk3
    gi_wp2
    go_roundw
    case rel=>exact⟨z,_,rfl,HY2.o,HPX.o,HJ3.o,HB3.o⟩
    case measure=>simpa[intOf]using HBS.o
   have HJX:=lh hJx3;clear hJx3
   gi_wp2
   refine bodyPost_ret (results_none rfl _ _ _) rfl ?_;exact⟨⟨_,rfl⟩,.inr ⟨_,HPP.o _ HPX.o,HJX.o⟩⟩
 have HJ:=lh hJ;clear hJ
 ·gi_wp2
  go_end0
  exact⟨⟨_,rfl⟩,.inl ⟨_,rfl,HJ.o⟩⟩
end Go.Proofs.YtnlaakmglhjjmaaGreatDoor
namespace Go.Proofs.YtnlaakmglhjjmaaGreatDoor
open Cen
theorem zmr(wd x:Nat)(v:Int):v∈offs wd x↔∃i:Nat,i<64/\x.testBit i=true/\v=64*(wd:Int)+i+1:=by
 unfold offs zff;simp only[List.mem_map,List.mem_filter,List.mem_range]
 constructor
 ·rintro⟨i,⟨h1,h2⟩,rfl⟩;exact⟨i,h1,h2,rfl⟩
 rintro⟨i,h1,h2,rfl⟩;exact⟨i,⟨h1,h2⟩,rfl⟩
theorem zd8(s:St)(v:Int):v∈memS s↔s.mem v=true:=by
 unfold memS;rw[List.mem_append,zmr,zmr]
 constructor
 ·rintro(⟨i,h1,h2,rfl⟩|⟨i,h1,h2,rfl⟩)
  ·unfold St.mem;rw[if_pos (by omega)];rw[show(64*((0:Nat):Int)+i+1-1).toNat=i by omega];exact h2
  unfold St.mem;rw[if_neg (by omega),if_pos (by omega)];rw[show(64*((1:Nat):Int)+i+1-65).toNat=i by omega];exact h2
 intro h;unfold St.mem at h
 by_cases a:1<=v/\v<=64
 ·rw[if_pos a]at h;exact .inl ⟨(v-1).toNat,by omega,h,by omega⟩
 rw[if_neg a]at h
 by_cases b:65<=v/\v<=128
 ·rw[if_pos b]at h;exact .inr ⟨(v-65).toNat,by omega,h,by omega⟩
 rw[if_neg b]at h;simp at h
theorem zna(x:Nat):(zff x).Pairwise (·<·):=by
 unfold zff;exact List.Pairwise.filter _ List.pairwise_lt_range
theorem zp1(s:St):(memS s).Pairwise (·<·):=by
 unfold memS;rw[List.pairwise_append]
 have h:∀wd x,(offs wd x).Pairwise (·<·):=fun wd x=>by
  unfold offs;rw[List.pairwise_map]
  exact(zna x).imp fun h=>by omega
 refine⟨h 0 _,h 1 _,fun a ha b hb=>?_⟩;rw[zmr]at ha hb;obtain⟨i,h1,_,rfl⟩:=ha;obtain⟨j,h2,_,rfl⟩:=hb;omega
theorem zn8{s:St}{v:Int}(h:s.mem v=true):1<=v/\v<=128:=by
 unfold St.mem at h
 by_cases a:1<=v/\v<=64
 ·omega
 rw[if_neg a]at h
 by_cases b:65<=v/\v<=128
 ·omega
 rw[if_neg b]at h;simp at h
end Go.Proofs.YtnlaakmglhjjmaaGreatDoor
namespace Go.Proofs.YtnlaakmglhjjmaaGreatDoor
open Go.RowKit Go.Shelf Cen
attribute[local go_sem]Oper.semAt_some
theorem zp3(s:St)(w:World):Calls Tryz.prog 104 #[stv s] w fun e w'=>e=.returned (.func (.func 139) #[] #[.pointer (some ⟨w.heap.size,0,none⟩)])/\w'=w.alloc (.cells #[.int .u64 (s.a:Int),.int .u64 (s.b:Int)] 29):=by
 go_enter Tryz.func104,Tryz.ntmps104;go_wp2;go_ret;exact⟨rfl,rfl⟩
theorem Dtab.on{w0 W V:World}(h:Dtab w0)(hW:Below w0.heap.size w0 W)(hV:Below w0.heap.size W V):Dtab V:=h.keep (hW.trans hV)
theorem zmn(n:Nat)(hn:1<=n)(Bs:Nat)(s:St)(hs:s.ok)(w0 w:World)(hw0:Below w0.heap.size w0 w)(hT:Dtab w0)(hBs:Bs<w.heap.size)
 (hB0:w.cell? ⟨Bs,0,none⟩=some (.int .u64 (s.a:Int)))(hB1:w.cell? ⟨Bs,1,none⟩=some (.int .u64 (s.b:Int))):
 SeqStopsK Fence.wide n Tryz.prog 139 #[.pointer (some ⟨Bs,0,none⟩)] (fun x:Int=>#[Value.int .i64 x]) (Below w0.heap.size) (fun ys=>ys=memS s) (fun pre=>pre<+:memS s) 128 w:=fun l J Jx W hW _ _ hY h0=>
 zp2 n hn l Bs w0.heap.size s hs J Jx hY W ((hW.cell (p:=⟨Bs,0,none⟩) hBs).trans hB0) ((hW.cell (p:=⟨Bs,1,none⟩) hBs).trans hB1) (fun _ hV=>hT.on (hw0.trans (hW.mono hw0.size)) hV) h0
attribute[local go_sem]Oper.semAt_some
def za4(s:St):Int:=(memS s).headD 0
theorem zum(s:St)(w:World)(hs:s.ok)(hT:Dtab w):Calls Tryz.prog 67 #[stv s] w fun e w'=>e=.returned (.int .i64 (za4 s))/\Below w.heap.size w w':=by
 have HT:=lh hT;clear hT;refine(callsIn_wide (n:=3)).1 ?_;refine callsIn_of_wp_marks Tryz.func67 rfl trivial ?_ rfl;simp only[Tryz.ntmps67,List.size_toArray,List.length_cons,List.length_nil,Nat.reduceAdd,Nat.reduceSub,Array.replicate_succ,Array.replicate_zero,List.push_toArray,List.append_toArray,List.nil_append,List.cons_append]
 gi_wp2_with(refine⟨trivial,?_⟩;gi_at_call 104;refine(callsIn_wide.2 (zp3 s _)).mono ?_;rintro e w'⟨rfl,rfl⟩)
 have q1:=(Blk.new' (w.alloc (.cells #[.int .u64 (s.a:Int),.int .u64 (s.b:Int)] 29)) (b:=w.heap.size+1) (by simp only[World.size_alloc]) #[.int .i64 0] 3).alloc (.cells #[.int .u64 (s.a:Int),.int .u64 (s.b:Int)] 29);have hB0:Below w.heap.size w (((w.alloc (.cells #[.int .u64 (s.a:Int),.int .u64 (s.b:Int)] 29)).alloc (.cells #[.int .i64 0] 3)).alloc (.cells #[.int .u64 (s.a:Int),.int .u64 (s.b:Int)] 29)):=(((Below.refl _ w).alloc (Nat.le_refl _) _).alloc (by simp) _).alloc (by simp;omega) _;have q2:=Blk.new' ((w.alloc (.cells #[.int .u64 (s.a:Int),.int .u64 (s.b:Int)] 29)).alloc (.cells #[.int .i64 0] 3)) (b:=w.heap.size+1+1) (by simp only[World.size_alloc]) #[.int .u64 (s.a:Int),.int .u64 (s.b:Int)] 29
 refine wpIn_rangeFunc_ownF rfl (by omega) (gf:=139) (lb:=#[.pointer (some ⟨w.heap.size+1+1,0,none⟩)]) rfl trivial (enters_of Tryz.func139 (by kernel_rfl) rfl)
  (zmn (3-1) (by omega) (w.heap.size+1+1) s hs w _ hB0 HT.o q2.lt (q2.cell 0) (q2.cell 1)) belowK_t (belowK_b (by simp;omega)) (Below.refl _ _) (fun _=>rfl)
  (fun pre W=>(pre=[]/\W.cell? ⟨w.heap.size+1,0,none⟩=some (.int .i64 0)/\W.frozen? ⟨w.heap.size+1,0,none⟩=false)/\Below w.heap.size w W)
  (fun c pre W=>(c=.ret/\∃x,pre=[x]/\W.cell? ⟨w.heap.size+1,0,none⟩=some (.int .i64 x))/\Below w.heap.size w W)
  (OwnFrom.and (Own.from (fun s A B row hs hg hr=>⟨hs.1,cell_kept hs.2.1 hg hr,(frozen_kept hs.2.1 hg hr).trans hs.2.2⟩) _) (ownFrom_below (Nat.le_refl _) (by simp;omega)))
  (fun c=>OwnFrom.and (Own.from (fun s A B row hs hg hr=>⟨hs.1,by obtain⟨_,x,h1,h2⟩:=hs;exact⟨x,h1,cell_kept h2 hg hr⟩⟩) _) (ownFrom_below (Nat.le_refl _) (by simp;omega)))
  ⟨⟨rfl,q1.cell 0,q1.fr 0⟩,hB0⟩
  (fun x=>{tmps:=#[stv s,.pointer (some ⟨w.heap.size,0,none⟩),.pointer (some ⟨w.heap.size+1,0,none⟩),.int .i64 x,stv s,.func (.func 139) #[] #[.pointer (some ⟨w.heap.size+1+1,0,none⟩)],.int .i64 x,undef],defers:=[]}) ?assign ?body ?done ?stop
 case assign=>
  intro l x W K hK
  gi_wp2
  exact hK
 case body=>
  rintro l pre x W⟨⟨rfl,hcr,hfr⟩,hB⟩_
  gi_wp2
  exact⟨KeepsOthers.setCell _ _ _,⟨rfl,x,rfl,World.cell?_setCell_same' _ _ _ (by rw[hcr];rfl)⟩,hB.setCell (p:=⟨w.heap.size+1,0,none⟩) (by simp) _⟩
 case done=>
  rintro D ys W hD rfl⟨⟨hne,hcr,hfr⟩,hB⟩hK
  gi_wp2
  have hK':=(KeepsOthers.setCell W ⟨w.heap.size+1,0,none⟩ (.int .i64 0)).same D _ hK rfl;refine⟨by simp,.inl ⟨_,_,rfl,run_takeDeferred hK',?_⟩⟩;have hc5:=cell_kept (World.cell?_setCell_same' W ⟨w.heap.size+1,0,none⟩ (.int .i64 0) (by rw[hcr];rfl)) (grownBy_putObj' _ D (.deferred none)) (fun r e=>by cases e;exact⟨_,hK',rfl⟩);refine⟨.int .i64 0,?_,by unfold za4;rw[hne];rfl,(hB.setCell (p:=⟨w.heap.size+1,0,none⟩) (by simp) _).trans (belowK_b (w:=w) (Nat.le_refl _) _ D _ _ (by simp at hD;omega) hK' rfl rfl)⟩
  simp[results,Tryz.f67,go_sem,hc5]
 case stop=>
  rintro D c pre W hD hpre⟨⟨rfl,x,rfl,hcr⟩,hB⟩hK
  gi_wp2
  refine⟨by simp,.inl ⟨_,_,rfl,run_takeDeferred hK,?_⟩⟩;have hc5:=cell_kept hcr (grownBy_putObj' _ D (.deferred none)) (fun r e=>by cases e;exact⟨_,hK,rfl⟩);refine⟨.int .i64 x,?_,by obtain⟨t,ht⟩:=hpre;unfold za4;rw[<-ht];rfl,hB.trans (belowK_b (w:=w) (Nat.le_refl _) W D _ _ (by simp at hD;omega) hK rfl rfl)⟩
  simp[results,Tryz.f67,go_sem,hc5]
end Go.Proofs.YtnlaakmglhjjmaaGreatDoor
namespace Go.Proofs.YtnlaakmglhjjmaaGreatDoor
open Go.RowKit Cen
def xorS(s t:St):St:=⟨s.a^^^t.a,s.b^^^t.b⟩
theorem zlr{x y:Nat}(hx:x<U64)(hy:y<U64):x^^^y<U64:=by rw[zek]at*;exact Nat.xor_lt_two_pow hx hy
theorem yby{s t:St}(h:s.ok)(k:t.ok):(xorS s t).ok:=⟨zlr h.1 k.1,zlr h.2 k.2⟩
structure Pr where
 v:St
 odd:Bool
instance:Inhabited Pr:=⟨⟨St.zero,false⟩⟩
instance:DecidableEq Pr:=fun x y=>decidable_of_iff (x.v=y.v/\x.odd=y.odd) (by cases x;cases y;simp)
def Pr.zero:Pr:=⟨St.zero,false⟩
def Pr.ok(p:Pr):Prop:=p.v.ok
def sumP(p q:Pr):Pr:=⟨xorS p.v q.v,p.odd !=q.odd⟩
theorem zv7{p q:Pr}(h:p.ok)(k:q.ok):(sumP p q).ok:=yby h k
theorem Pr.zero_ok:Pr.zero.ok:=St.zero_ok
def zbs(p:Pr)(rest:List Pr):List Pr:=rest.map fun q=>if q.v.mem (za4 p.v)then sumP p q else q
def zbo(p:Pr)(rest:List Pr):List Pr:=(zbs p rest).filter fun q=>!decide (q=Pr.zero)
def rdF:Nat->List Pr->List Pr->List Pr×Bool
 |0,_,out=>(out,true)
 |_+1,[],out=>(out,true)
 |f+1,p::rest,out=>if za4 p.v=0/\p.odd=true then([],false)else rdF f (zbo p rest) (if 0<za4 p.v then out++[p]else out)
def zay(l:List Pr):List Pr×Bool:=rdF (l.length+1) l []
structure Ct where
 e:Nat
 o:Nat
instance:Inhabited Ct:=⟨⟨0,0⟩⟩
instance:DecidableEq Ct:=fun x y=>decidable_of_iff (x.e=y.e/\x.o=y.o) (by cases x;cases y;simp)
def Ct.s(c:Ct):Nat:=c.e+c.o
def zj9(a b:Ct):Ct:=⟨a.e*b.e+a.o*b.o,a.e*b.o+a.o*b.e⟩
def znb(a b:Ct):Option Ct:=if a.s<65536/\b.s<65536/\a.s*b.s<65536 then some (zj9 a b)else none
def addO(a b:Ct):Option Ct:=if a.s+b.s<65536 then some ⟨a.e+b.e,a.o+b.o⟩else none
def zmg(k:Nat)(meets:Bool):Ct:=if meets then⟨2^(k-1),2^(k-1)⟩else⟨2^k,0⟩
theorem yae(a b:Ct):(zj9 a b).s=a.s*b.s:=by
 unfold zj9 Ct.s;simp only[Nat.add_mul,Nat.mul_add];omega
theorem zgy{a b c:Ct}(h:znb a b=some c):c=zj9 a b/\a.s<65536/\b.s<65536/\a.s*b.s<65536:=by
 unfold znb at h
 split at h
 ·rename_i h1;simp at h;exact⟨h.symm,h1⟩
 simp at h
theorem ztr{a b c:Ct}(h:addO a b=some c):c=⟨a.e+b.e,a.o+b.o⟩/\a.s+b.s<65536:=by
 unfold addO at h
 split at h
 ·rename_i h1;simp at h;exact⟨h.symm,h1⟩
 simp at h
theorem ydm{x y:Nat}(hx:x<U64)(hy:y<U64):bits .xor .u64 (x:Int) (y:Int)=((x^^^y:Nat):Int):=u64_xor_nat x y hx hy
def prv(p:Pr):Value:=.agg #[.int .u64 (p.v.a:Int),.int .u64 (p.v.b:Int),.bool p.odd]
def prc(p:Pr):List Value:=[.int .u64 (p.v.a:Int),.int .u64 (p.v.b:Int),.bool p.odd]
theorem zax(p:Pr):(prc p).length=3:=rfl
theorem zp8(p:Pr):∀u∈prc p,u.oneCell'=true:=by intro u hu;simp[prc]at hu;rcases hu with rfl|rfl|rfl<;>rfl
theorem zq2:Elem 22 31 3 24 (prv Pr.zero):=.mk Tryz.underlying22 (by kernel_rfl) rfl (by decide)
abbrev OwnP:=OwnL prc 31 3
def PrCells(w:World)(a:Option Addr)(l:List Pr):Prop:=∀i,i<l.length->∃b off,a=some ⟨b,off,none⟩/\w.cell? ⟨b,off+i*3,none⟩=some (.int .u64 ((l.getD i default).v.a:Int))/\w.cell? ⟨b,off+i*3+1,none⟩=some (.int .u64 ((l.getD i default).v.b:Int))/\w.cell? ⟨b,off+i*3+2,none⟩=some (.bool (l.getD i default).odd)
theorem PrCells.keep{w w':World}{a:Option Addr}{l:List Pr}(h:PrCells w a l)(hb:Below w.heap.size w w'):PrCells w' a l:=fun i hi=>
 let⟨b,off,e,h0,h1,h2⟩:=h i hi;⟨b,off,e,zab hb h0,zab hb h1,zab hb h2⟩
theorem PrCells.nil(w:World)(a:Option Addr):PrCells w a []:=fun _ h=>absurd h (Nat.not_lt_zero _)
theorem OwnP.pc{w:World}{base:Nat}{v:Value}{l:List Pr}(h:OwnP w base v l):∃a cap,v=.slice a l.length cap/\PrCells w a l:=by
 rcases h.shape with⟨h1,h2⟩|⟨g,cap,h1,_⟩
 ·subst h2;exact⟨none,0,h1,PrCells.nil _ _⟩
 subst h1;refine⟨some ⟨g,0,none⟩,cap,rfl,fun i hi=>?_⟩
 have e:l.getD i default=l[i]:=by simp[List.getD_eq_getElem?_getD,hi]
 have c0:=h.cell rfl zax i 0 hi (by omega);have c1:=h.cell rfl zax i 1 hi (by omega);have c2:=h.cell rfl zax i 2 hi (by omega);rw[e];refine⟨g,0,rfl,?_,?_,?_⟩
 ·rw[Nat.zero_add];exact c0
 ·rw[Nat.zero_add];exact c1
 rw[Nat.zero_add];exact c2
theorem zry(p q:Pr)(w:World)(hp:p.ok)(hq:q.ok):
 Calls Tryz.prog 32 #[prv p,prv q] w fun e w'=>e=.returned (prv (sumP p q))/\Below w.heap.size w w':=by
 have e1:=ydm hp.1 hq.1;have e2:=ydm hp.2 hq.2;obtain⟨⟨pa,pb⟩,po⟩:=p;obtain⟨⟨qa,qb⟩,qo⟩:=q;simp only at e1 e2;clear hp hq;unfold prv;go_enter Tryz.func32,Tryz.ntmps32;go_wp2
 exact bodyPost_ret (v:=prv (sumP ⟨⟨pa,pb⟩,po⟩ ⟨⟨qa,qb⟩,qo⟩)) (by simp[results,Tryz.results32,go_sem,sumP,xorS,prv];cases po<;>cases qo<;>rfl) rfl ⟨rfl,by
  exact(((((ba _ _).alloc (by simp) _).alloc (by simp;omega) _)))⟩
theorem zfj(d:Nat)(a b:Int)(x:Bool)(c e:Int)(y:Bool)(w:World):
 (Op.equalIn (d+3) 31 (.agg #[.int .u64 a,.int .u64 b,.bool x]) (.agg #[.int .u64 c,.int .u64 e,.bool y])).run Tryz.prog w=.ok ((a==c&&b==e)&&x==y) w:=by
 have hp0:∀(x y z:Value)w,(part 29 #[x,y,z] 0).run Tryz.prog w=.ok (.agg #[x,y]) w:=fun x y z w=>by kernel_rfl
 have hp2:∀(x y z:Value)w,(part 4 #[x,y,z] 2).run Tryz.prog w=.ok z w:=fun x y z w=>by kernel_rfl
 rw[run_equalIn_struct w (d+2) _ _ _ (by kernel_rfl) (by kernel_rfl)];rw[show(Tryz.prog.fieldsOf 31).toList=[{name:= "Vars",type:=29,offset:=0,embedded:=false,tag:= "",pkgPath:= "",byteOffset:=0},{name:= "Odd",type:=4,offset:=2,embedded:=false,tag:= "",pkgPath:= "",byteOffset:=16}]by kernel_rfl];simp only[Op.eqFields,Sem.run_bind,Sem.run_ite,hp0,hp2,Result.andThen_ok,zcf,run_equalIn_bool' w (d+1) 4 x y Tryz.underlying4]
 by_cases h:(a==c&&b==e)=true
 ·rw[h];cases hxy:(x==y)<;>simp
 rw[Bool.not_eq_true]at h;rw[h];simp
def eqPr(p q:Pr):Bool:=decide (p=q)
theorem zq3(p q:Pr):(((p.v.a:Int)==(q.v.a:Int)&&(p.v.b:Int)==(q.v.b:Int))&&p.odd==q.odd)=eqPr p q:=by
 unfold eqPr;rw[Bool.eq_iff_iff];obtain⟨⟨a,b⟩,x⟩:=p;obtain⟨⟨c,e⟩,y⟩:=q
 simp;omega
theorem zs2(p q:Pr)(w:World):(binOp .neq 31 (prv p) (prv q)).run Tryz.prog w=.ok (.bool !(eqPr p q)) w:=by
 unfold prv;rw[run_neq_struct,zfj 9997];simp only[Result.andThen_ok,zq3]
theorem zlk(p q:Pr)(w:World):(binOp .eql 31 (prv p) (prv q)).run Tryz.prog w=.ok (.bool (eqPr p q)) w:=by
 unfold prv;rw[run_eql_struct,zfj 9997];simp only[Result.andThen_ok,zq3]
theorem zkx:Tryz.prog.eqGuardType Tryz.prog.depth 31=false:=by kernel_rfl
theorem zoj(p:Pr)(w:World):Calls Tryz.prog 70 #[prv p] w fun e w'=>e=.returned (.bool (!eqPr p Pr.zero))/\Below w.heap.size w w':=by
 have hq:∀w:World,(binOp .neq 31 (.agg #[.int .u64 (p.v.a:Int),.int .u64 (p.v.b:Int),.bool p.odd]) (.agg #[.int .u64 0,.int .u64 0,.bool false])).run Tryz.prog w=.ok (.bool !(eqPr p Pr.zero)) w:=fun w=>zs2 p Pr.zero w
 have hgd:=zkx;unfold prv;generalize eqPr p Pr.zero=r at*;go_enter Tryz.func70,Tryz.ntmps70;go_wp2;go_ret;exact⟨rfl,ba _ _⟩
end Go.Proofs.YtnlaakmglhjjmaaGreatDoor
namespace Cen
def digF(B:Nat):Nat->Nat->List Nat
 |0,_=>[]
 |f+1,x=>if x=0 then[]else x%B::digF B f (x/B)
def digs(B x:Nat):List Nat:=digF B x x
def digP(B n x:Nat):List Nat:=(List.range n).map fun k=>x/B^k%B
theorem digP_len(B n x:Nat):(digP B n x).length=n:=by simp[digP]
theorem digP_get(B x:Nat){n k:Nat}(h:k<n):(digP B n x)[k]?=some (x/B^k%B):=by simp[digP,h]
theorem digP_succ(B n x:Nat):digP B (n+1) x=x%B::digP B n (x/B):=by
 unfold digP;rw[List.range_succ_eq_map];simp only[List.map_cons,Nat.pow_zero,Nat.div_one,List.map_map]
 congr 1
 refine List.map_congr_left fun k _=>?_
 show x/B^(k+1)%B=x/B/B^k%B
 rw[Nat.pow_succ',Nat.div_div_eq_div_mul]
theorem digF_eq{B:Nat}(hB:2<=B):∀(n f x:Nat),x<=f->x<B^n->(n=0\/x/B^(n-1)%B≠0)->digF B f x=digP B n x
 |0,f,x,_,hx,_=>by
   obtain rfl:x=0:=by simpa using hx
   cases f<;>simp[digF,digP]
 |n+1,f,x,hf,hx,h0=>by
   have hn:x/B^n%B≠0:=by simpa using h0
   have hx0:x≠0:=fun h=>by subst h;simp at hn
   obtain⟨g,rfl⟩:∃g,f=g+1:=⟨f-1,by omega⟩
   rw[digF,if_neg hx0,digP_succ];have hlt:x/B<x:=Nat.div_lt_self (by omega) (by omega);rw[digF_eq hB n g (x/B) (by omega) (by rw[Nat.div_lt_iff_lt_mul (by omega),<-Nat.pow_succ];exact hx)]
   cases n with
   |zero=>exact .inl rfl
   |succ n=>exact .inr (by rw[Nat.add_sub_cancel,Nat.div_div_eq_div_mul,<-Nat.pow_succ'];exact hn)
theorem digs_eq{B n x:Nat}(hB:2<=B)(hx:x<B^n)(h0:n=0\/x/B^(n-1)%B≠0):digs B x=digP B n x:=digF_eq hB n x x (Nat.le_refl _) hx h0
theorem digs_form{B:Nat}(hB:2<=B)(x:Nat):∃n,x<B^n/\(n=0\/x/B^(n-1)%B≠0):=by
 induction x using Nat.strongRecOn with
 |_ x ih=>
   by_cases h0:x=0
   ·exact⟨0,by subst h0;simp,.inl rfl⟩
   obtain⟨n,h1,h2⟩:=ih (x/B) (Nat.div_lt_self (by omega) (by omega));refine⟨n+1,by rw[Nat.pow_succ,<-Nat.div_lt_iff_lt_mul (by omega)];exact h1,.inr ?_⟩;rw[Nat.add_sub_cancel]
   rcases h2 with rfl|h2
   ·have h3:x/B=0:=Nat.lt_one_iff.1 h1;rw[Nat.pow_zero,Nat.div_one,Nat.mod_eq_of_lt]
    ·exact h0
    rcases Nat.div_eq_zero_iff.1 h3 with h|h<;>omega
   cases n with
   |zero=>
     have h3:x/B=0:=Nat.lt_one_iff.1 h1;rw[h3]at h2;simp at h2
   |succ n=>rw[Nat.add_sub_cancel,Nat.div_div_eq_div_mul,<-Nat.pow_succ']at h2;exact h2
def ndg(B x:Nat):Nat:=(digs B x).length
theorem digs_ndg{B:Nat}(hB:2<=B)(x:Nat):digs B x=digP B (ndg B x) x/\x<B^ndg B x/\(ndg B x=0\/x/B^(ndg B x-1)%B≠0):=by
 obtain⟨n,h1,h2⟩:=digs_form hB x;have h3:=digs_eq hB h1 h2
 have h4:ndg B x=n:=by unfold ndg;rw[h3,digP_len]
 rw[h4];exact⟨h3,h1,h2⟩
theorem ndg_le{B n x:Nat}(hB:2<=B)(hx:x<B^n):ndg B x<=n:=by
 obtain⟨_,h1,h2⟩:=digs_ndg hB x
 refine Nat.le_of_not_lt fun hlt=>?_
 rcases h2 with h2|h2
 ·omega
 have:x/B^(ndg B x-1)=0:=Nat.div_eq_of_lt (Nat.lt_of_lt_of_le hx (Nat.pow_le_pow_right (by omega) (by omega)));rw[this]at h2;simp at h2
theorem dig_low{B j c v:Nat}(hB:0<B)(h:B^(j+1)∣c):(v+c)/B^j%B=v/B^j%B:=by
 obtain⟨d,rfl⟩:=h;rw[Nat.pow_succ,Nat.mul_assoc,Nat.add_mul_div_left _ _ (Nat.pow_pos hB),Nat.add_mul_mod_self_left]
theorem dig_high{B j v:Nat}(h:v<B^j):v/B^j%B=0:=by rw[Nat.div_eq_of_lt h,Nat.zero_mod]
theorem digP_set{B n x y k:Nat}(hk:k<n)(h:∀j,j<n->j≠k->x/B^j%B=y/B^j%B):(digP B n x).set k (y/B^k%B)=digP B n y:=by
 refine List.ext_getElem? fun j=>?_
 by_cases hj:j<n
 ·rw[digP_get B y hj,List.getElem?_set]
  by_cases e:k=j
  ·subst e;rw[if_pos rfl,if_pos (by rw[digP_len];exact hk)]
  rw[if_neg e,digP_get B x hj,h j hj (fun e2=>e e2.symm)]
 rw[List.getElem?_eq_none (by rw[List.length_set,digP_len];omega),List.getElem?_eq_none (by rw[digP_len];omega)]
theorem digP_zero(B n:Nat):digP B n 0=List.replicate n 0:=by
 unfold digP;rw[List.eq_replicate_iff];exact⟨by simp,fun b hb=>by obtain⟨k,_,rfl⟩:=List.mem_map.1 hb;simp⟩
theorem mod_pow_succ'(B x i:Nat):x%B^(i+1)=x%B^i+x/B^i%B*B^i:=by
 rw[Nat.pow_succ,Nat.mod_mul,Nat.mul_comm (B^i)]
theorem word_byte{x k j r:Nat}(hj:j=k/4)(hr:r=k%4):
 x%256^(k+1)/4294967296^j%4294967296=(x%256^k/4294967296^j%4294967296)|||(x/256^k%256*2^(8*r))/\x/256^k%256*2^(8*r)<4294967296:=by
 have hk:k=4*j+r:=by omega
 have e1:256^k=4294967296^j*2^(8*r):=by
  rw[hk,Nat.pow_add,Nat.pow_mul,show(256:Nat)=2^8 from rfl,<-Nat.pow_mul 2 8 r]
 have e2:x%256^(k+1)=x%256^k+x/256^k%256*256^k:=mod_pow_succ' 256 x k
 have hv:x%256^k<4294967296^j*2^(8*r):=by rw[<-e1];exact Nat.mod_lt _ (Nat.pow_pos (by decide))
 have hb:x/256^k%256<256:=Nat.mod_lt _ (by decide);have h8:2^(8*r)<=2^24:=Nat.pow_le_pow_right (by decide) (by omega);rw[e2];generalize x/256^k%256=b at*;generalize x%256^k=v at*;rw[e1]
 have hu:v/4294967296^j<2^(8*r):=by rw[Nat.div_lt_iff_lt_mul (Nat.pow_pos (by decide)),Nat.mul_comm];exact hv
 have hlt:b*2^(8*r)<4294967296:=by
  have:b*2^(8*r)<=255*2^24:=Nat.mul_le_mul (by omega) h8;omega
 refine⟨?_,hlt⟩;rw[show v+b*(4294967296^j*2^(8*r))=v+4294967296^j*(b*2^(8*r))by rw[Nat.mul_left_comm],Nat.add_mul_div_left _ _ (Nat.pow_pos (by decide))];generalize v/4294967296^j=u at*;have hor:=Nat.shiftLeft_add_eq_or_of_lt (i:=8*r) hu b;rw[Nat.shiftLeft_eq]at hor
 have hs:u+b*2^(8*r)<4294967296:=by
  have h3:2^(8*r)*(b+1)<=4294967296:=by
   have:2^(8*r)*(b+1)<=2^24*256:=Nat.mul_le_mul h8 (by omega);omega
  rw[Nat.mul_add,Nat.mul_one,Nat.mul_comm]at h3;omega
 rw[Nat.mod_eq_of_lt hs,Nat.mod_eq_of_lt (a:=u) (by omega),Nat.or_comm,<-hor,Nat.add_comm]
theorem word_other{x k i:Nat}(hi:i≠k/4):x%256^k/4294967296^i%4294967296=x%256^(k+1)/4294967296^i%4294967296:=by
 rw[mod_pow_succ']
 have e:∀j,4294967296^j=256^(4*j):=fun j=>by rw[Nat.pow_mul]
 by_cases h:i<k/4
 ·rw[dig_low (by decide)];rw[e];exact Nat.dvd_trans (Nat.pow_dvd_pow 256 (by omega)) (Nat.dvd_mul_left _ _)
 have h1:x%256^(k+1)<4294967296^i:=by
  rw[e];exact Nat.lt_of_lt_of_le (Nat.mod_lt _ (Nat.pow_pos (by decide))) (Nat.pow_le_pow_right (by decide) (by omega))
 have h2:x%256^k<4294967296^i:=by
  rw[e];exact Nat.lt_of_lt_of_le (Nat.mod_lt _ (Nat.pow_pos (by decide))) (Nat.pow_le_pow_right (by decide) (by omega))
 rw[<-mod_pow_succ',dig_high h1,dig_high h2]
theorem pow_words(L:Nat):4294967296^L=256^(4*L):=by rw[Nat.pow_mul]
theorem byte_word{x k j r:Nat}(hj:j=k/4)(hr:r=k%4):x/4294967296^j%4294967296/2^(8*r)%256=x/256^k%256:=by
 have hk:k=4*j+r:=by omega
 have e1:256^k=4294967296^j*2^(8*r):=by
  rw[hk,Nat.pow_add,Nat.pow_mul,show(256:Nat)=2^8 from rfl,<-Nat.pow_mul 2 8 r]
 rw[e1,<-Nat.div_div_eq_div_mul];generalize x/4294967296^j=y
 have h32:4294967296=2^(8*r)*(256*2^(24-8*r)):=by
  rw[show(256:Nat)=2^8 from rfl,<-Nat.pow_add,<-Nat.pow_add,show 8*r+(8+(24-8*r))=32 by omega]
 rw[h32,Nat.mod_mul_right_div_self,Nat.mod_mul_right_mod]
theorem byte_other{x k i:Nat}(hi:i≠k):x%256^k/256^i%256=x%256^(k+1)/256^i%256:=by
 rw[mod_pow_succ']
 by_cases h:i<k
 ·rw[dig_low (by decide)];exact Nat.dvd_trans (Nat.pow_dvd_pow 256 (by omega)) (Nat.dvd_mul_left _ _)
 have h1:x%256^(k+1)<256^i:=Nat.lt_of_lt_of_le (Nat.mod_lt _ (Nat.pow_pos (by decide))) (Nat.pow_le_pow_right (by decide) (by omega));have h2:x%256^k<256^i:=Nat.lt_of_lt_of_le (Nat.mod_lt _ (Nat.pow_pos (by decide))) (Nat.pow_le_pow_right (by decide) (by omega));rw[<-mod_pow_succ',dig_high h1,dig_high h2]
theorem byte_same(x k:Nat):x/256^k%256=x%256^(k+1)/256^k%256:=by
 rw[Nat.pow_succ,Nat.mod_mul_right_div_self,Nat.mod_mod]
theorem top_zero{x n:Nat}(h:x<256^(n+1))(h0:x/256^n%256=0):x<256^n:=by
 have h1:x/256^n<256:=by rw[Nat.div_lt_iff_lt_mul (Nat.pow_pos (by decide)),Nat.mul_comm,<-Nat.pow_succ];exact h
 rw[Nat.mod_eq_of_lt h1]at h0
 rcases Nat.div_eq_zero_iff.1 h0 with h2|h2
 ·exact absurd h2 (Nat.ne_of_gt (Nat.pow_pos (by decide)))
 exact h2
end Cen
