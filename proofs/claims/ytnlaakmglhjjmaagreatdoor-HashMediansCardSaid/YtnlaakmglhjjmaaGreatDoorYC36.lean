/- Parts of the proofs of laws. Texts: Pn0, SumQ, SumS, Pa, Pb, Hh. -/
import Derived.Test.YtnlaakmglhjjmaaGreatDoorYC8
import Derived.Test.YtnlaakmglhjjmaaGreatDoorYC35
set_option maxHeartbeats 8000000
set_option maxRecDepth 100000
set_option linter.all false
namespace Go.Proofs.YtnlaakmglhjjmaaGreatDoor
open Go.RowKit Cen
def sumE(h:Nat->Nat):Nat->Nat
 |0=>0
 |t+1=>sumE h t+h t
theorem za3{h h':Nat->Nat}:∀t,(∀s,s<t->h s=h' s)->sumE h t=sumE h' t
 |0,_=>rfl
 |t+1,e=>by rw[sumE,sumE,za3 t fun s hs=>e s (by omega),e t (by omega)]
theorem zfb(h:Nat->Nat)(a:Nat):∀b,sumE h (a+b)=sumE h a+sumE (fun s=>h (a+s)) b
 |0=>rfl
 |b+1=>by rw[<-Nat.add_assoc,sumE,zfb h a b,sumE,Nat.add_assoc]
theorem zfa(h h':Nat->Nat):∀t,sumE (fun s=>h s+h' s) t=sumE h t+sumE h' t
 |0=>rfl
 |t+1=>by rw[sumE,sumE,sumE,zfa h h' t];omega
theorem zd2(c:Nat):∀t,sumE (fun _=>c) t=t*c
 |0=>by rw[sumE,Nat.zero_mul]
 |t+1=>by rw[sumE,zd2 c t,Nat.succ_mul]
theorem zm4(h:Nat->Nat):∀t,sumE (fun s=>2*h s) t=2*sumE h t
 |0=>rfl
 |t+1=>by rw[sumE,sumE,zm4 h t];omega
theorem zj1(h:Nat->Nat):∀(t u:Nat),t<=u->sumE h t<=sumE h u
 |t,0,hl=>by rw[show t=0 by omega];exact Nat.le_refl _
 |t,u+1,hl=>by
   by_cases e:t=u+1
   ·rw[e];exact Nat.le_refl _
   have:=zj1 h t u (by omega);rw[show sumE h (u+1)=sumE h u+h u from rfl];omega
end Go.Proofs.YtnlaakmglhjjmaaGreatDoor
namespace Cen
theorem zr5{s t:St}(h:∀v:Int,1<=v->v<=128->s.mem v=t.mem v):card s=card t:=by
 unfold card
 apply List.countP_congr
 intro j hj;rw[List.mem_range]at hj;rw[h _ (by omega) (by omega)]
theorem ztz{s:St}(h:∀v:Int,1<=v->s.mem v=false):card s=0:=by
 unfold card;rw[List.countP_eq_zero];intro j _ hm;rw[h _ (by omega)]at hm;simp at hm
theorem zpg{n a:Nat}(h:a<n):(List.range n).count a=1:=by
 induction n with
 |zero=>omega
 |succ n ih=>
   rw[List.range_succ,List.count_append]
   by_cases e:a=n
   ·subst e;have:(List.range a).count a=0:=List.count_eq_zero.2 (by simp);rw[this];simp
   rw[ih (by omega)];have:[n].count a=0:=List.count_eq_zero.2 (by simp;exact e);rw[this]
theorem zws{s:St}{v:Int}(h1:1<=v)(h2:v<=128)(h:∀u:Int,1<=u->s.mem u=decide (u=v)):card s=1:=by
 unfold card
 have e:(List.range 128).countP (fun(j:Nat)=>s.mem ((j:Int)+1))=(List.range 128).count (v-1).toNat:=by
  unfold List.count
  apply List.countP_congr
  intro j _;rw[h _ (by omega)]
  simp;omega
 rw[e];exact zpg (by omega)
theorem ydl{l:List Nd}{n:Int}(hL:zds l n l.length){i:Int}(h0:0<=i)(h1:i<(l.length:Int)){k:Int}(hk:k∈(nd l i).ins)(v:Int)(hv:(vm l k).mem v=true):(vm l i).mem v=true:=by
 rw[zlq hL h0 h1,Bool.or_eq_true];exact .inr (List.any_eq_true.2 ⟨k,hk,hv⟩)
theorem zy4{l:List Nd}{n:Int}(hL:zds l n l.length):∀(k:Nat)(i:Int),i.toNat=k->0<=i->i<(l.length:Int)->∀v,(vm l i).mem v=true->1<=v/\v<=n:=by
 intro k
 induction k using Nat.strongRecOn with
 |_ k ih=>
   intro i hk h0 h1 v hv;have hins:=zd9 (zoa hL h0 h1);rw[zlq hL h0 h1,Bool.or_eq_true]at hv
   rcases hv with hv|hv
   ·rw[zmq]at hv;simp only[Bool.and_eq_true,decide_eq_true_eq]at hv;obtain⟨⟨a,b⟩,_⟩:=hv
    by_cases h2:(nd l i).kind=2
    ·have:=zmp (zoa hL h0 h1) h2;omega
    have h3:=zoa hL h0 h1;simp only[ndOk,Bool.and_eq_true]at h3;have h4:=h3.2
    have hz:(nd l i).lit=0:=by
     unfold zch at h4
     by_cases c1:(nd l i).kind=0\/(nd l i).kind=1
     ·rw[if_pos c1]at h4;simp at h4;exact h4.1
     rw[if_neg c1,if_neg h2]at h4
     by_cases c3:(nd l i).kind=3\/(nd l i).kind=4
     ·rw[if_pos c3]at h4;simpa using h4
     rw[if_neg c3]at h4;simp at h4
    rw[hz]at b
    have:zac 0=0:=by unfold zac;rw[if_neg (by omega),if_neg (by omega)]
    omega
   obtain⟨j,hj,hm⟩:=List.any_eq_true.1 hv;have:=hins j hj;exact ih j.toNat (by omega) j rfl this.1 (by omega) v hm
theorem zxt{x:Nd}{n b:Int}(h:ndOk x n b=true)(h2:x.kind≠2):x.lit=0:=by
 simp only[ndOk,Bool.and_eq_true]at h;have h4:=h.2;unfold zch at h4
 by_cases c1:x.kind=0\/x.kind=1
 ·rw[if_pos c1]at h4;simp at h4;exact h4.1
 rw[if_neg c1,if_neg h2]at h4
 by_cases c3:x.kind=3\/x.kind=4
 ·rw[if_pos c3]at h4;simpa using h4
 rw[if_neg c3]at h4;simp at h4
theorem zjn{a b N:Nat}(h:a*2^N=b*2^N):a=b:=Nat.eq_of_mul_eq_mul_right (Nat.pow_pos (by omega)) h
section
variable{l:List Nd}{N:Nat}{s:Int->Bool}
theorem yaq{n:Int}(hL:zds l n l.length){i:Int}(h0:0<=i)(h1:i<(l.length:Int)):dep (fun s=>T s l i) (vm l i).mem:=fun s s' hs=>yb9 hL (s:=s) (s':=s') i.toNat i rfl h0 h1 hs
theorem yao{l:List Nd}(h:decL l=true){i:Nat}(hi:i<l.length)(hk:(nd l (i:Int)).kind=3):sepF (zau l) St.zero (nd l (i:Int)).ins=true:=by
 rw[decL,List.all_eq_true]at h
 have e:nd l (i:Int)=l[i]:=by rw[zvg (by omega) (by omega)];simp
 have:=h l[i] (List.getElem_mem hi);rw[e]at hk⊢;unfold zst at this;rw[Bool.or_eq_true]at this
 rcases this with h|h
 ·simp[hk]at h
 exact h
end
end Cen
namespace Go.Proofs.YtnlaakmglhjjmaaGreatDoor
open Cen
theorem yaf(s:St):card s=(((List.range 128).filter fun(j:Nat)=>s.mem ((j:Int)+1)).map fun(j:Nat)=>(j:Int)+1).length:=by
 rw[List.length_map,<-List.countP_eq_length_filter];rfl
theorem zn7(s:St):(memS s).length=card s:=by
 rw[yaf];refine List.Perm.length_eq ((List.perm_ext_iff_of_nodup ?_ ?_).2 fun v=>?_)
 ·exact(zp1 s).imp fun h=>by omega
 ·refine List.Pairwise.map _ (fun a b h=>?_) ((List.nodup_range (n:=128)).filter _);omega
 rw[zd8,List.mem_map]
 constructor
 ·intro h;have:=zn8 h;exact⟨(v-1).toNat,List.mem_filter.2 ⟨List.mem_range.2 (by omega),by rw[show(((v-1).toNat:Nat):Int)+1=v by omega];exact h⟩,by omega⟩
 rintro⟨j,hj,rfl⟩;exact(List.mem_filter.1 hj).2
end Go.Proofs.YtnlaakmglhjjmaaGreatDoor
namespace Go.Proofs.YtnlaakmglhjjmaaGreatDoor
open Go.RowKit Cen
def par(D:Int->Bool):Nat->(Int->Bool)->Bool
 |0,_=>false
 |n+1,s=>par D n s !=(D ((n:Int)+1)&&s ((n:Int)+1))
theorem zcx{D D':Int->Bool}{s s':Int->Bool}:∀n:Nat,(∀v:Int,1<=v->v<=n->(D v&&s v)=(D' v&&s' v))->par D n s=par D' n s'
 |0,_=>rfl
 |n+1,h=>by
   rw[par,par,zcx n fun v h1 h2=>h v h1 (by omega),h ((n:Int)+1) (by omega) (by omega)]
theorem zie{D:Int->Bool}{s:Int->Bool}:∀n:Nat,(∀v:Int,1<=v->v<=n->(D v&&s v)=false)->par D n s=false
 |0,_=>rfl
 |n+1,h=>by rw[par,zie n fun v h1 h2=>h v h1 (by omega),h ((n:Int)+1) (by omega) (by omega)];rfl
theorem zp5{A B C:Int->Bool}{s:Int->Bool}:∀n:Nat,(∀v:Int,1<=v->v<=n->(C v&&s v)=((A v&&s v)!=(B v&&s v)))->par C n s=(par A n s !=par B n s)
 |0,_=>rfl
 |n+1,h=>by
   rw[par,par,par,zp5 n fun v h1 h2=>h v h1 (by omega),h ((n:Int)+1) (by omega) (by omega)]
   cases par A n s<;>cases par B n s<;>cases(A ((n:Int)+1)&&s ((n:Int)+1))<;>cases(B ((n:Int)+1)&&s ((n:Int)+1))<;>rfl
theorem zid{D:Int->Bool}:∀(n:Nat)(s:Int->Bool)(b:Bool)(v:Int),1<=v->v<=n->D v=true->cnt (fun s=>par D n s==b) n s*2=2^n
 |0,_,_,v,h1,h2,_=>by omega
 |n+1,s,b,v,h1,h2,hD=>by
   have key:∀c:Bool,cnt (fun s=>par D (n+1) s==b) n (setV s ((n:Int)+1) c)=cnt (fun s=>par D n s==(b !=(D ((n:Int)+1)&&c))) n (setV s ((n:Int)+1) c):=fun c=>by
    apply zag
    intro s' hs'
    have e:s' ((n:Int)+1)=c:=by rw[hs' _ (.inr (by omega))];unfold setV;rw[if_pos rfl]
    rw[par,e]
    cases par D n s'<;>cases D ((n:Int)+1)<;>cases c<;>cases b<;>rfl
   rw[cnt,key,key]
   cases hn:D ((n:Int)+1)with
   |false=>
     have hvn:v<=n:=by
      have:v≠(n:Int)+1:=fun e=>by rw[e,hn]at hD;simp at hD
      omega
     simp only[Bool.false_and,Bool.bne_false];rw[Nat.add_mul,zid n _ b v h1 hvn hD,zid n _ b v h1 hvn hD,Nat.pow_succ];omega
   |true=>
     simp only[Bool.true_and,Bool.bne_false,Bool.bne_true]
     have hdep:dep (fun s=>par D n s==!b) (fun v=>decide (v<=n)):=fun a a' h=>by
      show(par D n a==!b)=(par D n a'==!b)
      rw[zcx n fun u _ h2=>by rw[h u (by simpa using h2)]]
     have e:=zpb hdep (n:=n) (s:=s) (v:=(n:Int)+1) (by simp;omega) true false
     have e0:=ziv (f:=fun s=>par D n s==b) (g:=fun s=>par D n s==!b) n (setV s ((n:Int)+1) false) (fun s' h=>by
      have h1:=h.1;have h2:=h.2
      cases hp:par D n s'<;>cases b<;>rw[hp]at h1 h2<;>simp at h1 h2)
     have e1:(fun s=>(par D n s==b)||(par D n s==!b))=fun _=>true:=by funext s;cases par D n s<;>cases b<;>rfl
     rw[e1,zl6]at e0;rw[e,<-e0,Nat.pow_succ]
def PC(D:Int->Bool)(N:Nat)(s:Int->Bool)(f:(Int->Bool)->Bool)(U:St)(c:Ct):Prop:=
 ∀b:Bool,cnt (fun x=>f x&&(par (fun v=>D v&&U.mem v) N x==b)) N s*2^card U=(if b then c.o else c.e)*2^N
section
variable{D:Int->Bool}{N:Nat}{s:Int->Bool}{f g:(Int->Bool)->Bool}{U V:St}{a c:Ct}
theorem PC.congr(h:PC D N s f U c)(hf:∀x,zok N s x->f x=g x)(hU:∀v:Int,1<=v->v<=128->U.mem v=V.mem v)(hN:N<=128):PC D N s g V c:=fun b=>by
 rw[<-h b,zr5 hU]
 congr 1
 apply zag
 intro x hx
 have e:par (fun v=>D v&&U.mem v) N x=par (fun v=>D v&&V.mem v) N x:=zcx N fun v h1 h2=>by rw[hU v h1 (by omega)]
 rw[hf x hx,e]
theorem PC.sum(h:PC D N s f U c):c.s*2^N=cnt f N s*2^card U:=by
 have h0:=h false;have h1:=h true;simp only[Bool.false_eq_true,if_false,if_true]at h0 h1;unfold Ct.s
 rw[Nat.add_mul,<-h0,<-h1,<-Nat.add_mul,<-ziv N s fun x hx=>by
  have h1:=hx.1;have h2:=hx.2;simp only[Bool.and_eq_true,beq_iff_eq]at h1 h2
  rw[h1.2]at h2;simp at h2]
 congr 1
 apply zag
 intro x _
 cases f x<;>cases par (fun v=>D v&&U.mem v) N x<;>rfl
theorem PC.le(h:PC D N s f U c):c.s<=2^card U:=by
 have h1:=h.sum;have h2:=zfh f N s
 have h3:c.s*2^N<=2^card U*2^N:=by rw[h1,Nat.mul_comm (2^card U)];exact Nat.mul_le_mul_right _ h2
 exact Nat.le_of_mul_le_mul_right h3 (Nat.pow_pos (by omega))
theorem PC.both(hf:dep f U.mem)(hg:dep g V.mem)(hd:∀v,¬(U.mem v=true/\V.mem v=true))(h:PC D N s f U a)(k:PC D N s g V c):PC D N s (fun x=>f x&&g x) (U.union V) (zj9 a c):=by
 have hp:∀x,par (fun v=>D v&&(U.union V).mem v) N x=(par (fun v=>D v&&U.mem v) N x !=par (fun v=>D v&&V.mem v) N x):=fun x=>zp5 N fun v _ _=>by
  rw[St.mem_union];have:=hd v
  cases D v<;>cases hu:U.mem v<;>cases hv:V.mem v<;>cases x v<;>simp_all
 have hdu:∀b,dep (fun x=>f x&&(par (fun v=>D v&&U.mem v) N x==b)) U.mem:=fun b x y hxy=>by
  have e:par (fun v=>D v&&U.mem v) N x=par (fun v=>D v&&U.mem v) N y:=zcx N fun v _ _=>by
   cases hu:U.mem v
   ·simp
   rw[hxy v hu]
  show(f x&&(par (fun v=>D v&&U.mem v) N x==b))=(f y&&(par (fun v=>D v&&U.mem v) N y==b))
  rw[hf x y hxy,e]
 have hdv:∀b,dep (fun x=>g x&&(par (fun v=>D v&&V.mem v) N x==b)) V.mem:=fun b x y hxy=>by
  have e:par (fun v=>D v&&V.mem v) N x=par (fun v=>D v&&V.mem v) N y:=zcx N fun v _ _=>by
   cases hu:V.mem v
   ·simp
   rw[hxy v hu]
  show(g x&&(par (fun v=>D v&&V.mem v) N x==b))=(g y&&(par (fun v=>D v&&V.mem v) N y==b))
  rw[hg x y hxy,e]
 have hX:∀b b',cnt (fun x=>(f x&&(par (fun v=>D v&&U.mem v) N x==b))&&(g x&&(par (fun v=>D v&&V.mem v) N x==b'))) N s*2^card (U.union V)=((if b then a.o else a.e)*(if b' then c.o else c.e))*2^N:=fun b b'=>by
  have hand:=zo8 (hdu b) (hdv b') hd N s;have h1:=h b;have h2:=k b';generalize(if b then a.o else a.e)=p at*;generalize(if b' then c.o else c.e)=q at*
  apply zjn (N:=N)
  rw[zks hd,Nat.pow_add,Nat.mul_right_comm,hand,Nat.mul_mul_mul_comm,h1,h2,Nat.mul_mul_mul_comm,Nat.mul_assoc (p*q)]
 intro b
 have e:cnt (fun x=>(f x&&g x)&&(par (fun v=>D v&&(U.union V).mem v) N x==b)) N s=cnt (fun x=>(f x&&(par (fun v=>D v&&U.mem v) N x==false))&&(g x&&(par (fun v=>D v&&V.mem v) N x==b))) N s
  +cnt (fun x=>(f x&&(par (fun v=>D v&&U.mem v) N x==true))&&(g x&&(par (fun v=>D v&&V.mem v) N x==!b))) N s:=by
  rw[<-ziv N s fun x hx=>by
   have h1:=hx.1;have h2:=hx.2;simp only[Bool.and_eq_true,beq_iff_eq]at h1 h2
   rw[h1.1.2]at h2;simp at h2]
  apply zag
  intro x _;rw[hp x]
  cases f x<;>cases g x<;>cases par (fun v=>D v&&U.mem v) N x<;>cases par (fun v=>D v&&V.mem v) N x<;>cases b<;>rfl
 rw[e,Nat.add_mul,hX,hX];unfold zj9
 cases b
 ·simp[Nat.add_mul]
 simp[Nat.add_mul]
theorem PC.free{k:Nat}{m:Bool}(hN:N<=128)(hU:∀v:Int,U.mem v=true->1<=v/\v<=N)(hk:card U=k)(hm:m=true↔∃v,D v=true/\U.mem v=true):PC D N s (fun _=>true) U (zmg k m):=fun b=>by
 simp only[Bool.true_and];unfold zmg
 cases hmm:m with
 |false=>
   have hz:∀x,par (fun v=>D v&&U.mem v) N x=false:=fun x=>zie N fun v _ _=>by
    cases hD:D v
    ·rfl
    cases hu:U.mem v
    ·rfl
    have:=hm.2 ⟨v,hD,hu⟩;rw[hmm]at this;simp at this
   simp only[hz]
   cases b
   ·simp only[beq_self_eq_true,Bool.false_eq_true,if_false];rw[zl6,hk,Nat.mul_comm]
   rw[show(fun _:Int->Bool=>(false==true))=fun _=>false from rfl,zem]
   simp
 |true=>
   obtain⟨v,hD,hu⟩:=hm.1 hmm;have hv:=hU v hu;have hh:=zid (D:=fun v=>D v&&U.mem v) N s b v hv.1 hv.2 (by rw[hD,hu];rfl)
   have hk1:1<=k:=by
    rw[<-hk];have h1:card U=(memS U).length:=(zn7 U).symm;rw[h1];have:v∈memS U:=(zd8 U v).2 hu;exact List.length_pos_of_mem this
   have e:∀c:Bool,(if c=true then(2^(k-1):Nat)else 2^(k-1))=2^(k-1):=fun c=>by cases c<;>rfl
   simp only[if_true,e];rw[hk,<-hh,show(2:Nat)^k=2^(k-1)*2 by rw[<-Nat.pow_succ];congr 1;omega];generalize cnt (fun s=>par (fun v=>D v&&U.mem v) N s==b) N s=X;rw[Nat.mul_comm (2^(k-1)) (X*2),<-Nat.mul_assoc,Nat.mul_right_comm]
theorem PC.add(hx:∀x,¬(f x=true/\g x=true))(h:PC D N s f U a)(k:PC D N s g U c):PC D N s (fun x=>f x||g x) U ⟨a.e+c.e,a.o+c.o⟩:=fun b=>by
 have e:cnt (fun x=>(f x||g x)&&(par (fun v=>D v&&U.mem v) N x==b)) N s=cnt (fun x=>f x&&(par (fun v=>D v&&U.mem v) N x==b)) N s+cnt (fun x=>g x&&(par (fun v=>D v&&U.mem v) N x==b)) N s:=by
  rw[<-ziv N s fun x h=>hx x ⟨by have:=h.1;simp only[Bool.and_eq_true]at this;exact this.1,by have:=h.2;simp only[Bool.and_eq_true]at this;exact this.1⟩]
  apply zag
  intro x _
  cases f x<;>cases g x<;>simp
 rw[e,Nat.add_mul,h b,k b]
 cases b<;>simp[Nat.add_mul]
end
theorem St.small{t:St}(ht:t.ok)(h:∀v:Int,t.mem v=true->v<=8):t.a<256/\t.b=0:=by
 constructor
 ·refine Nat.lt_pow_two_of_testBit (n:=8) t.a fun i hi=>?_
  rw[Bool.eq_false_iff];intro hb
  have h64:i<64:=by
   refine Nat.lt_of_not_le fun hge=>?_
   have h1:t.a<2^i:=Nat.lt_of_lt_of_le (by have:=ht.1;rwa[zek]at this) (Nat.pow_le_pow_right (by omega) hge);rw[Nat.testBit_lt_two_pow h1]at hb;simp at hb
  have:=h ((i:Int)+1) (by unfold St.mem;rw[if_pos (by omega)];rw[show((i:Int)+1-1).toNat=i by omega];exact hb);omega
 refine Nat.eq_of_testBit_eq fun i=>?_
 rw[Nat.zero_testBit,Bool.eq_false_iff];intro hb
 have h64:i<64:=by
  refine Nat.lt_of_not_le fun hge=>?_
  have h1:t.b<2^i:=Nat.lt_of_lt_of_le (by have:=ht.2;rwa[zek]at this) (Nat.pow_le_pow_right (by omega) hge);rw[Nat.testBit_lt_two_pow h1]at hb;simp at hb
 have:=h ((i:Int)+65) (by unfold St.mem;rw[if_neg (by omega),if_pos (by omega)];rw[show((i:Int)+65-65).toNat=i by omega];exact hb);omega
theorem zxo:∀a,a<256->card ⟨a,0⟩=lenA ⟨a,0⟩:=by decide+kernel
theorem zu9{t:St}(h:t.a<256)(hb:t.b=0):lenA t=card t:=by
 obtain⟨a,b⟩:=t;simp only at h hb;subst hb;exact(zxo a h).symm
theorem zqz{t u:St}(ht:t.ok)(hu:u.ok):t.cut u=St.zero↔∀v,¬(u.mem v=true/\t.mem v=true):=by
 constructor
 ·intro h v⟨a,b⟩
  have:(t.cut u).mem v=true:=by rw[St.mem_cut,a,b];rfl
  rw[h,St.mem_zero]at this;simp at this
 intro h
 refine St.ext (St.cut_ok ht) St.zero_ok fun v _ _=>?_
 rw[St.mem_cut,St.mem_zero]
 cases h1:u.mem v<;>cases h2:t.mem v<;>first|rfl|exact absurd ⟨h1,h2⟩ (h v)
section
variable{N:Nat}{s:Int->Bool}{odd:St}{l:List Nd}
theorem zq6(hN:N<=8)(ho:odd.ok){U:St}(hU:U.ok)(hv:∀v:Int,U.mem v=true->1<=v/\v<=N):∃f,zpo U odd=some f/\PC odd.mem N s (fun _=>true) U f:=by
 obtain⟨h1,h2⟩:=St.small hU fun v h=>by have:=hv v h;omega
 have hl:=zu9 h1 h2;have hc:card U<=8:=Nat.le_trans (zo3 (n:=N) (by omega) fun v _ h=>(hv v h).2) hN
 have hp:PC odd.mem N s (fun _=>true) U (zmg (lenA U) (!eqSt (U.cut odd) St.zero)):=by
  refine PC.free (by omega) hv hl.symm ?_;unfold eqSt;rw[Bool.not_eq_true',decide_eq_false_iff_not,zqz hU ho,Classical.not_forall]
  constructor
  ·rintro⟨v,h⟩;exact⟨v,Classical.not_not.1 h⟩
  rintro⟨v,h⟩;exact⟨v,fun n=>n h⟩
 refine⟨_,?_,hp⟩;unfold zpo;rw[if_pos];refine⟨h1,h2,by omega,?_⟩
 by_cases hz:U.cut odd=St.zero
 ·exact .inl hz
 right
 have:=mt (zqz hU ho).2 hz;rw[Classical.not_forall]at this;obtain⟨v,hvv⟩:=this;obtain⟨_,hm⟩:=Classical.not_not.1 hvv;rw[hl,<-zn7];exact List.length_pos_of_mem ((zd8 U v).2 hm)
theorem zeb{U:St}(hN:N<=8)(hv:∀v:Int,U.mem v=true->1<=v/\v<=N):2^card U<=256:=
 Nat.le_trans (Nat.pow_le_pow_right (by omega) (Nat.le_trans (zo3 (n:=N) (by omega) fun v _ h=>(hv v h).2) hN)) (by decide)
theorem zlz(hN:N<=8){f g:(Int->Bool)->Bool}{U V:St}{a c:Ct}(hf:dep f U.mem)(hg:dep g V.mem)(hd:∀v,¬(U.mem v=true/\V.mem v=true))(hU:∀v:Int,U.mem v=true->1<=v/\v<=N)(hV:∀v:Int,V.mem v=true->1<=v/\v<=N)
 (h:PC odd.mem N s f U a)(k:PC odd.mem N s g V c):∃z,znb a c=some z/\PC odd.mem N s (fun x=>f x&&g x) (U.union V) z:=by
 refine⟨_,?_,PC.both hf hg hd h k⟩;unfold znb;have ha:=h.le;have hc:=k.le;have h1:=zeb hN hU;have h2:=zeb hN hV
 have h3:a.s*c.s<=256:=by
  refine Nat.le_trans (Nat.mul_le_mul ha hc) ?_;rw[<-Nat.pow_add,<-zks hd]
  exact zeb hN fun v hv=>by
   rw[St.mem_union,Bool.or_eq_true]at hv
   rcases hv with hv|hv
   ·exact hU v hv
   exact hV v hv
 rw[if_pos ⟨by omega,by omega,by omega⟩]
theorem zz8(hN:N<=8){f g:(Int->Bool)->Bool}{U:St}{a c:Ct}(hx:∀x,¬(f x=true/\g x=true))(hU:∀v:Int,U.mem v=true->1<=v/\v<=N)(h:PC odd.mem N s f U a)(k:PC odd.mem N s g U c):
 ∃z,addO a c=some z/\PC odd.mem N s (fun x=>f x||g x) U z:=by
 refine⟨_,?_,PC.add hx h k⟩;unfold addO;have ha:=h.le;have hc:=k.le;have h1:=zeb hN hU;rw[if_pos (by omega)]
theorem ztx(hN:N<=8)(hL:zds l N l.length)(M:List Ct):∀(ins:List Int)(f:(Int->Bool)->Bool)(U:St)(c:Ct),dep f U.mem->U.ok->(∀v:Int,U.mem v=true->1<=v/\v<=N)->PC odd.mem N s f U c->
 (∀k∈ins,0<=k/\k<(l.length:Int)/\PC odd.mem N s (fun x=>T x l k) (vm l k) (M.getD k.toNat default))->sepF (zau l) U ins=true->
 ∃z,cAnd M c ins=some z/\PC odd.mem N s (fun x=>f x&&ins.all (T x l)) (insU (zau l) U ins) z
 |[],f,U,c,_,_,_,h,_,_=>⟨c,rfl,by
   have e:(fun x=>f x&&([]:List Int).all (T x l))=f:=by funext x;simp
   rw[e];exact h⟩
 |k::ins,f,U,c,hf,hU,hb,h,hk,hs=>by
   obtain⟨k0,k1,hS⟩:=hk k (by simp);rw[sepF]at hs
   by_cases hz:U.cut ((zau l).getD k.toNat St.zero)=St.zero
   ·rw[if_pos hz]at hs
    have hdis:∀v,¬(U.mem v=true/\(vm l k).mem v=true):=fun v⟨a,b⟩=>by
     have:(U.cut (vm l k)).mem v=true:=by rw[St.mem_cut,a,b];rfl
     have e:U.cut (vm l k)=St.zero:=hz;rw[e,St.mem_zero]at this;simp at this
    have hT:=yaq hL k0 k1;have hbd:=zy4 hL k.toNat k rfl k0 k1;obtain⟨z,hz1,hz2⟩:=zlz hN hf hT hdis hb hbd h hS
    have hdep:dep (fun x=>f x&&T x l k) (U.union (vm l k)).mem:=fun x x' h=>by
     have e1:=hf x x' fun v hv=>h v (by rw[St.mem_union,hv];rfl)
     have e2:=hT x x' fun v hv=>h v (by rw[St.mem_union,hv];simp)
     show(f x&&T x l k)=(f x'&&T x' l k)
     rw[e1];simp only at e2;rw[e2]
    obtain⟨y,hy1,hy2⟩:=ztx hN hL M ins (fun x=>f x&&T x l k) (U.union (vm l k)) z hdep (St.union_ok hU (zc6 l _)) (fun v hv=>by
     rw[St.mem_union,Bool.or_eq_true]at hv
     rcases hv with hv|hv
     ·exact hb v hv
     exact hbd v hv) hz2 (fun j hj=>hk j (by simp[hj])) hs
    refine⟨y,by rw[cAnd,hz1];exact hy1,?_⟩
    have e:(fun x=>f x&&(k::ins).all (T x l))=fun x=>(f x&&T x l k)&&ins.all (T x l):=by funext x;simp[Bool.and_assoc]
    rw[e];exact hy2
   rw[if_neg hz]at hs;simp at hs
theorem zzc(hN:N<=8)(ho:odd.ok)(hL:zds l N l.length)(M:List Ct){U:St}(hU:U.ok)(hb:∀v:Int,U.mem v=true->1<=v/\v<=N):∀(ins:List Int)(f:(Int->Bool)->Bool)(c:Ct),PC odd.mem N s f U c->
 (∀k∈ins,0<=k/\k<(l.length:Int)/\PC odd.mem N s (fun x=>T x l k) (vm l k) (M.getD k.toNat default)/\(∀v,(vm l k).mem v=true->U.mem v=true)/\∀x,¬(f x=true/\T x l k=true))->
 (∀x,ins.Pairwise fun j k=>¬(T x l j=true/\T x l k=true))->∃z,cOr (zau l) U odd M c ins=some z/\PC odd.mem N s (fun x=>f x||ins.any (T x l)) U z
 |[],f,c,h,_,_=>⟨c,rfl,by
   have e:(fun x=>f x||([]:List Int).any (T x l))=f:=by funext x;simp
   rw[e];exact h⟩
 |k::ins,f,c,h,hk,hp=>by
   obtain⟨k0,k1,hS,hin,hx⟩:=hk k (by simp);have hbd:=zy4 hL k.toNat k rfl k0 k1;have hvo:(vm l k).ok:=zc6 l _
   have hmm:∀v,(St.minus U (vm l k)).mem v=(U.mem v&&!(vm l k).mem v):=fun v=>St.mem_minus hvo v
   obtain⟨fr,hf1,hf2⟩:=zq6 (s:=s) hN ho (U:=St.minus U (vm l k)) (St.minus_ok hU) (fun v hv=>by rw[hmm,Bool.and_eq_true]at hv;exact hb v hv.1);obtain⟨y,hy1,hy2⟩:=zlz hN (yaq hL k0 k1) (fun _ _ _=>rfl) (fun v⟨a,b⟩=>by rw[hmm,a]at b;simp at b) hbd (fun v hv=>by rw[hmm,Bool.and_eq_true]at hv;exact hb v hv.1) hS hf2
   have hy3:PC odd.mem N s (fun x=>T x l k) U y:=hy2.congr (fun x _=>by simp) (fun v _ _=>by
    rw[St.mem_union,hmm];have:=hin v
    cases hv:(vm l k).mem v<;>cases hu:U.mem v<;>simp_all) (by omega)
   obtain⟨z,hz1,hz2⟩:=zz8 hN hx hb h hy3
   obtain⟨u,hu1,hu2⟩:=zzc hN ho hL M hU hb ins (fun x=>f x||T x l k) z hz2 (fun j hj=>by
    obtain⟨a,b,d,e,g⟩:=hk j (by simp[hj]);refine⟨a,b,d,e,fun x⟨u,v⟩=>?_⟩;rw[Bool.or_eq_true]at u
    rcases u with u|u
    ·exact g x ⟨u,v⟩
    exact(List.pairwise_cons.1 (hp x)).1 j hj ⟨u,v⟩) (fun x=>(List.pairwise_cons.1 (hp x)).2)
   refine⟨u,?_,?_⟩
   ·rw[cOr,show(zau l).getD k.toNat St.zero=vm l k from rfl,hf1]
    show(znb _ _).bind _=_
    rw[hy1]
    show(addO _ _).bind _=_
    rw[hz1];exact hu1
   have e:(fun x=>f x||(k::ins).any (T x l))=fun x=>(f x||T x l k)||ins.any (T x l):=by funext x;simp[Bool.or_assoc]
   rw[e];exact hu2
theorem zli{A:Int->Bool}{x:Int->Bool}{v:Int}{c:Bool}(h1:1<=v):∀n:Nat,(∀u:Int,1<=u->u<=n->(A u&&x u)=(decide (u=v)&&c))->par A n x=(decide (v<=n)&&c)
 |0,_=>by rw[par,decide_eq_false (by omega)];rfl
 |n+1,h=>by
   rw[par,zli h1 n fun u a b=>h u a (by omega),h ((n:Int)+1) (by omega) (by omega)]
   by_cases e:(n:Int)+1=v
   ·rw[decide_eq_true e,decide_eq_false (show¬v<=(n:Int)by omega),decide_eq_true (show v<=((n+1:Nat):Int)by omega)];cases c<;>rfl
   rw[decide_eq_false e]
   by_cases e2:v<=n
   ·rw[decide_eq_true e2,decide_eq_true (show v<=((n+1:Nat):Int)by omega)];cases c<;>rfl
   rw[decide_eq_false e2,decide_eq_false (show¬v<=((n+1:Nat):Int)by omega)];rfl
theorem yct{U:St}{v:Int}(hv1:1<=v)(hv2:v<=N)(hN:N<=128)(hU:∀u:Int,1<=u->U.mem u=decide (u=v))(p:Bool):PC odd.mem N s (fun x=>x v==p) U (if p=true/\odd.mem v=true then⟨0,1⟩else⟨1,0⟩):=fun b=>by
 have hc:card U=1:=zws hv1 (by omega) hU
 have hp:∀x:Int->Bool,par (fun u=>odd.mem u&&U.mem u) N x=(odd.mem v&&x v):=fun x=>by
  rw[zli hv1 N (c:=odd.mem v&&x v) fun u a _=>by
   rw[hU u a]
   by_cases e:u=v
   ·rw[e];simp
   simp[e]]
  rw[decide_eq_true hv2,Bool.true_and]
 simp only[hp];rw[hc,Nat.pow_one]
 by_cases hm:(odd.mem v&&p)=b
 ·have e:cnt (fun x=>(x v==p)&&((odd.mem v&&x v)==b)) N s=cnt (fun x=>x v==p) N s:=zag N s fun x _=>by
   cases hx:x v<;>cases p<;>cases ho:odd.mem v<;>cases b<;>simp_all
  rw[e,zpd p hv1 N s hv2,<-hm]
  cases p<;>cases odd.mem v<;>simp
 have e:cnt (fun x=>(x v==p)&&((odd.mem v&&x v)==b)) N s=cnt (fun _=>false) N s:=zag N s fun x _=>by
  cases hx:x v<;>cases p<;>cases ho:odd.mem v<;>cases b<;>simp_all
 rw[e,zem]
 cases p<;>cases ho:odd.mem v<;>cases b<;>simp_all
theorem zwr(hN:N<=8)(ho:odd.ok)(h:zcv ⟨(N:Int),l⟩=true)(hd:decL l=true)(hdet:detL l){M:List Ct}{i:Nat}(hi:i<l.length)(ihM:∀j,j<i->PC odd.mem N s (fun x=>T x l (j:Nat)) (vm l (j:Nat)) (M.getD j default)):
 ∃c,znc (zau l) odd M (vm l i) (nd l (i:Int))=some c/\PC odd.mem N s (fun x=>T x l i) (vm l i) c:=by
 have hL:zds l N l.length:=by simp[zcv]at h;exact h.2
 have h0:(0:Int)<=(i:Int):=by omega
 have h1:(i:Int)<(l.length:Int):=by omega
 have hok:=zoa hL h0 h1;have hins:=zd9 hok
 have ihI:∀j∈(nd l (i:Int)).ins,0<=j/\j<(l.length:Int)/\PC odd.mem N s (fun x=>T x l j) (vm l j) (M.getD j.toNat default):=fun j hj=>by
  have:=hins j hj;have hh:=ihM j.toNat (by omega);rw[show((j.toNat:Nat):Int)=j by omega]at hh;exact⟨this.1,by omega,hh⟩
 have hkind:=zi2 hok
 have hleaf:(nd l (i:Int)).kind≠3->(nd l (i:Int)).kind≠4->(nd l (i:Int)).ins=[]:=fun a b=>(zvf hok (by omega)).2
 have hown:(nd l (i:Int)).kind≠2->∀v,(vm l i).mem v=(nd l (i:Int)).ins.any fun k=>(vm l k).mem v:=fun h2 v=>by
  rw[zlq hL h0 h1,zxt hok h2,zmq,show zac 0=0 by unfold zac;rw[if_neg (by omega),if_neg (by omega)]]
  simp
 have hbd:=zy4 hL i i (by simp) h0 h1;have hone:PC odd.mem N s (fun _=>true) St.zero ⟨1,0⟩:=PC.free (k:=0) (m:=false) (by omega) (fun v hv=>by rw[St.mem_zero]at hv;simp at hv) (ztz fun v _=>St.mem_zero v) (by simp[St.mem_zero])
 have hnil:∀U:St,PC odd.mem N s (fun _=>false) U ⟨0,0⟩:=fun U b=>by
  simp only[Bool.false_and]
  rw[zem];cases b<;>simp
 unfold znc
 by_cases h1k:(nd l (i:Int)).kind=1
 ·rw[if_pos h1k];have hn:=hleaf (by omega) (by omega);refine⟨_,rfl,hone.congr (fun x _=>?_) (fun v _ _=>?_) (by omega)⟩
  ·rw[T_nd x hL h0 h1];unfold evNd;rw[if_pos h1k]
  rw[hown (by omega),hn,St.mem_zero];rfl
 rw[if_neg h1k]
 by_cases h2:(nd l (i:Int)).kind=2
 ·rw[if_pos h2];obtain⟨a,b⟩:=zmp hok h2
  have hv:1<=zac (nd l (i:Int)).lit/\zac (nd l (i:Int)).lit<=128:=by rcases zes a with h|h<;>omega
  have hu:∀u:Int,1<=u->(vm l i).mem u=decide (u=zac (nd l (i:Int)).lit):=fun u hu=>by
   rw[zlq hL h0 h1,hleaf (by omega) (by omega),zmq,decide_eq_true hv.1,decide_eq_true hv.2];simp
  refine⟨_,rfl,?_⟩;have hp:=yct (odd:=odd) (s:=s) hv.1 b (by omega) hu (decide (0<(nd l (i:Int)).lit))
  have e:(if decide (0<(nd l (i:Int)).lit)=true/\odd.mem (zac (nd l (i:Int)).lit)=true then(⟨0,1⟩:Ct)else⟨1,0⟩)=if 0<(nd l (i:Int)).lit/\odd.mem (nd l (i:Int)).lit=true then⟨0,1⟩else⟨1,0⟩:=by
   by_cases hp:0<(nd l (i:Int)).lit
   ·rw[show zac (nd l (i:Int)).lit=(nd l (i:Int)).lit by unfold zac;rw[if_pos (by unfold zac at hv;(repeat' split at hv)<;>omega)]]
    simp
   simp[hp]
  rw[e]at hp;exact hp.congr (fun x _=>by rw[zz7 hL h0 h1 h2];unfold zcj;rw[decide_eq_true a];simp) (fun _ _ _=>rfl) (by omega)
 rw[if_neg h2]
 by_cases h3:(nd l (i:Int)).kind=3
 ·rw[if_pos h3];obtain⟨c,hc1,hc2⟩:=ztx (s:=s) hN hL M (nd l (i:Int)).ins (fun _=>true) St.zero ⟨1,0⟩ (fun _ _ _=>rfl) St.zero_ok (fun v hv=>by rw[St.mem_zero]at hv;simp at hv) hone ihI (yao hd hi h3);refine⟨c,hc1,hc2.congr (fun x _=>?_) (fun v _ _=>?_) (by omega)⟩
  ·rw[T_nd x hL h0 h1];unfold evNd;rw[if_neg (by omega),if_neg (by omega),if_pos h3];simp
  rw[hown h2,zq9,St.mem_zero];rfl
 rw[if_neg h3]
 by_cases h4:(nd l (i:Int)).kind=4
 ·rw[if_pos h4];obtain⟨c,hc1,hc2⟩:=zzc (s:=s) hN ho hL M (U:=vm l i) (zc6 l _) hbd (nd l (i:Int)).ins (fun _=>false) ⟨0,0⟩ (hnil _) (fun k hk=>⟨(ihI k hk).1,(ihI k hk).2.1,(ihI k hk).2.2,fun v hv=>ydl hL h0 h1 hk v hv,fun _⟨a,_⟩=>by simp at a⟩) (fun x=>hdet x i hi h4);refine⟨c,hc1,hc2.congr (fun x _=>?_) (fun v _ _=>rfl) (by omega)⟩;rw[T_nd x hL h0 h1];unfold evNd;rw[if_neg (by omega),if_neg (by omega),if_neg h3,if_pos h4];simp
 rw[if_neg h4];refine⟨_,rfl,(hnil (vm l i)).congr (fun x _=>?_) (fun _ _ _=>rfl) (by omega)⟩;rw[T_nd x hL h0 h1];unfold evNd;rw[if_neg h1k,if_neg h2,if_neg h3,if_neg h4]
theorem znd(hN:N<=8)(ho:odd.ok)(h:zcv ⟨(N:Int),l⟩=true)(hd:decL l=true)(hdet:detL l):∀(r:List Nd)(M:List Ct),l.drop M.length=r->M.length<=l.length->(∀j,j<M.length->PC odd.mem N s (fun x=>T x l (j:Nat)) (vm l (j:Nat)) (M.getD j default))->
 ∃R,zhk (zau l) odd M r=some R/\∀j,j<l.length->PC odd.mem N s (fun x=>T x l (j:Nat)) (vm l (j:Nat)) (R.getD j default)
 |[],M,hr,hle,hM=>⟨M,rfl,by
   have:l.length<=M.length:=by
    have:=congrArg List.length hr;simp at this;omega
   intro j hj;exact hM j (by omega)⟩
 |x::r,M,hr,hle,hM=>by
   have hlt:M.length<l.length:=by
    have:=congrArg List.length hr;simp at this;omega
   have hx:nd l (M.length:Int)=x:=by
    rw[zvg (by omega) (by omega)];rw[List.drop_eq_getElem_cons hlt]at hr;have:=(List.cons.inj hr).1
    simpa using this
   obtain⟨c,hc1,hc2⟩:=zwr (s:=s) hN ho h hd hdet hlt hM;rw[hx]at hc1
   obtain⟨R,hR1,hR2⟩:=znd hN ho h hd hdet r (M++[c]) (by
    rw[List.drop_eq_getElem_cons hlt]at hr;have:=(List.cons.inj hr).2
    simpa using this) (by simp;omega) (fun j hj=>by
    simp at hj
    by_cases e:j<M.length
    ·have:=hM j e
     simpa[List.getD_eq_getElem?_getD,List.getElem?_append_left e]using this
    obtain rfl:j=M.length:=by omega
    simpa[List.getD_eq_getElem?_getD]using hc2)
   refine⟨R,?_,hR2⟩;rw[zhk];rw[show(zau l).getD M.length St.zero=vm l (M.length:Nat)by unfold vm;simp,hc1];exact hR1
theorem zty:∀N:Nat,N<9->card (zbq (N:Int))=N:=by decide+kernel
theorem zuc(hN:N<=8)(ho:odd.ok)(h:zcv ⟨(N:Int),l⟩=true)(hd:decL l=true)(hdet:detL l):
 ∃c,zkv N l odd=some c/\∀b,cnt (fun x=>ev x ⟨(N:Int),l⟩&&(par odd.mem N x==b)) N s=if b then c.o else c.e:=by
 have hL:zds l N l.length:=by simp[zcv]at h;exact h.2
 have hl1:=(ze7 h).2.2.1;simp only at hl1;obtain⟨R,hR1,hR2⟩:=znd (s:=s) hN ho h hd hdet l [] rfl (Nat.zero_le _) (fun j hj=>absurd hj (Nat.not_lt_zero _));have hroot:=hR2 (l.length-1) (by omega);have hbd:=zy4 hL (l.length-1) ((l.length-1:Nat):Int) (by simp) (by omega) (by omega);have hvo:(vm l ((l.length-1:Nat):Int)).ok:=zc6 l _
 have hmm:∀v,(St.minus (zbq (N:Int)) (vm l ((l.length-1:Nat):Int))).mem v=((zbq (N:Int)).mem v&&!(vm l ((l.length-1:Nat):Int)).mem v):=fun v=>St.mem_minus hvo v
 have hall:∀v,(zbq (N:Int)).mem v=true->1<=v/\v<=N:=fun v hv=>by
  rw[zdc]at hv;simp only[Bool.and_eq_true,decide_eq_true_eq]at hv;exact⟨hv.1,hv.2.2⟩
 obtain⟨f,hf1,hf2⟩:=zq6 (s:=s) hN ho (U:=St.minus (zbq (N:Int)) (vm l ((l.length-1:Nat):Int))) (St.minus_ok (zdo _)) (fun v hv=>by rw[hmm,Bool.and_eq_true]at hv;exact hall v hv.1);obtain⟨c,hc1,hc2⟩:=zlz hN (yaq hL (show(0:Int)<=((l.length-1:Nat):Int)by omega) (by omega)) (fun _ _ _=>rfl) (fun v⟨a,b⟩=>by rw[hmm,a]at b;simp at b) hbd (fun v hv=>by rw[hmm,Bool.and_eq_true]at hv;exact hall v hv.1) hroot hf2
 have hc3:PC odd.mem N s (fun x=>ev x ⟨(N:Int),l⟩) (zbq (N:Int)) c:=hc2.congr (fun x _=>by rw[yco x _ hl1];simp) (fun v a b=>by
  rw[St.mem_union,hmm]
  cases hv:(vm l ((l.length-1:Nat):Int)).mem v
  ·simp
  have:=hbd v hv
  rw[zdc,decide_eq_true a,decide_eq_true b,decide_eq_true this.2];rfl) (by omega)
 refine⟨c,?_,fun b=>?_⟩
 ·unfold zkv;rw[hR1]
  show(zpo _ _).bind _=_
  rw[show(zau l).getD (l.length-1) St.zero=vm l ((l.length-1:Nat):Int)by unfold vm;simp,hf1];exact hc1
 have hb:=hc3 b;rw[zty N (by omega)]at hb;rw[<-zjn hb]
 refine zag N s fun x _=>?_
 have e:par odd.mem N x=par (fun v=>odd.mem v&&(zbq (N:Int)).mem v) N x:=zcx N fun v a b=>by
  rw[zdc,decide_eq_true a,decide_eq_true (show v<=128 by omega),decide_eq_true b];simp
 rw[e]
end
def U8Cells(w:World)(a:Option Addr)(bs:List Nat):Prop:=∀i,i<bs.length->∃b off,a=some ⟨b,off,none⟩/\w.cell? ⟨b,off+i,none⟩=some (.int .u8 ((bs.getD i 0:Nat):Int))/\bs.getD i 0<256
theorem U8Cells.keep{w w':World}{a:Option Addr}{bs:List Nat}(h:U8Cells w a bs)(hb:Below w.heap.size w w'):U8Cells w' a bs:=fun i hi=>
 let⟨b,off,e,h0,h1⟩:=h i hi;⟨b,off,e,zab hb h0,h1⟩
def bitN(bs:List Nat)(i:Nat):Bool:=bs.getD (i/8) 0/2^(7-i%8)%2==1
def zjy(n m:Int):Int:=if n<0\/128<n\/m<0\/16<m then 0 else m*(n+1)
theorem yac:∀b,b<256->∀k,k<8->(bits .and .u8 ((b/2^k:Nat):Int) 1==1)=(b/2^k%2==1):=by decide+kernel
theorem zv2(x k:Nat):((x:Int)/2^k)=((x/2^k:Nat):Int):=by rw[Int.natCast_ediv,Int.natCast_pow];rfl
theorem sh_tmod(x k:Nat):(((x:Int)/2^k).tmod 2==1)=(x/2^k%2==1):=by
 rw[zv2,Int.tmod_eq_emod_of_nonneg (Int.natCast_nonneg _),Bool.eq_iff_iff];simp only[beq_iff_eq];omega
theorem bit_any(a:Option Addr)(cap:Nat)(bs:List Nat)(i:Nat)(w:World)(hl:bs.length<=1073741824)(hx:U8Cells w a bs)(hi:i/8<bs.length):
 Calls Tryz.prog 87 #[.slice a bs.length cap,.int .i64 (i:Int)] w fun e w'=>e=.returned (.bool (bitN bs i))/\w=w':=by
 obtain⟨b,off,rfl,c0,hb⟩:=hx _ hi;have HB:Hid (bitN bs i=(bs.getD (i/8) 0/2^(7-i%8)%2==1)):=rfl;clear hx;generalize bs.getD (i/8) 0=x at*;obtain⟨q,hq⟩:=nm (i/8);obtain⟨r,hr⟩:=nm (i%8)
 have h8:r<8:=by omega
 have e1:(i:Int)/8=(q:Int):=by omega
 have e2:(i:Int)%8=(r:Int):=by omega
 rw[<-hq]at c0 hi;rw[<-hr]at HB
 have hqi:(q:Int)<(bs.length:Int):=by omega
 have hi0:0<=(i:Int):=by omega
 clear hq hr;go_enter Tryz.func87,Tryz.ntmps87;go_wp2;exact bodyPost_ret (v:=.bool (((x:Int)/2^(7-r)).tmod 2==1)) (by simp[results,Tryz.results87,go_sem]) rfl ⟨by rw[HB.o,sh_tmod],rfl⟩
theorem zom(n m:Int)(w:World):Calls Tryz.prog 54 #[.int .i64 n,.int .i64 m] w fun e w'=>e=.returned (.int .i64 (zjy n m))/\w=w':=by
 have HS:Hid (zjy n m=if n<0\/128<n\/m<0\/16<m then 0 else m*(n+1)):=rfl
 by_cases h:n<0\/128<n\/m<0\/16<m
 ·have HE:Hid (zjy n m=0):=by show _=_;rw[HS.o,if_pos h]
  clear HS
  have h1:n<0\/¬n<0:=by omega
  rcases h1 with h1|h1
  ·go_enter Tryz.func54,Tryz.ntmps54;go_wp2;go_ret;exact⟨by rw[HE.o];rfl,rfl⟩
  have h2:128<n\/¬128<n:=by omega
  rcases h2 with h2|h2
  ·go_enter Tryz.func54,Tryz.ntmps54;go_wp2;go_ret;exact⟨by rw[HE.o];rfl,rfl⟩
  have h3:m<0\/¬m<0:=by omega
  rcases h3 with h3|h3
  ·go_enter Tryz.func54,Tryz.ntmps54;go_wp2;go_ret;exact⟨by rw[HE.o];rfl,rfl⟩
  have h4:16<m:=by omega
  go_enter Tryz.func54,Tryz.ntmps54;go_wp2;go_ret;exact⟨by rw[HE.o];rfl,rfl⟩
 have HE:Hid (zjy n m=m*(n+1)):=by show _=_;rw[HS.o,if_neg h]
 have h1:¬n<0:=by omega
 have h2:¬128<n:=by omega
 have h3:¬m<0:=by omega
 have h4:¬16<m:=by omega
 have h5:m*(n+1)<=2064:=by
  have a1:m*(n+1)<=16*(n+1):=Int.mul_le_mul_of_nonneg_right (by omega) (by omega);omega
 have h6:0<=m*(n+1):=Int.mul_nonneg (by omega) (by omega);clear h HS;go_enter Tryz.func54,Tryz.ntmps54;go_wp2;go_ret;exact⟨by rw[HE.o];rfl,rfl⟩
theorem zx1(A S:Nat)(a:Option Addr)(cap:Nat)(bs:List Nat)(i:Nat)(w:World)(hl:bs.length<=1073741824)(hx:U8Cells w a bs)(hi:i/8<bs.length)(hA:Blk w A #[.int .i64 ((i:Int)-1)] 3)(hS:Blk w S #[.slice a bs.length cap] 50)(hAS:A≠S)(hab:∀q,a=some q->q.block≠A):
 Calls Tryz.prog 55 #[.pointer (some ⟨A,0,none⟩),.pointer (some ⟨S,0,none⟩)] w fun e w'=>e=.returned (.bool (bitN bs i))/\Blk w' A #[.int .i64 (i:Int)] 3/\Kp (fun y=>y=A) w w':=by
 obtain⟨b,off,rfl,c0,hb⟩:=hx _ hi;have HB:Hid (bitN bs i=(bs.getD (i/8) 0/2^(7-i%8)%2==1)):=rfl;have hbA:b≠A:=hab _ rfl;clear hx hab;generalize bs.getD (i/8) 0=x at*;obtain⟨q,hq⟩:=nm (i/8);obtain⟨r,hr⟩:=nm (i%8)
 have h8:r<8:=by omega
 have e1:(i:Int)/8=(q:Int):=by omega
 have e2:(i:Int)%8=(r:Int):=by omega
 have HE:=lh (yac x hb (7-r) (by omega));rw[<-hq]at c0 hi;rw[<-hr]at HB
 have hqi:(q:Int)<(bs.length:Int):=by omega
 have hi0:0<=(i:Int):=by omega
 have hii:(i:Int)<8*1073741824:=by omega
 clear hq hr;have HA:=lh hA;have a0:=hA.cell 0;have af:=hA.fr 0;have al:=hA.lt;have s0:=hS.cell 0;have sl:=hS.lt;clear hA hS;go_enter Tryz.func55,Tryz.ntmps55;go_wp2_with fail;have hw1:Blk (w.setCell ⟨A,0,none⟩ (.int .i64 (i:Int))) A #[.int .i64 (i:Int)] 3:=HA.o.set 0 _;have hk1:Kp (fun y=>y=A) w (w.setCell ⟨A,0,none⟩ (.int .i64 (i:Int))):=Kp.setCell _ _ _ rfl;have HK1:=lh hk1;have HW1:=lh hw1;have d0:=hk1.cell c0 hbA;have d1:=hk1.cell s0 (by dsimp only;omega);have d2:=hw1.cell 0;have z0:=hw1.lt
 have z1:S<(w.setCell ⟨A,0,none⟩ (.int .i64 (i:Int))).heap.size:=by rw[World.size_setCell'];exact sl
 clear a0 af al s0 sl c0 hk1 hw1 HA;generalize w.setCell ⟨A,0,none⟩ (.int .i64 (i:Int))=w1 at*
 go_quiet(fail)
 go_wp2;go_ret;exact⟨by rw[HB.o,<-HE.o,<-zv2];rfl,HW1.o.later (zl9 _ _),HK1.o.trans (Kp.below (zl9 _ _))⟩
end Go.Proofs.YtnlaakmglhjjmaaGreatDoor
