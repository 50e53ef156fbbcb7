/- Parts of the proofs of laws. Texts: Pd, Ga, Pe, Ph, Jk0, Short, Hn, Hu0. -/
import Derived.Test.YtnlaakmglhjjmaaGreatDoorYC42
import Derived.Test.YtnlaakmglhjjmaaGreatDoorYC39
import Derived.Laws.EntriesVeiled
set_option maxHeartbeats 8000000
set_option maxRecDepth 100000
set_option linter.all false
namespace Go.Proofs.YtnlaakmglhjjmaaGreatDoor
open Go.RowKit Cen
section
variable{N:Nat}{L:List Nd}{z:Int->Bool}
theorem ybt(o:Bool)(y:Ct)(f:(Int->Bool)->Bool)(v:St)(h:∀b,cnt (fun x=>f x&&(par v.mem N x==b)) N z=if b then y.o else y.e):
 (zhe o y).e=cnt (fun x=>f x&&!gP N ⟨v,o⟩ x) N z/\(zhe o y).o=cnt (fun x=>f x&&gP N ⟨v,o⟩ x) N z:=by
 have h0:=h false;have h1:=h true;simp only[Bool.false_eq_true,if_false,if_true]at h0 h1
 cases o with
 |false=>
   constructor
   ·show y.e=_
    rw[<-h0]
    exact zag N z fun x _=>by unfold gP;cases f x<;>cases par v.mem N x<;>rfl
   show y.o=_
   rw[<-h1]
   exact zag N z fun x _=>by unfold gP;cases f x<;>cases par v.mem N x<;>rfl
 |true=>
   constructor
   ·show y.o=_
    rw[<-h1]
    exact zag N z fun x _=>by unfold gP;cases f x<;>cases par v.mem N x<;>rfl
   show y.e=_
   rw[<-h0]
   exact zag N z fun x _=>by unfold gP;cases f x<;>cases par v.mem N x<;>rfl
theorem zqr(hN:N<=8)(h:zcv ⟨(N:Int),L⟩=true)(hd:decL L=true)(hdet:detL L){rows:List Pr}(hok:∀p∈rows,p.ok)(T:Nat)
 (hbd:sumE (evE N rows z (fun x=>ev x ⟨(N:Int),L⟩) rows.length) T<65536/\sumE (odE N rows z (fun x=>ev x ⟨(N:Int),L⟩) rows.length) T<65536):
 ∀t,t<=T->zh3 N L rows t=some ⟨sumE (evE N rows z (fun x=>ev x ⟨(N:Int),L⟩) rows.length) t,sumE (odE N rows z (fun x=>ev x ⟨(N:Int),L⟩) rows.length) t⟩
 |0,_=>rfl
 |t+1,ht=>by
   have ih:=zqr hN h hd hdet hok T hbd t (by omega);obtain⟨c,hc1,hc2⟩:=zuc (s:=z) hN (zj0 rows t hok rows.length (Nat.le_refl _)) h hd hdet;obtain⟨e1,e2⟩:=ybt (z:=z) (subK rows t rows.length).odd c _ (subK rows t rows.length).v hc2;have m1:=zj1 (evE N rows z (fun x=>ev x ⟨(N:Int),L⟩) rows.length) (t+1) T ht;have m2:=zj1 (odE N rows z (fun x=>ev x ⟨(N:Int),L⟩) rows.length) (t+1) T ht;have f1:(zhe (subK rows t rows.length).odd c).e=evE N rows z (fun x=>ev x ⟨(N:Int),L⟩) rows.length t:=e1;have f2:(zhe (subK rows t rows.length).odd c).o=odE N rows z (fun x=>ev x ⟨(N:Int),L⟩) rows.length t:=e2
   rw[zh3,ih]
   show(zkv N L (subK rows t rows.length).v).bind _=_
   rw[hc1]
   show(if _ then some _ else none)=_
   rw[f1,f2];rw[sumE]at m1 m2;rw[if_pos ⟨by show sumE _ t+_<65536;omega,by show sumE _ t+_<65536;omega⟩]
   rfl
theorem zwv(hN:N<=8)(h:zcv ⟨(N:Int),L⟩=true)(hd:decL L=true)(hdet:detL L)(l:List Pr)(hok:∀p∈l,p.ok)(hin:∀p∈l,∀v,p.v.mem v=true->v<=N):
 zfl N L l=some (cnt (fun x=>ev x ⟨(N:Int),L⟩&&satP N l x) N z):=by
 have hI:RdI N [] l:=⟨by simp,List.Pairwise.nil,by simp,by simp,hin⟩
 obtain⟨h1,h2⟩:=zvx (l.length+1) l [] (Nat.lt_succ_self _) hI;have hrows:=zjv l hok;unfold zfl
 cases hr:(zay l).2 with
 |false=>
   rw[if_neg (by simp)]
   congr 1
   have:cnt (fun x=>ev x ⟨(N:Int),L⟩&&satP N l x) N z=cnt (fun _=>false) N z:=zag N z fun x _=>by
    have:=h2 hr x;unfold satP at this⊢;simp only[List.all_nil,Bool.true_and]at this;rw[this,Bool.and_false]
   rw[this,zem]
 |true=>
   rw[if_pos rfl];obtain⟨hR,hsat⟩:=h1 hr;have hlen:(zay l).1.length<=N:=hR.len
   have hs:∀x,satP N l x=satP N (zay l).1 x:=fun x=>by
    have:=hsat x;rw[show satP N [] x=true from rfl,Bool.true_and]at this;exact this.symm
   have he:cnt (fun x=>ev x ⟨(N:Int),L⟩&&satP N l x) N z=cnt (fun x=>ev x ⟨(N:Int),L⟩&&satP N (zay l).1 x) N z:=zag N z fun x _=>by rw[hs x]
   rw[he];have hR0:RdI N (zay l).1 []:=hR;generalize(zay l).1=rows at*
   have hd1:=yaw (N:=N) (rows:=rows) (z:=z) fun x=>ev x ⟨(N:Int),L⟩
   have ha:=zzg (N:=N) (rows:=rows) (z:=z) fun x=>ev x ⟨(N:Int),L⟩
   have hM:cnt (fun x=>ev x ⟨(N:Int),L⟩) N z<=256:=Nat.le_trans (zfh _ N z) (Nat.le_trans (Nat.pow_le_pow_right (by omega) hN) (by decide));have hP:2^rows.length<=256:=Nat.le_trans (Nat.pow_le_pow_right (by omega) (Nat.le_trans hlen hN)) (by decide)
   have hC:cnt (fun x=>ev x ⟨(N:Int),L⟩&&satP N rows x) N z<=255\/2^rows.length=1:=by
    cases hrw:rows with
    |nil=>right;rfl
    |cons p rs=>
      left
      have hp:=hR0.pos p (by rw[hrw];simp);have hm:=ze0 hp;have hb:=hR0.ino p (by rw[hrw];simp) _ hm;have hhalf:=zid (D:=p.v.mem) N z p.odd (za4 p.v) (by omega) hb hm
      have hle:cnt (fun x=>ev x ⟨(N:Int),L⟩&&satP N (p::rs) x) N z<=cnt (fun x=>par p.v.mem N x==p.odd) N z:=by
       have hs:=zb1 (N:=N) (z:=z) (fun x=>par p.v.mem N x==p.odd) (fun x=>ev x ⟨(N:Int),L⟩&&satP N (p::rs) x)
       have e:cnt (fun x=>(par p.v.mem N x==p.odd)&&(ev x ⟨(N:Int),L⟩&&satP N (p::rs) x)) N z=cnt (fun x=>ev x ⟨(N:Int),L⟩&&satP N (p::rs) x) N z:=zag N z fun x _=>by
        unfold satP gP;rw[List.all_cons]
        cases par p.v.mem N x<;>cases p.odd<;>simp
       omega
      have h8:2^N<=256:=Nat.le_trans (Nat.pow_le_pow_right (by omega) hN) (by decide);omega
   obtain⟨hd2,hd3⟩:=hd1;have hCle:cnt (fun x=>ev x ⟨(N:Int),L⟩&&satP N rows x) N z<=256:=Nat.le_trans (zfh _ N z) (Nat.le_trans (Nat.pow_le_pow_right (by omega) hN) (by decide))
   have hb:sumE (evE N rows z (fun x=>ev x ⟨(N:Int),L⟩) rows.length) (2^rows.length)<65536:=by
    generalize sumE (evE N rows z (fun x=>ev x ⟨(N:Int),L⟩) rows.length) (2^rows.length)=A at*;generalize cnt (fun x=>ev x ⟨(N:Int),L⟩) N z=M at*;generalize cnt (fun x=>ev x ⟨(N:Int),L⟩&&satP N rows x) N z=C at*;generalize 2^rows.length=P at*
    rcases hC with hC|hC
    ·have:P*(M+C)<=256*511:=Nat.mul_le_mul hP (by omega);omega
    have hP1:P*(M+C)=M+C:=by rw[hC,Nat.one_mul]
    omega
   have hA:=zqr (z:=z) hN h hd hdet hrows (2^rows.length) ⟨hb,Nat.lt_of_le_of_lt hd2 hb⟩ (2^rows.length) (Nat.le_refl _);rw[hA]
   show(if _ then some _ else none)=_
   rw[if_pos ⟨hd2,Nat.le_trans hlen hN⟩]
   show some ((_-_)/2^rows.length)=_
   rw[hd3]
end
end Go.Proofs.YtnlaakmglhjjmaaGreatDoor
namespace Cen
def BV(N:List Nd)(i:Int)(v:Int):Prop:=((zau N).getD i.toNat St.zero).mem v=true
theorem zef{l r:List Nd}{i:Nat}(h:i<l.length):(zau (l++r)).getD i St.zero=(zau l).getD i St.zero:=by
 obtain⟨us,hu⟩:=zfk r (zau l)
 have e:zau (l++r)=zau l++us:=by rw[<-hu];exact zdu l r []
 rw[e,List.getD_eq_getElem?_getD,List.getD_eq_getElem?_getD,List.getElem?_append_left (by rw[zba];exact h)]
theorem ya9(vs:List St)(ins:List Int)(v:Int):∀s:St,(insU vs s ins).mem v=true↔s.mem v=true\/∃k∈ins,(vs.getD k.toNat St.zero).mem v=true:=by
 induction ins with
 |nil=>intro s;simp[insU]
 |cons k ins ih=>
   intro s;rw[show insU vs s (k::ins)=insU vs (s.union (vs.getD k.toNat St.zero)) ins from rfl,ih,St.mem_union,Bool.or_eq_true];simp only[List.mem_cons]
   constructor
   ·rintro((h|h)|⟨j,hj,h⟩)
    ·exact .inl h
    ·exact .inr ⟨k,.inl rfl,h⟩
    exact .inr ⟨j,.inr hj,h⟩
   rintro(h|⟨j,rfl|hj,h⟩)
   ·exact .inl (.inl h)
   ·exact .inl (.inr h)
   exact .inr ⟨j,hj,h⟩
theorem ybe(x v:Int):(ofL [x]).mem v=true↔v=x/\1<=x/\x<=128:=by
 unfold ofL;simp only[List.foldl_cons,List.foldl_nil,St.mem_add,St.mem_zero,Bool.false_or,Bool.and_eq_true,decide_eq_true_eq,and_assoc]
theorem BV_eq{N:List Nd}{i:Nat}(hi:i<N.length)(hin:zeg (nd N i).ins i=true){v:Int}:BV N i v↔(v=zac (nd N i).lit/\1<=v)\/∃k∈(nd N i).ins,BV N k v:=by
 rw[zer]at hin
 have e:nd N i=N[i]:=by unfold nd;simp[List.getD_eq_getElem?_getD,hi]
 rw[e]at hin⊢;have h1:N=N.take (i+1)++N.drop (i+1):=(List.take_append_drop _ _).symm
 have h2:(zau N).getD i St.zero=insU (zau (N.take i)) (ofL [zac N[i].lit]) N[i].ins:=by
  have hl:(zau (N.take i)).length=i:=by rw[zba,List.length_take];omega
  have h3:=zef (l:=N.take (i+1)) (r:=N.drop (i+1)) (i:=i) (by rw[List.length_take];omega);rw[<-h1,List.take_succ_eq_append_getElem hi,zhh,List.getD_eq_getElem?_getD (l:=_++_),List.getElem?_append_right (by omega),hl]at h3;rw[h3];simp
 have h4:∀k∈N[i].ins,(zau (N.take i)).getD k.toNat St.zero=(zau N).getD k.toNat St.zero:=fun k hk=>by
  have:=hin k hk;have h5:=zef (l:=N.take i) (r:=N.drop i) (i:=k.toNat) (by rw[List.length_take];omega);rw[List.take_append_drop]at h5;exact h5.symm
 unfold BV;rw[Int.toNat_natCast,h2,ya9,ybe];have hb:=zcd N[i].lit
 constructor
 ·rintro(⟨a,b,_⟩|⟨k,hk,a⟩)
  ·exact .inl ⟨a,by omega⟩
  rw[h4 k hk]at a;exact .inr ⟨k,hk,a⟩
 rintro(⟨a,b⟩|⟨k,hk,a⟩)
 ·exact .inl ⟨a,by omega,by omega⟩
 rw[<-h4 k hk]at a;exact .inr ⟨k,hk,a⟩
def Nod(st:List Nc)(N:List Nd):Prop:=∀(i:Nat)(c:Nc),st[i]?=some c->i<N.length/\nd N i=c.nd/\zeg c.nd.ins i=true
def Bel(st:List Nc)(N:List Nd)(i:Nat):Prop:=∀c,st[i]?=some c->(∀x,c.nd=⟨2,x,[]⟩->∀v,BV N i v->v=zac x)/\(c.nd.kind=0->∀v,¬BV N i v)/\(c.nd.kind=4->∀l t,c.tag=some (l,t)->∀v,BV N i v->(zae l).mem v=true)
section
variable{st:List Nc}{N:List Nd}{n:Nat}{ch:List Cl->Int}
theorem Nod.eq(h:Nod st N){i:Nat}{c:Nc}(hc:st[i]?=some c){v:Int}:BV N i v↔(v=zac c.nd.lit/\1<=v)\/∃k∈c.nd.ins,BV N k v:=by
 obtain⟨h1,h2,h3⟩:=h i c hc;have:=BV_eq (v:=v) h1 (by rw[h2];exact h3)
 rwa[h2]at this
theorem zet:zac 0=0:=by unfold zac;simp
theorem Fit.sep(hn:n<=128){m:List Cl}{ins:List Nat}(h:Fit st m ins)(hg:∀c∈m,gC n c)(hB:∀j∈ins,Bel st N j):
 (ins.Pairwise fun(i j:Nat)=>∀v,¬(BV N i v/\BV N j v))/\∀j∈ins,∀v,BV N (j:Nat) v->(zae m).mem v=true:=by
 induction h with
 |@unit x l i ins a hf ih=>
   have hl:=(hg [x] (by simp)).lv hn (x:=x) (by simp)
   obtain⟨ih1,ih2⟩:=ih (zbh hg x).gc fun j hj=>hB j (by simp[hj])
   obtain⟨c,hc,e⟩:=a;have hi:=(hB i (by simp) c hc).1 x e;refine⟨List.pairwise_cons.2 ⟨fun j hj v⟨h1,h2⟩=>?_,ih1⟩,fun j hj v hv=>?_⟩
   ·exact(za1 hl (ih2 j hj v h2)).2 (hi v h1)
   rcases List.mem_cons.1 hj with rfl|hj
   ·rw[hi v hv];exact zge (c:=[x]) (by simp) (by simp) hl
   exact(za1 hl (ih2 j hj v hv)).1
 |@bad l i a b=>
   obtain⟨c,hc,e⟩:=b;refine⟨by simp,fun j hj v hv=>?_⟩;simp at hj;subst hj;exact absurd hv ((hB j (by simp) c hc).2.1 (by rw[e]) v)
 |@parts l ins a b c=>
   have key:∀k(h1:k<ins.length)(h2:k<(zaj l).length)v,BV N (ins[k]:Nat) v->(zae (zaj l)[k]).mem v=true:=fun k h1 h2 v hv=>by
    obtain⟨⟨c',t,hc,ht⟩,d,hd,hk⟩:=c k h1
    have e1:ins.getD k 0=ins[k]:=by simp[List.getD_eq_getElem?_getD,h1]
    have e2:(zaj l).getD k []=(zaj l)[k]:=by simp[List.getD_eq_getElem?_getD,h2]
    rw[e1]at hc hd;rw[e2]at ht;rw[hc]at hd;simp at hd;subst hd;exact(hB _ (List.getElem_mem h1) c' hc).2.2 hk _ t ht v hv
   refine⟨?_,fun j hj v hv=>?_⟩
   ·rw[List.pairwise_iff_getElem];intro i j hi hj hij v⟨h1,h2⟩;have:=List.pairwise_iff_getElem.1 (zm3 l) i j (by omega) (by omega) hij v;exact this ⟨key i hi (by omega) v h1,key j hj (by omega) v h2⟩
   obtain⟨k,hk,rfl⟩:=List.getElem_of_mem hj;exact ze9 (List.getElem_mem (by omega)) (key k hk (by omega) v hv)
theorem Nod.lit(hN:Nod st N){i:Nat}{x:Int}(h:isLit st i x)(hx:zac x≠0)(v:Int):BV N i v↔v=zac x:=by
 obtain⟨c,hc,e⟩:=h;rw[hN.eq hc,e];have:=zcd x
 constructor
 ·rintro(⟨a,_⟩|⟨k,hk,_⟩)
  ·exact a
  simp at hk
 intro a;exact .inl ⟨a,by omega⟩
theorem Nod.and(hn:n<=128)(hN:Nod st N){l:List Cl}{x:Int}{k:Nat}{ins:List Nat}(hg:∀c∈l,gC n c)(hx:zac x≠0)(hk:isLit st k x)(hf:Fit st (zah l x) ins)(hB:∀j∈ins,Bel st N j):
 ((k::ins).Pairwise fun(i j:Nat)=>∀v,¬(BV N i v/\BV N j v))/\∀j∈k::ins,∀v,BV N (j:Nat) v->v=zac x\/(zae l).mem v=true:=by
 obtain⟨h1,h2⟩:=hf.sep hn (zbh hg x).gc hB;have hl:=hN.lit hk hx;refine⟨List.pairwise_cons.2 ⟨fun j hj v⟨a,b⟩=>?_,h1⟩,fun j hj v hv=>?_⟩
 ·exact(za1 hx (h2 j hj v b)).2 ((hl v).1 a)
 rcases List.mem_cons.1 hj with rfl|hj
 ·exact .inl ((hl v).1 hv)
 exact .inr (za1 hx (h2 j hj v hv)).1
theorem zjj{l:List Nat}{k:Int}:k∈zaf l↔∃j∈l,(j:Int)=k:=by simp[zaf]
theorem Side.bel(hn:n<=128)(hN:Nod st N){l:List Cl}{x:Int}{i:Nat}(h:Side st l x i)(hg:∀c∈l,gC n c)(hx:zac x≠0)(hv:(zae l).mem (zac x)=true)(hB:∀j,j<i->Bel st N j):
 (∀v,BV N i v->(zae l).mem v=true)/\BV N i (zac x):=by
 rcases h with⟨a,b⟩|⟨a,c,k,ins,d,e,f,g,h1,h2,h3⟩
 ·have hl:=hN.lit b hx;exact⟨fun v h=>by rw[(hl v).1 h];exact hv,(hl _).2 rfl⟩
 have h4:=(hN.and hn hg hx g h1 fun j hj=>hB j (h3 j hj)).2
 have hq:=fun v=>hN.eq (v:=v) d
 rw[e]at hq;refine⟨fun v h=>?_,(hq _).2 (.inr ⟨k,zjj.2 ⟨k,by simp,rfl⟩,(hN.lit g hx _).2 rfl⟩)⟩
 rcases(hq v).1 h with⟨a1,a2⟩|⟨j,hj,a1⟩
 ·simp only[zet]at a1;omega
 obtain⟨j',hj',rfl⟩:=zjj.1 hj
 rcases h4 j' hj' v a1 with rfl|h5
 ·exact hv
 exact h5
theorem zo0(hn:n<=128)(hi:Inv ch n st)(hN:Nod st N):∀i,Bel st N i:=by
 intro i
 induction i using Nat.strongRecOn with
 |_ i ih=>
   intro c hc
   have hq:=fun v=>hN.eq (v:=v) hc
   have hf:=hi i c hc
   cases hf with
   |@lit x t a b=>
     refine⟨fun y e v h=>?_,fun h=>by simp at h,fun h=>by simp at h⟩;simp at e;subst e
     rcases(hq v).1 h with⟨a1,_⟩|⟨j,hj,_⟩
     ·exact a1
     simp at hj
   |bad a=>
     refine⟨fun y e=>by simp at e,fun _ v h=>?_,fun h=>by simp at h⟩
     rcases(hq v).1 h with⟨a1,a2⟩|⟨j,hj,_⟩
     ·simp only[zet]at a1;omega
     simp at hj
   |@dec l t a b g1 g2 g3 g4 g5 g6 g7 g8 s1 s2=>
     refine⟨fun y e=>by simp at e,fun h=>by simp at h,fun _ l' t' e v h=>?_⟩;simp only[Option.some.injEq,Prod.mk.injEq]at e;obtain⟨rfl,_⟩:=e
     have hv0:zac (ch l)=ch l:=by rw[zam (by omega) (by omega) (by omega),if_neg (by omega)]
     have b1:=(s1.bel hn hN g1.gc (by rw[zbw,hv0];omega) (by rw[zbw,hv0];exact g6) fun j hj=>ih j (by omega)).1;have b2:=(s2.bel hn hN g1.gc (by rw[hv0];omega) (by rw[hv0];exact g6) fun j hj=>ih j (by omega)).1
     rcases(hq v).1 h with⟨a1,a2⟩|⟨j,hj,h2⟩
     ·simp only[zet]at a1;omega
     simp only[List.mem_cons,List.not_mem_nil,or_false]at hj
     rcases hj with rfl|rfl
     ·exact b1 v h2
     exact b2 v h2
   |and=>exact⟨fun y e=>by simp at e,fun h=>by simp at h,fun h=>by simp at h⟩
theorem zv1:∀(ins:List Nat)(s:St),s.ok->(ins.Pairwise fun(i j:Nat)=>∀v,¬(BV N i v/\BV N j v))->(∀j∈ins,∀v,¬(s.mem v=true/\BV N (j:Nat) v))->sepF (zau N) s (zaf ins)=true
 |[],s,_,_,_=>rfl
 |k::ins,s,hs,hp,hd=>by
   rw[show zaf (k::ins)=(k:Int)::zaf ins from rfl];unfold sepF
   have hz:s.cut ((zau N).getD (k:Int).toNat St.zero)=St.zero:=Classical.byContradiction fun h=>by
    obtain⟨v,h1,h2⟩:=zze hs h;exact hd k (by simp) v ⟨h1,h2⟩
   rw[if_pos hz];rw[List.pairwise_cons]at hp
   refine zv1 ins _ (St.union_ok hs ?_) hp.2 fun j hj v⟨h1,h2⟩=>?_
   ·rw[List.getD_eq_getElem?_getD]
    cases h:(zau N)[(k:Int).toNat]? with
    |none=>exact St.zero_ok
    |some x=>exact zfe N x (List.mem_of_getElem? h)
   rw[St.mem_union,Bool.or_eq_true]at h1
   rcases h1 with h1|h1
   ·exact hd j (by simp[hj]) v ⟨h1,h2⟩
   exact hp.1 j hj v ⟨h1,h2⟩
theorem zrt{ins:List Nat}(hp:ins.Pairwise fun(i j:Nat)=>∀v,¬(BV N i v/\BV N j v)):sepF (zau N) St.zero (zaf ins)=true:=zv1 ins _ St.zero_ok hp fun j _ v h=>by
 rw[St.mem_zero]at h;simp at h
def hasL(N:List Nd)(i:Int)(x:Int):Prop:=nd N i=⟨2,x,[]⟩\/((nd N i).kind=3/\∃k∈(nd N i).ins,nd N k=⟨2,x,[]⟩)
theorem Side.has(hN:Nod st N){l:List Cl}{x:Int}{i:Nat}(h:Side st l x i):hasL N i x:=by
 rcases h with⟨a,c,hc,e⟩|⟨a,c,k,ins,d,e,f,⟨c',hc,e'⟩,h1,h2,h3⟩
 ·exact .inl (by rw[(hN i c hc).2.1,e])
 refine .inr ⟨by rw[(hN i c d).2.1,e],k,?_,by rw[(hN k c' hc).2.1,e']⟩;rw[(hN i c d).2.1,e];exact zjj.2 ⟨k,by simp,rfl⟩
structure OrN(ch:List Cl->Int)(n:Nat)(N:List Nd)(i:Int)(l:List Cl)(a b:Nat):Prop where
 gl:gL n l
 ne:l≠[]
 two:∀c∈l,2<=c.length
 ins:(nd N i).ins=[(a:Int),(b:Int)]
 lo:1<=ch l
 hi:ch l<=n
 la:a<i
 lb:b<i
 ha:hasL N a (-ch l)
 hb:hasL N b (ch l)
 bv:BV N i (ch l)
 vs:∀v,BV N i v->(zae l).mem v=true
theorem ybd(hn:n<=128)(hi:Inv ch n st)(hN:Nod st N){i:Nat}{c:Nc}(hc:st[i]?=some c)(h4:c.nd.kind=4):∃l a b,OrN ch n N i l a b:=by
 have hb:=zo0 hn hi hN;have hf:=hi i c hc;have hbi:=(hb i c hc).2.2 h4
 have hq:=fun v=>hN.eq (v:=v) hc
 have hnd:=(hN i c hc).2.1
 cases hf with
 |lit=>simp at h4
 |bad=>simp at h4
 |and=>simp at h4
 |@dec l t a b g1 g2 g3 g4 g5 g6 g7 g8 s1 s2=>
   have hv0:zac (ch l)=ch l:=by rw[zam (by omega) (by omega) (by omega),if_neg (by omega)]
   have b2:=(s2.bel hn hN g1.gc (by rw[hv0];omega) (by rw[hv0];exact g6) fun j hj=>hb j).2;rw[hv0]at b2;exact⟨l,a,b,g1,g2,g3,by rw[hnd],g4,g5,by omega,by omega,s1.has hN,s2.has hN,(hq _).2 (.inr ⟨b,by simp,b2⟩),hbi l t rfl⟩
theorem zx2(hn:n<=128)(hi:Inv ch n st)(hN:Nod st N){i:Nat}{c:Nc}(hc:st[i]?=some c):zst (zau N) c.nd=true:=by
 have hb:=zo0 hn hi hN;have hf:=hi i c hc;unfold zst
 cases hf with
 |lit=>simp
 |bad=>simp
 |dec=>simp
 |@and l x k ins a b g hk c' hf=>
   have hx:zac x≠0:=by
    obtain⟨d,hd,e⟩:=hk;have hf':=hi k d hd
    have:litN n x:=by
     cases hf' with
     |lit a b=>simp at e;subst e;exact a
     |bad=>simp at e
     |dec=>simp at e
     |and=>simp at e
    exact(this.ok hn).1
   rw[zrt (hN.and hn g.gc hx hk hf fun j _=>hb j).1];simp
end
section
variable{ch:List Cl->Int}{n:Nat}{t:List Cl}{cache:Bool}
theorem Inv.ins{st:List Nc}(hn:n<=128)(h:Inv ch n st){i:Nat}{c:Nc}(hc:st[i]?=some c):zeg c.nd.ins i=true:=by
 have:=(h i c hc).ok hn;unfold ndOk at this;simp only[Bool.and_eq_true]at this;exact this.1
theorem zqy(hn:n<=128)(hch:Chooses ch n)(ht:tOk n t)(h0:zaa n t≠[]):Nod (zak ch cache (zaa n t)).1 (nds (zad ch cache n t)):=by
 have hC:=core hn hch ht cache;intro i c hc;have hl:=zb3 hc
 cases hr:zcl (zak ch cache (zaa n t)) (zaa n t)with
 |true=>
   rw[zft h0 hr];exact⟨by simp[zat];omega,by rw[zn9 (by omega) (by rw[zat];omega),zc0 hc],hC.inv.inv.ins hn hc⟩
 |false=>
   rw[zfu h0 hr];exact⟨by rw[zat];exact hl,zc0 hc,hC.inv.inv.ins hn hc⟩
theorem zw2(hn:n<=128)(hch:Chooses ch n)(ht:tOk n t):decL (nds (zad ch cache n t))=true:=by
 by_cases h0:zaa n t=[]
 ·rw[za9 h0];rfl
 have hC:=core hn hch ht cache;have hN:=zqy (cache:=cache) hn hch ht h0;have hg:=za2 hn ht.rg
 refine zud fun j hj=>?_
 by_cases hl:j<(zak ch cache (zaa n t)).1.length
 ·have hc:(zak ch cache (zaa n t)).1[j]?=some (zak ch cache (zaa n t)).1[j]:=List.getElem?_eq_getElem hl;have:=zx2 hn hC.inv.inv hN hc;rw[<-(hN j _ hc).2.1]at this;exact this
 cases hr:zcl (zak ch cache (zaa n t)) (zaa n t)with
 |false=>rw[zfu h0 hr,zat]at hj;exact absurd hj hl
 |true=>
   have hs:=zrt (hC.fit.sep hn hg.gc fun j _=>zo0 hn hC.inv.inv hN j).1;rw[zft h0 hr]at hj hs⊢
   have e:j=(nds (zak ch cache (zaa n t)).1).length:=by simp[zat]at hj⊢;omega
   subst e;rw[List.getD_eq_getElem?_getD,List.getElem?_append_right (Nat.le_refl _)];simp only[Nat.sub_self,List.getElem?_cons_zero,Option.getD_some];unfold zst;rw[hs];simp
theorem yak(hn:n<=128)(hch:Chooses ch n)(ht:tOk n t){i:Nat}(hi:i<(nds (zad ch cache n t)).length)(hk:(nd (nds (zad ch cache n t)) i).kind=4):∃l a b,OrN ch n (nds (zad ch cache n t)) i l a b:=by
 by_cases h0:zaa n t=[]
 ·rw[za9 h0]at hi hk
  have:i=0:=by simpa[nds]using hi
  subst this
  simp[nd,nds]at hk
 have hC:=core hn hch ht cache;have hN:=zqy (cache:=cache) hn hch ht h0
 by_cases hl:i<(zak ch cache (zaa n t)).1.length
 ·have hc:(zak ch cache (zaa n t)).1[i]?=some (zak ch cache (zaa n t)).1[i]:=List.getElem?_eq_getElem hl;refine ybd hn hC.inv.inv hN hc ?_;rw[<-(hN i _ hc).2.1];exact hk
 exfalso
 cases hr:zcl (zak ch cache (zaa n t)) (zaa n t)with
 |false=>rw[zfu h0 hr,zat]at hi;exact hl hi
 |true=>
   rw[zft h0 hr]at hi hk
   have e:i=(nds (zak ch cache (zaa n t)).1).length:=by simp[zat]at hi⊢;omega
   subst e;unfold nd at hk;rw[List.getD_eq_getElem?_getD,Int.toNat_natCast,List.getElem?_append_right (Nat.le_refl _)]at hk;simp at hk
end
end Cen
namespace Go.Proofs.YtnlaakmglhjjmaaGreatDoor
open Go.RowKit Cen
theorem zzn{s:Int->Bool}{N:List Nd}{n:Int}(hL:zds N n N.length){i x:Int}(h0:0<=i)(h1:i<N.length)(h:hasL N i x)(ht:T s N i=true):zcj s x=true:=by
 rcases h with h|⟨h3,k,hk,hkl⟩
 ·rw[zz7 hL h0 h1 (by rw[h]),h]at ht;exact ht
 have hin:=zd9 (zoa hL h0 h1) k hk;rw[T_nd s hL h0 h1]at ht;unfold evNd at ht;rw[if_neg (by omega),if_neg (by omega),if_pos h3,List.all_eq_true]at ht;have:=ht k hk;rw[zz7 hL hin.1 (by omega) (by rw[hkl]),hkl]at this;exact this
theorem zw3{ch:List Cl->Int}{cache:Bool}{n:Nat}{t:List Cl}(hn:n<=128)(hch:Chooses ch n)(ht:tOk n t):detL (nds (zad ch cache n t)):=by
 intro s i hi hk;have hL:=zqw (cache:=cache) hn hch ht;obtain⟨l,a,b,h⟩:=yak (cache:=cache) hn hch ht hi hk;rw[h.ins];refine List.pairwise_cons.2 ⟨fun k hkm=>?_,List.pairwise_singleton _ _⟩;simp at hkm;subst hkm;rintro⟨h1,h2⟩;have la:=h.la;have lb:=h.lb;have lo:=h.lo;have hi2:=h.hi;have e1:=zzn hL (by omega) (by omega) h.ha h1;have e2:=zzn hL (by omega) (by omega) h.hb h2;rw[zf8 (by unfold zac;rw[if_pos (by omega)];omega),e2]at e1;simp at e1
theorem zr7{n:Nat}{t:List Cl}(hg:Gdt n t [])(h8:n<=8)(l:List Pr)(hok:∀p∈l,p.ok)(hin:∀p∈l,∀v,p.v.mem v=true->v<=n)(z:Int->Bool):
 zfl n (nds (zad (chF [] false n) false n t)) l=some (cnt (fun x=>evL x t&&satP n l x) n z):=by
 have hch:Chooses (chF [] false n) n:=zfm (by omega);have htk:=hg.tok
 have hlen:(zad (chF [] false n) false n t).length<=65536:=by
  have h1:=(zh8 (cache:=false) (show n<=128 by omega) hch htk).1
  have h2:card (zae (zaa n t))<=n:=zj8 (by omega) fun c hc x hx=>(((za2 (by omega) htk.rg).gc) c hc).rg x hx
  have h3:=zlv (Nat.le_trans h2 h8)
  have h4:FB 8=1021:=by decide
  omega
 have hnet:=zqx (cache:=false) (show n<=128 by omega) hch htk hlen;rw[zwv (z:=z) h8 hnet (zw2 (by omega) hch htk) (zw3 (by omega) hch htk) l hok hin]
 congr 1
 exact zag n z fun x _=>by rw[yaj (by omega) hch htk]
theorem zvu(bs:List Nat)(n m:Nat):∀p∈zbr bs n m,p.ok:=by
 intro p hp;obtain⟨i,_,rfl⟩:=List.mem_map.1 hp;exact zfw _ _
theorem zvt{bs:List Nat}{n m:Nat}(hn:n<=128):∀p∈zbr bs n m,∀v,p.v.mem v=true->v<=n:=by
 intro p hp v hv;obtain⟨i,_,rfl⟩:=List.mem_map.1 hp;have hv2:(setB (fun v=>bitN bs (i*(n+1)+(v-1))) n).mem v=true:=hv;rw[zig _ _ _ hn]at hv2;simp only[Bool.and_eq_true,decide_eq_true_eq]at hv2;exact hv2.2.1
theorem zyc{n:Nat}{p:Pr}(hp:p.ok):outP n p=false↔∀v,p.v.mem v=true->v<=n:=by
 unfold outP;rw[Bool.not_eq_false',decide_eq_true_eq]
 constructor
 ·intro h v hv;have hr:=zg8 hv
  have:(St.minus p.v (zbq n)).mem v=false:=by rw[h,St.mem_zero]
  rw[St.mem_minus (zdo _),hv,zdc,decide_eq_true hr.1,decide_eq_true hr.2]at this
  simpa using this
 intro h
 refine St.ext (St.minus_ok hp) St.zero_ok fun v h1 h2=>?_
 rw[St.mem_minus (zdo _),St.mem_zero,zdc,decide_eq_true h1,decide_eq_true h2]
 cases hv:p.v.mem v
 ·rfl
 rw[decide_eq_true (h v hv)];rfl
theorem zvs{n:Nat}{l:List Pr}(hok:∀p∈l,p.ok)(h:∀p∈l,∀v,p.v.mem v=true->v<=n):l.any (outP n)=false:=by
 rw[List.any_eq_false];intro p hp;rw[(zyc (hok p hp)).2 (h p hp)];simp
def InP(n:Nat)(l:List Pr):Prop:=∀p∈l,p.ok/\∀v,p.v.mem v=true->v<=n
def cellT(n:Nat)(t:List Cl)(l:List Pr):Nat:=cellN n (fun x=>evL x t) l
theorem cellT_any{n:Nat}{t:List Cl}(hg:Gdt n t [])(h8:n<=8)(ta:Option Addr)(tc:Nat)(la:Option Addr)(lc:Nat)(l:List Pr)(w:World)(hx:LsCells w ta t)(hl:l.length<=16)(hp:PrCells w la l)(hin:InP n l)(htab:Tab w)(hdt:Dtab w):
 Calls Tryz.prog 12 #[.agg #[.int .i64 (n:Int),.slice ta t.length tc],.slice la l.length lc] w (zls (cellT n t l) 0 w):=
 zqs n ta tc t la lc l (cellT n t l) w hg hx hl hp (fun p h=>(hin p h).1) (zvs (fun p h=>(hin p h).1) fun p h=>(hin p h).2) (zr7 hg h8 l (fun p h=>(hin p h).1) (fun p h=>(hin p h).2) _) htab hdt
def natc(x:Nat):List Value:=[.string (natB x)]
theorem zmo(x:Nat):(natc x).length=1:=rfl
theorem yau:Elem 110 36 1 16 (natv 0):=.mk Tryz.underlying110 (by kernel_rfl) rfl (by decide)
abbrev zby(w:World)(base:Nat)(v:Value)(l:List Nat):Prop:=OwnL natc 36 1 w base v l
def cmp3(x y:Nat):Int:=if x=y then 0 else if x<y then-1 else 1
theorem zt4{x y:Nat}:cmp3 x y<0↔x<y:=by unfold cmp3;(repeat' split)<;>omega
def leN(x y:Nat):Prop:=x<=y
theorem zya:Ord leN:=⟨fun x y=>by unfold leN;omega,fun x y z h1 h2=>by unfold leN at*;omega⟩
theorem OwnN.c0{w:World}{base g cap n:Nat}{l:List Nat}(h:zby w base (.slice (some ⟨g,0,none⟩) n cap) l)(hn:n=l.length){i:Nat}(hi:i<l.length):w.cell? ⟨g,i,none⟩=some (.string (natB (gd l i))):=by
 have:=h.cell hn zmo i 0 hi (by omega);rw[zar hi];simpa[natc]using this
theorem OwnN.swp{w:World}{base g cap n:Nat}{l:List Nat}(h:zby w base (.slice (some ⟨g,0,none⟩) n cap) l)(hn:n=l.length){i j:Nat}(hi:i<l.length)(hj:j<l.length):
 zby ((w.setCell ⟨g,i,none⟩ (.string (natB (gd l j)))).setCell ⟨g,j,none⟩ (.string (natB (gd l i)))) base (.slice (some ⟨g,0,none⟩) n cap) (swp l i j):=by
 have h1:=h.put1 hn zmo i hi (gd l j) _ rfl;exact h1.put1 (by simpa using hn) zmo j (by simpa using hj) (gd l i) _ rfl
theorem zl3:∀(args:Array Value)(w:World),(callFunc 52 args).run Tryz.prog w=.ok (.enter 52 args) w:=fun _ _=>by kernel_rfl
abbrev FNN:Value:=.func (.func 52) #[] #[]
def bN(l:List Nat):Prop:=∀x∈l,x<=16777216
theorem bN.gd{l:List Nat}(h:bN l){i:Nat}(hi:i<l.length):gd l i<=16777216:=by rw[zar hi];exact h _ (List.getElem_mem hi)
theorem zx0(x y:Nat)(hx:x<=16777216)(w:World):Calls Tryz.prog 52 #[.agg #[.string (natB x)],.agg #[.string (natB y)]] w fun e w'=>e=.returned (.int .i64 (cmp3 x y))/\Below w.heap.size w w':=zt6 x y hx w
def zh6(g cap base:Nat)(l:List Nat)(w:World)(e:Ending)(w':World):Prop:=
 ∃l':List Nat,l'.Perm l/\Sd leN l' 0 l.length/\e=.returned (.tuple #[])/\zby w' base (.slice (some ⟨g,0,none⟩) l.length cap) l'/\Kp (fun y=>y=g) w w'
theorem zxm(g cap base:Nat)(l:List Nat)(w:World)(ho:zby w base (.slice (some ⟨g,0,none⟩) l.length cap) l)(hc:bN l)(hm:l.length<=1073741824):
 Calls Tryz.prog 113 #[.slice (some ⟨g,0,none⟩) l.length cap,.int .i64 0,.int .i64 (l.length:Int),FNN] w (zh6 g cap base l w):=by
 have HO:=lh ho;have HC:=lh hc;have hcf:=zl3;clear ho hc;go_enter Tryz.func113,Tryz.ntmps113;go_wp2
 go_loopw[8](fun i wr=>∃k:Nat,1<=k/\(k<=l.length\/k=1)/\i=.int .i64 k/\∃cur,zby wr base (.slice (some ⟨g,0,none⟩) l.length cap) cur/\cur.Perm l/\Sd leN cur 0 k/\Kp (fun y=>y=g) w wr)(fun i _=>l.length-(intOf i).toNat)
 case atStart=>exact⟨1,Nat.le_refl _,.inr rfl,rfl,l,HO.o,List.Perm.refl _,fun i j h1 h2 h3=>by omega,Kp.refl _ _⟩
 obtain⟨wo,rfl⟩:∃wo:World,wo=wr:=⟨_,rfl⟩
 obtain⟨k,hk1,hk2,rfl,cur,hown,hperm,hsd,hkp⟩:=hrel;have hlen:cur.length=l.length:=hperm.length_eq;have HOW:=lh hown;have HPR:=lh hperm;have HSD:=lh hsd;have HKO:=lh hkp
 have HLB:Hid (bN cur):=fun x hx=>HC.o x (hperm.mem_iff.1 hx)
 clear hown hperm hsd hkp
 by_cases hlt:k<l.length
 ·go_wp2_with fail
  go_loopw[9](fun j wr=>∃p:Nat,p<=k/\j=.int .i64 p/\(∀t,p<=t->t<k->leN (gd cur k) (gd cur t))/\∃m,zby wr base (.slice (some ⟨g,0,none⟩) l.length cap) m/\m.Perm cur/\Ins cur m k p/\Kp (fun y=>y=g) wo wr)(fun j _=>(intOf j).toNat)
  case atStart=>exact⟨k,Nat.le_refl _,rfl,fun t h1 h2=>by omega,cur,HOW.o,List.Perm.refl _,Ins.start _ _,Kp.refl _ _⟩
  obtain⟨wi,rfl⟩:∃wi:World,wi=wr:=⟨_,rfl⟩
  obtain⟨p,hp2,rfl,hle,m,hown,hperm,hins,hkp⟩:=hrel;have HLE:=lh hle;have HOI:=lh hown;have HPE:=lh hperm;have HIN:=lh hins;have HKP:=lh hkp;have hml:m.length=l.length:=hperm.length_eq.trans hlen;have HML:Hid (l.length=m.length):=hml.symm;clear hle hperm hins hkp
  have HEND:Hid (p=0\/leN (gd cur (p-1)) (gd cur k)->∀V:World,zby V base (.slice (some ⟨g,0,none⟩) l.length cap) m->Kp (fun y=>y=g) wi V->(zby V base (.slice (some ⟨g,0,none⟩) l.length cap) m/\m.Perm l/\Sd leN m 0 (k+1)/\Kp (fun y=>y=g) w V)):=fun h V hV hkV=>
   ⟨hV,HPE.o.trans HPR.o,HIN.o.sorted zya HSD.o (Nat.zero_le _) hp2 h HLE.o,Kp.trans (M:=fun y=>y=g) HKO.o (Kp.trans (M:=fun y=>y=g) HKP.o hkV)⟩
  by_cases hpa:0<p
  ·have hpl:p<m.length:=by omega
   have hpl2:p-1<m.length:=by omega
   have epk:gd m p=gd cur k:=by rw[HIN.o.2 p];congr 1;unfold insI;(repeat' split)<;>omega
   have epj:gd m (p-1)=gd cur (p-1):=by rw[HIN.o.2 (p-1)];congr 1;unfold insI;(repeat' split)<;>omega
   have a0:=OwnN.c0 hown HML.o hpl;have b0:=OwnN.c0 hown HML.o hpl2;have f1:=hown.fr HML.o p;have f2:=hown.fr HML.o (p-1);have gl:=hown.lt.1;have HOS:=lh (fun(V:World)(h:zby V base (.slice (some ⟨g,0,none⟩) l.length cap) m)=>OwnN.swp h HML.o hpl hpl2);rw[epk,epj]at HOS;rw[epk]at a0;rw[epj]at b0
   have hlk:k<cur.length:=by omega
   have hlp:p-1<cur.length:=by omega
   have x1:=HLB.o.gd hlk;have y1:=HLB.o.gd hlp;have HCA:=lh (fun V=>zx0 (gd cur k) (gd cur (p-1)) x1 V)
   have e1:IntKind.i64.wrap ((p:Int)-1)=((p-1:Nat):Int):=by rw[IntWalk.i64_in _ (by omega)];omega
   have E1:=lh e1
   have hpi:((p-1:Nat):Int)<(l.length:Int):=by omega
   have hpi2:(p:Int)<(l.length:Int):=by omega
   have hpi3:p-1<l.length:=by omega
   have hpi4:p<l.length:=by omega
   have hgd:decide ((0:Int)<(p:Int))=true:=by simp;omega
   have hgd2:decide (0<p)=true:=by simp;omega
   have HST:Hid (cmp3 (gd cur k) (gd cur (p-1))<0->∀t,p-1<=t->t<k->leN (gd cur k) (gd cur t)):=fun h t h1 h2=>by
    by_cases c:p<=t
    ·exact HLE.o t c h2
    rw[show t=p-1 by omega];rw[zt4]at h;exact Nat.le_of_lt h
   have HNO:Hid (¬cmp3 (gd cur k) (gd cur (p-1))<0->leN (gd cur (p-1)) (gd cur k)):=fun h=>by rw[zt4]at h;unfold leN;omega
   clear hown epk epj e1 x1 y1;generalize hcv:cmp3 (gd cur k) (gd cur (p-1))=cv at*;generalize hx:natB (gd cur k)=x at*;generalize hy:natB (gd cur (p-1))=y at*;clear hx hy hcv
   have HKS:Hid (∀w':World,Below wi.heap.size wi w'->w'.cell? ⟨g,p,none⟩=some (.string x)/\w'.cell? ⟨g,p-1,none⟩=some (.string y)):=lh fun w' h=>⟨zab h a0,zab h b0⟩
   by_cases hneg:cv<0
   ·have hd1:decide (cv<0)=true:=by simpa using hneg
    have HS2:=lh (HST.o hneg);clear hneg;go_wp2_with fail;have e1:=E1.o
    go_region_held3(fun w'=>w'.cell? ⟨g,p,none⟩=some (.string x)/\w'.cell? ⟨g,p-1,none⟩=some (.string y))
     (first
       |exact HKS.o _ (Below.refl _ _).drew
       |exact HKS.o _ hv5)
     (first
       | (go_at_call 52
          refine Calls.mono (HCA.o _) ?_;rintro e v5⟨rfl,hw⟩;have hv5:Below wi.heap.size wi v5:=(Below.refl wi.heap.size wi).drew.trans (Below.mono hw (Nat.le_refl _))
          clear hw))
    all_goals
     go_wp2_with fail;obtain⟨z0,z1⟩:=HKS.o v5 hv5;have HO5:=lh (HOI.o.later hv5);have h1:=HO5.o.fr HML.o p;have h2:=HO5.o.fr HML.o (p-1);have gl5:=HO5.o.lt.1
     have HKK:Hid (∀c d,Kp (fun y=>y=g) wo ((v5.setCell ⟨g,p,none⟩ c).setCell ⟨g,p-1,none⟩ d)):=fun c d=>by
      have M:=Kp.setCell (M:=fun y=>y=g);exact Kp.trans (M:=fun y=>y=g) (Kp.trans (M:=fun y=>y=g) (Kp.trans (M:=fun y=>y=g) HKP.o (Kp.below hv5)) (M _ _ _ rfl)) (M _ _ _ rfl)
     have HOS2:=lh (HOS.o v5 HO5.o);clear a0 b0 f1 f2 hv5;go_region
     all_goals
      clear e1;go_wp2;go_roundw
      case rel=>exact⟨p-1,by omega,ival (by omega),HS2.o,swp m p (p-1),HOS2.o.later (Below.refl _ _).drew,(zgp hpl hpl2).trans HPE.o,HIN.o.step (by omega) hp2 (by omega),Kp.trans (M:=fun y=>y=g) (HKK.o _ _) (Kp.below (Below.refl _ _).drew)⟩
      case measure=>simp[intOf];omega
   have hd1:decide (cv<0)=false:=by simpa using hneg
   have HS2:=lh (HNO.o hneg);clear hneg;go_wp2_with fail;have e1:=E1.o
   go_region_held3(fun w'=>w'.cell? ⟨g,p,none⟩=some (.string x)/\w'.cell? ⟨g,p-1,none⟩=some (.string y))
    (first
      |exact HKS.o _ (Below.refl _ _).drew
      |exact HKS.o _ hv5)
    (first
      | (go_at_call 52
         refine Calls.mono (HCA.o _) ?_;rintro e v5⟨rfl,hw⟩;have hv5:Below wi.heap.size wi v5:=(Below.refl wi.heap.size wi).drew.trans (Below.mono hw (Nat.le_refl _))
         clear hw))
   all_goals
    have HE5:=lh (fun V h1 h2=>HEND.o (.inr HS2.o) V h1 h2);clear e1 a0 b0;go_wp2;go_roundw
    case rel=>exact⟨k+1,by omega,.inl (by omega),ival (by omega),m,HE5.o _ (HOI.o.later hv5) (Kp.below hv5)⟩
    case measure=>simp[intOf];omega
  have hpe:p=0:=by omega
  have hgd:decide ((0:Int)<(p:Int))=false:=by simp;omega
  have hgd2:decide (0<p)=false:=by simp;omega
  have HE5:=lh (fun V h1 h2=>HEND.o (.inl hpe) V h1 h2);clear hown hpe hpa;go_wp2_with fail
  go_quiet(fail)
  all_goals
   go_wp2;go_roundw
   case rel=>exact⟨k+1,by omega,.inl (by omega),ival (by omega),m,HE5.o _ (HOI.o.later (zal _ _)) (Kp.below (zal _ _))⟩
   case measure=>simp[intOf];omega
 have HE:Hid (Sd leN cur 0 l.length):=fun i j h1 h2 h3=>HSD.o i j h1 h2 (by omega)
 go_wp2
 go_end0
 exact⟨cur,HPR.o,HE.o,rfl,HOW.o,HKO.o⟩
theorem zyf(g cap base:Nat)(d:Int)(l:List Nat)(w:World)(ho:zby w base (.slice (some ⟨g,0,none⟩) l.length cap) l)(hc:bN l)(hm:l.length<=12):
 Calls Tryz.prog 90 #[.slice (some ⟨g,0,none⟩) l.length cap,.int .i64 0,.int .i64 (l.length:Int),.int .i64 d,FNN] w (zh6 g cap base l w):=by
 have HS:=lh (zxm g cap base l w ho hc (by omega));clear ho hc
 have hd:decide ((l.length:Int)<=12)=true:=by simp;omega
 have hd2:decide (l.length<=12)=true:=by simp;omega
 go_enter Tryz.func90,Tryz.ntmps90;go_wp2;refine wp_loop_rounds 1 ?_;rw[rounds_succ];go_wp2_with fail;refine HS.o.mono ?_;rintro e w1⟨l',h1,h2,rfl,h3,h4⟩;have H:=lh (And.intro h1 (And.intro h2 (And.intro h3 h4)));clear h1 h2 h3 h4;go_wp2;exact bodyPost_ret (v:=.tuple #[]) (by simp[results,Tryz.results90,go_sem]) rfl ⟨l',H.o.1,H.o.2.1,rfl,H.o.2.2.1,H.o.2.2.2⟩
theorem zm1(g cap base:Nat)(l:List Nat)(w:World)(ho:zby w base (.slice (some ⟨g,0,none⟩) l.length cap) l)(hc:bN l)(hm:l.length<=12):
 Calls Tryz.prog 51 #[.slice (some ⟨g,0,none⟩) l.length cap,FNN] w (zh6 g cap base l w):=by
 have HS:=lh (fun d=>zyf g cap base d l w ho hc hm);clear ho hc;go_enter Tryz.func51,Tryz.ntmps51;go_wp2_with fail;refine(Tryz.bits_Len l.length w (by omega) (by omega)).mono ?_;rintro e w1⟨rfl,rfl⟩;go_wp2_with fail;refine(HS.o _).mono ?_;rintro e w1⟨l',h1,h2,rfl,h3,h4⟩;have H:=lh (And.intro h1 (And.intro h2 (And.intro h3 h4)));clear h1 h2 h3 h4;go_wp2
 go_end0
 exact⟨l',H.o.1,H.o.2.1,rfl,H.o.2.2.1,H.o.2.2.2⟩
def SdCells(w:World)(a:Option Addr)(S:List (List Nat)):Prop:=∀i,i<S.length->∃b off sa sc,a=some ⟨b,off,none⟩/\w.cell? ⟨b,off+i,none⟩=some (.slice sa (S.getD i []).length sc)/\U8Cells w sa (S.getD i [])
theorem SdCells.keep{w w':World}{a:Option Addr}{S:List (List Nat)}(h:SdCells w a S)(hb:Below w.heap.size w w'):SdCells w' a S:=fun i hi=>
 let⟨b,off,sa,sc,e,h0,h1⟩:=h i hi;⟨b,off,sa,sc,e,zab hb h0,h1.keep hb⟩
theorem SdCells.nil(w:World)(a:Option Addr):SdCells w a []:=fun _ h=>absurd h (Nat.not_lt_zero _)
def R45(q:ByteArray)(c:Int)(w:World)(e:Ending)(w':World):Prop:=e=.returned (.tuple #[.string q,.int .i64 c])/\Below w.heap.size w w'
def zy6(l:List Nat)(w:World)(e:Ending)(w':World):Prop:=∃l':List Nat,l'.Perm l/\Sd leN l' 0 l.length/\e=.returned (.tuple #[.agg #[.string (natB (gd l' ((l.length-1)/2)))],.int .i64 0])/\Below w.heap.size w w'
def MePost(n:Nat)(ok:Nat->Bool)(l:List Nat)(w:World)(e:Ending)(w':World):Prop:=(∃k,k<n/\ok k=false/\zls 0 1 w e w')\/((∀k,k<n->ok k=true)/\zy6 l w e w')
def okE(b:Bool):Int:=if b then 0 else 1
end Go.Proofs.YtnlaakmglhjjmaaGreatDoor
