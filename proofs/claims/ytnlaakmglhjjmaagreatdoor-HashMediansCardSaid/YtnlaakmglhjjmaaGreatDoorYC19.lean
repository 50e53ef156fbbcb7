/- Parts of the proofs of laws. Texts: CqU, CqV, CqW. -/
import Derived.Test.YtnlaakmglhjjmaaGreatDoorYC18
set_option maxHeartbeats 8000000
set_option maxRecDepth 100000
set_option linter.all false
namespace Cen
def usedBy(st:List Nc)(i:Nat)(k:Int):Prop:=∃c∈st,(i:Int)∈c.nd.ins/\c.nd.kind=k
def UsdC(st:List Nc)(i:Nat)(c:Nc):Prop:=c.nd.kind=2\/(c.nd.kind=3/\usedBy st i 4)\/usedBy st i 3
theorem usedBy.more{st r:List Nc}{i:Nat}{k:Int}(h:usedBy st i k):usedBy (st++r) i k:=
 let⟨c,h1,h2⟩:=h;⟨c,List.mem_append_left _ h1,h2⟩
theorem UsdC.more{st r:List Nc}{i:Nat}{c:Nc}(h:UsdC st i c):UsdC (st++r) i c:=by
 rcases h with h|⟨h1,h2⟩|h
 ·exact .inl h
 ·exact .inr (.inl ⟨h1,h2.more⟩)
 exact .inr (.inr h.more)
def NewU(st st':List Nc)(P:Nat->Nc->Prop):Prop:=∃r,st'=st++r/\∀i c,st.length<=i->(st++r)[i]?=some c->UsdC (st++r) i c\/P i c
theorem NewU.refl(st:List Nc)(P:Nat->Nc->Prop):NewU st st P:=⟨[],by simp,fun i c h1 h2=>by
 have:=zb3 h2;simp at this;omega⟩
theorem NewU.mono{st st':List Nc}{P Q:Nat->Nc->Prop}(h:NewU st st' P)(hP:∀i c,P i c->Q i c):NewU st st' Q:=
 let⟨r,h1,h2⟩:=h;⟨r,h1,fun i c a b=>(h2 i c a b).imp id (hP i c)⟩
theorem NewU.trans{st st1 st2:List Nc}{P Q R:Nat->Nc->Prop}(h:NewU st st1 P)(k:NewU st1 st2 Q)(hP:∀i c,P i c->R i c)(hQ:∀i c,Q i c->R i c):NewU st st2 R:=by
 obtain⟨r,rfl,h2⟩:=h;obtain⟨q,rfl,k2⟩:=k;refine⟨r++q,by simp,fun i c hi hc=>?_⟩;rw[<-List.append_assoc]at hc⊢
 rcases Nat.lt_or_ge i (st++r).length with hj|hj
 ·rw[List.getElem?_append_left hj]at hc;exact(h2 i c hi hc).imp (fun u=>u.more) (hP i c)
 exact(k2 i c hj hc).imp id (hQ i c)
theorem NewU.snoc{st st1:List Nc}{P R:Nat->Nc->Prop}(h:NewU st st1 P)(c:Nc)(hP:∀i d,P i d->UsdC (st1++[c]) i d)(hc:R st1.length c):NewU st (st1++[c]) R:=by
 obtain⟨r,rfl,h2⟩:=h;refine⟨r++[c],by simp,fun i d hi hd=>?_⟩;rw[<-List.append_assoc]at hd⊢
 rcases Nat.lt_or_ge i (st++r).length with hj|hj
 ·rw[List.getElem?_append_left hj]at hd
  rcases h2 i d hi hd with u|u
  ·exact .inl u.more
  exact .inl (hP i d u)
 have e:i=(st++r).length:=by have:=zb3 hd;simp at this;simp at hj;simp;omega
 subst e;rw[List.getElem?_append_right (Nat.le_refl _)]at hd;simp at hd;subst hd;exact .inr hc
theorem zjh(st:List Nc)(x:Int)(P:Nat->Nc->Prop):NewU st (litF st x).1 P:=by
 unfold litF
 split
 ·exact NewU.refl _ _
 refine⟨[⟨⟨2,x,[]⟩,none⟩],rfl,fun i c hi hc=>.inl (.inl ?_)⟩
 have e:i=st.length:=by have:=zb3 hc;simp at this;omega
 subst e;simp at hc;subst hc;rfl
theorem zhp(cache:Bool)(st:List Nc)(l:List Cl)(term:Cl)(mk:List Nc->List Nc×Nd)
 (hm:NewU st (mk st).1 fun i c=>c.nd.kind=3/\(mk st).2.kind=4/\(i:Int)∈(mk st).2.ins)(hk:(mk st).2.kind≠3):
 NewU st (zan cache st l term mk).1 fun i c=>i=(zan cache st l term mk).2/\c.nd.kind≠3:=by
 unfold zan
 split
 ·exact NewU.refl _ _
 exact hm.snoc _ (fun i d hd=>.inr (.inl ⟨hd.1,⟨⟨(mk st).2,some (l,term)⟩,by simp,hd.2.2,hd.2.1⟩⟩)) ⟨rfl,hk⟩
theorem zj7:∀(f:Nat)(u:Us)(P:Nat->Nc->Prop),NewU u.st (zaq f u).st P
 |0,u,P=>NewU.refl _ _
 |f+1,⟨st,l,term,ins⟩,P=>by
   match l with
   |[x]::l=>exact(zjh st x P).trans (zj7 f ⟨(litF st x).1,zah ([x]::l) x,term++[x],ins++[(litF st x).2]⟩ P) (fun _ _ h=>h) fun _ _ h=>h
   |[]=>exact NewU.refl _ _
   |[]::l=>exact NewU.refl _ _
   |(x::y::c)::l=>exact NewU.refl _ _
section
variable{fit:List Nc->List Cl->Cl->List Nc×List Nat}(hf:∀st l term,NewU st (fit st l term).1 fun i c=>i∈(fit st l term).2/\c.nd.kind≠3)
include hf
theorem zll(st:List Nc)(l:List Cl)(term:Cl)(x:Int):NewU st (zc2 fit st l term x).1 fun i c=>i=(zc2 fit st l term x).2/\c.nd.kind=3:=by
 unfold zc2
 split
 ·exact zjh st x _
 refine((zjh st x (fun _ _=>False)).trans (hf (litF st x).1 (zah l x) (term++[x])) (fun _ _ h=>h.elim) fun _ _ h=>h).snoc ⟨⟨3,0,((litF st x).2:Int)::(fit (litF st x).1 (zah l x) (term++[x])).2.map fun(i:Nat)=>(i:Int)⟩,none⟩ (fun i d hd=>.inr (.inr ⟨_,List.mem_append_right _ (List.mem_singleton.2 rfl),?_,rfl⟩)) ⟨rfl,rfl⟩;simp only[List.mem_cons,List.mem_map];exact .inr ⟨i,hd.1,rfl⟩
theorem znr(ch:List Cl->Int)(st:List Nc)(l:List Cl)(term:Cl):NewU st (zav fit ch st l term).1 fun i c=>c.nd.kind=3/\(zav fit ch st l term).2.kind=4/\(i:Int)∈(zav fit ch st l term).2.ins:=by
 refine(zll hf st l term (-ch l)).trans (zll hf (zc2 fit st l term (-ch l)).1 l term (ch l)) (fun i c h=>?_) fun i c h=>?_
 ·exact⟨h.2,rfl,by rw[h.1];simp[zav]⟩
 exact⟨h.2,rfl,by rw[h.1];simp[zav]⟩
end
theorem zjt(cache:Bool)(dec:List Nc->List Cl->List Nc×Nd)(hd:∀st p,NewU st (dec st p).1 fun i c=>c.nd.kind=3/\(dec st p).2.kind=4/\(i:Int)∈(dec st p).2.ins)(hk:∀st p,(dec st p).2.kind≠3)(term:Cl):
 ∀(ps:List (List Cl))(acc:List Nc×List Nat),(∀i∈acc.2,i∈(za7 cache dec term ps acc).2)/\NewU acc.1 (za7 cache dec term ps acc).1 fun i c=>i∈(za7 cache dec term ps acc).2/\c.nd.kind≠3
 |[],acc=>⟨fun i h=>h,NewU.refl _ _⟩
 |p::ps,acc=>by
   have e:za7 cache dec term (p::ps) acc=za7 cache dec term ps ((zan cache acc.1 p term fun s=>dec s p).1,acc.2++[(zan cache acc.1 p term fun s=>dec s p).2]):=rfl;rw[e];have h1:=zhp cache acc.1 p term (fun s=>dec s p) (hd acc.1 p) (hk acc.1 p);obtain⟨h2,h3⟩:=zjt cache dec hd hk term ps ((zan cache acc.1 p term fun s=>dec s p).1,acc.2++[(zan cache acc.1 p term fun s=>dec s p).2]);refine⟨fun i hi=>h2 i (by simp[hi]),h1.trans h3 (fun i c h=>⟨h2 i (by simp[h.1]),h.2⟩) fun i c h=>h⟩
theorem znw(ch:List Cl->Int)(cache:Bool):∀(f:Nat)(st:List Nc)(l:List Cl)(term:Cl),NewU st (fitF ch cache f st l term).1 fun i c=>i∈(fitF ch cache f st l term).2/\c.nd.kind≠3
 |0,st,l,term=>NewU.refl _ _
 |f+1,st,l,term=>by
   have h:=zj7 l.length ⟨st,l,term,[]⟩ (fun _ _=>False);rw[fitF];generalize zaq l.length ⟨st,l,term,[]⟩=U at*
   split
   ·exact h.trans (zhp cache U.st U.l U.term (fun s=>(s,⟨0,0,[]⟩)) (NewU.refl _ _) (by simp)) (fun _ _ h=>h.elim) fun i c h=>⟨by simp[h.1],h.2⟩
   have k:=zjt cache (fun s part=>zav (fitF ch cache f) ch s part U.term) (fun s p=>znr (znw ch cache f) ch s p U.term) (fun s p=>by simp[zav]) U.term (zaj U.l) (U.st,U.ins)
   exact h.trans k.2 (fun _ _ h=>h.elim) fun i c h=>h
structure Clm where
 tm:Cl
 at':List Int
def labs(x:Int):Int:=if x<0 then-x else x
def tmOk(n:Nat)(tm:Cl)(i:Nat):Bool:=(decide (tm.getD i 0≠0)&&decide (tm.getD i 0<=n)&&decide (-(n:Int)<=tm.getD i 0))&&(List.range i).all fun k=>decide (labs (tm.getD k 0)≠labs (tm.getD i 0))
def ixOk(m:Nat)(a:List Int)(i:Nat):Bool:=decide (0<=a.getD i 0)&&decide (a.getD i 0<m)&&(decide (i=0)||decide (a.getD (i-1) 0<a.getD i 0))
def zpn(n m:Nat)(c:Clm):Bool:=(List.range c.tm.length).all (tmOk n c.tm)&&(List.range c.at'.length).all (ixOk m c.at')
def givT(term:Cl)(t:List Cl):List Cl:=(t.filter fun c=>!c.any fun x=>term.contains x).map fun c=>c.filter fun y=>!term.contains (-y)
def pick(t:List Cl)(a:List Int):List Cl:=a.map fun i=>t.getD i.toNat []
def resF(n:Nat)(t:List Cl)(c:Clm):Option (List Cl):=if zpn n t.length c then some (zaa n (givT c.tm (pick t c.at')))else none
structure tOk(n:Nat)(t:List Cl):Prop where
 len:t.length<=4096
 cl:∀c∈t,c.length<=128/\∀x∈c,litN n x
theorem tOk.rg{n:Nat}{t:List Cl}(h:tOk n t):∀c∈t,∀x∈c,x≠0/\-(n:Int)<=x/\x<=n:=fun c hc x hx=>(h.cl c hc).2 x hx
theorem zdr{n:Nat}(hn:n<=128){c:Cl}(f:Int->Bool)(hc:∀x∈c,litN n x):zcg n (c.filter f)=(zcg n c).filter f:=
 (zey hn ((zex hn c).filter _) (fun x=>by
   rw[List.mem_filter,List.mem_filter,zb4]
   exact⟨fun h=>⟨h.1.1,h.2⟩,fun h=>⟨⟨h.1,hc x h.1⟩,h.2⟩⟩) fun x hx=>hc x (List.mem_filter.1 hx).1).symm
theorem zc8{n:Nat}(hn:n<=128){c:Cl}(h:gC n c):zcg n c=c:=(zey hn h.so (fun _=>Iff.rfl) h.rg).symm
theorem zj4{c:Cl}{f:Int->Bool}(h:taut c=false):taut (c.filter f)=false:=by
 cases e:taut (c.filter f)with
 |false=>rfl
 |true=>
   obtain⟨x,hx,hy⟩:=zc5.1 e;rw[zc5.2 ⟨x,(List.mem_filter.1 hx).1,(List.mem_filter.1 hy).1⟩]at h;simp at h
theorem gC.taut{n:Nat}{c:Cl}(h:gC n c):taut c=false:=by
 cases e:Cen.taut c with
 |false=>rfl
 |true=>obtain⟨x,hx,hx'⟩:=zc5.1 e;exact absurd hx' (h.nt x hx)
theorem gC.gT{n:Nat}(hn:n<=128){c:Cl}(h:gC n c):gT n c:=⟨h.rg,(List.Pairwise.imp_of_mem (fun{a b}ha hb hab e=>by
 unfold ltL at hab;rw[zde]at hab;have h1:=h.rg a ha;have h2:=h.rg b hb;rw[zam h1.1 (by omega) (by omega),zam h2.1 (by omega) (by omega)]at e
 rcases ztq e with e'|e'
 ·subst e';omega
 exact h.nt b hb (e'▸ha)) h.so)⟩
theorem gC.len{n:Nat}(hn:n<=128){c:Cl}(h:gC n c):c.length<=128:=Nat.le_trans ((h.gT hn).len hn) hn
theorem gL.ok{n:Nat}(hn:n<=128){l:List Cl}(h:∀c∈l,gC n c)(hl:l.length<=4096):tOk n l:=⟨hl,fun c hc=>⟨(h c hc).len hn,(h c hc).rg⟩⟩
theorem zb5{term:Cl}{t:List Cl}{d:Cl}:d∈givT term t↔∃c∈t,(∀x∈c,x∉term)/\d=c.filter fun y=>!term.contains (-y):=by
 unfold givT;rw[List.mem_map]
 constructor
 ·rintro⟨c,hc,rfl⟩;rw[List.mem_filter]at hc
  exact⟨c,hc.1,fun x hx hm=>by
   have h1:=hc.2;rw[Bool.not_eq_true',List.any_eq_false]at h1
   exact h1 x hx (by simpa using hm),rfl⟩
 rintro⟨c,hc,hx,rfl⟩;refine⟨c,List.mem_filter.2 ⟨hc,?_⟩,rfl⟩;rw[Bool.not_eq_true',List.any_eq_false];intro x hxc
 simpa using hx x hxc
theorem zi4(term:Cl)(t:List Cl):(givT term t).length<=t.length:=by unfold givT;rw[List.length_map];exact List.length_filter_le _ _
theorem zdi{n:Nat}{t:List Cl}{d:Cl}:d∈zaa n t↔∃c∈t,taut c=false/\d=zcg n c:=by
 unfold zaa;rw[zbd,List.mem_map]
 constructor
 ·rintro⟨c,hc,rfl⟩;rw[List.mem_filter]at hc;exact⟨c,hc.1,by simpa using hc.2,rfl⟩
 rintro⟨c,hc,ht,rfl⟩;exact⟨c,List.mem_filter.2 ⟨hc,by simp[ht]⟩,rfl⟩
theorem zoc{n:Nat}(hn:n<=128){l:List Cl}(h:gL n l):zaa n l=l:=by
 have:∀x,x∈zaa n l↔x∈l:=fun d=>by
  rw[zdi]
  constructor
  ·rintro⟨c,hc,_,rfl⟩;rw[zc8 hn (h.gc c hc)];exact hc
  intro hd;exact⟨d,hd,(h.gc d hd).taut,(zc8 hn (h.gc d hd)).symm⟩
 exact zbx (fun _ _=>zce) (za0 _) h.so this
theorem zzm{n:Nat}(hn:n<=128){r:List Cl}(h:∀c∈r,gC n c)(x:Int):zaa n (givT [x] r)=zah r x:=by
 refine zbx (fun _ _=>zce) (za0 _) (za0 _) fun d=>?_
 show d∈zaa n (givT [x] r)↔d∈zah r x
 rw[zdi,zck]
 have e:∀c∈r,(c.filter fun y=>!([x]:Cl).contains (-y))=c.filter fun y=>decide (y≠-x):=fun c _=>by
  apply List.filter_congr
  intro y _
  by_cases h:y=-x
  ·subst h;simp
  have:¬(-y=x):=fun h'=>h (by omega)
  simp[h,this]
 constructor
 ·rintro⟨b,hb,_,rfl⟩;obtain⟨c,hc,hx,rfl⟩:=zb5.1 hb;refine⟨c,hc,fun hm=>hx x hm (by simp),?_⟩;rw[zdr hn _ (h c hc).rg,zc8 hn (h c hc),e c hc]
 rintro⟨c,hc,hx,rfl⟩;refine⟨c.filter fun y=>decide (y≠-x),zb5.2 ⟨c,hc,fun y hy hm=>?_,(e c hc).symm⟩,zj4 (h c hc).taut,?_⟩
 ·simp at hm;subst hm;exact hx hy
 rw[zdr hn _ (h c hc).rg,zc8 hn (h c hc)]
theorem ybw{n:Nat}(hn:n<=128){T:Cl}(h:gT n T):(List.range T.length).all (tmOk n T)=true:=by
 rw[List.all_eq_true];intro i hi;rw[List.mem_range]at hi
 have e:∀k,k<T.length->T.getD k 0∈T:=fun k hk=>by
  rw[List.getD_eq_getElem?_getD,List.getElem?_eq_getElem hk];exact List.getElem_mem hk
 have hr:=h.rg _ (e i hi);unfold tmOk;simp only[Bool.and_eq_true,decide_eq_true_eq,List.all_eq_true,List.mem_range];refine⟨⟨⟨hr.1,hr.2.2⟩,hr.2.1⟩,fun k hk=>?_⟩;have hp:=List.pairwise_iff_getElem.1 h.nd k i (by omega) hi hk;have hk':=h.rg _ (e k (by omega))
 have e1:T.getD k 0=T[k]'(by omega):=by rw[List.getD_eq_getElem?_getD,List.getElem?_eq_getElem (by omega)];rfl
 have e2:T.getD i 0=T[i]:=by rw[List.getD_eq_getElem?_getD,List.getElem?_eq_getElem hi];rfl
 rw[e1]at hk'⊢;rw[e2]at hr⊢;rw[zam hk'.1 (by have:=hk'.2;omega) (by have:=hk'.2;omega),zam hr.1 (by have:=hr.2;omega) (by have:=hr.2;omega)]at hp;exact hp
theorem zym(l:List Int):(zc4 l).Pairwise fun a b=>a<=b:=by
 have:=List.pairwise_mergeSort (le:=fun(x y:Int)=>decide (x<=y)) (fun a b c h1 h2=>by simp at*;omega) (fun a b=>by simp;omega) l
 exact this.imp fun h=>by simpa using h
theorem zyn{l:List Int}(h:l.Nodup):(zc4 l).Pairwise fun a b=>a<b:=by
 have h1:=zym l;have h2:(zc4 l).Nodup:=((List.mergeSort_perm l _).nodup_iff).2 h;have h2:(zc4 l).Pairwise (·≠·):=h2
 exact(h1.and h2).imp fun h=>by omega
theorem ybb{m:Nat}{a:List Int}(h:a.Pairwise fun x y=>x<y)(hr:∀i∈a,0<=i/\i<m):(List.range a.length).all (ixOk m a)=true:=by
 rw[List.all_eq_true];intro i hi;rw[List.mem_range]at hi
 have e2:a.getD i 0=a[i]:=by rw[List.getD_eq_getElem?_getD,List.getElem?_eq_getElem hi];rfl
 have:=hr a[i] (List.getElem_mem hi);unfold ixOk;simp only[Bool.and_eq_true,Bool.or_eq_true,decide_eq_true_eq];rw[e2];refine⟨this,?_⟩
 by_cases h0:i=0
 ·exact .inl h0
 right
 have e1:a.getD (i-1) 0=a[i-1]'(by omega):=by rw[List.getD_eq_getElem?_getD,List.getElem?_eq_getElem (by omega)];rfl
 rw[e1];exact List.pairwise_iff_getElem.1 h (i-1) i (by omega) hi (by omega)
theorem Left1.fun{n:Nat}{t:List Cl}{term:Cl}{i:Int}{c d:Cl}(h:Left1 n t term i c)(k:Left1 n t term i d):c=d:=by
 obtain⟨j,_,e,_,_,rfl⟩:=h;obtain⟨j',_,e',_,_,rfl⟩:=k
 have:j=j':=by omega
 subst this;rfl
theorem yda{n:Nat}(hn:n<=128){t:List Cl}(ht:∀c∈t,∀x∈c,litN n x){l:List Cl}{term:Cl}{a:List Int}(hg:gL n l)(hT:gT n term)(h:ClOf n t l term a):resF n t ⟨term,a⟩=some l:=by
 obtain⟨m,rfl,rfl,hm⟩:=h
 have hnd:(m.map Prod.fst).Nodup:=by
  show List.Pairwise _ _
  rw[List.pairwise_map];have h1:=hg.so;rw[List.pairwise_map]at h1;refine List.Pairwise.imp_of_mem (fun{a b}ha hb hab e=>?_) h1;have ha':=hm a ha;rw[e]at ha';have:=ha'.fun (hm b hb);rw[this]at hab;exact ze5 _ hab
 have hix:∀i∈zc4 (m.map Prod.fst),∃e∈m,e.1=i:=fun i hi=>by
  rw[zop,List.mem_map]at hi;exact hi
 have hf:zpn n t.length ⟨term,zc4 (m.map Prod.fst)⟩=true:=by
  unfold zpn
  rw[ybw hn hT,ybb (zyn hnd) fun i hi=>?_];·rfl
  obtain⟨e,he,rfl⟩:=hix i hi;obtain⟨j,hj,hij,_⟩:=hm e he;omega
 unfold resF;rw[if_pos hf]
 congr 1
 refine zbx (fun _ _=>zce) (za0 _) hg.so fun d=>?_
 show d∈zaa n _↔_
 rw[zdi]
 have hgd:∀j,j<t.length->t.getD j []∈t:=fun j hj=>by
  rw[List.getD_eq_getElem?_getD,List.getElem?_eq_getElem hj];exact List.getElem_mem hj
 constructor
 ·rintro⟨b,hb,_,rfl⟩;obtain⟨c,hc,hx,rfl⟩:=zb5.1 hb;unfold pick at hc;obtain⟨i,hi,rfl⟩:=List.mem_map.1 hc;obtain⟨e,he,rfl⟩:=hix i hi;obtain⟨j,hj,hij,h1,h2,h3⟩:=hm e he;rw[hij,Int.toNat_natCast]at*;rw[zdr hn _ (ht _ (hgd j hj))];rw[List.mem_map];exact⟨e,he,h3⟩
 intro hd;obtain⟨e,he,rfl⟩:=List.mem_map.1 hd;obtain⟨j,hj,hij,h1,h2,h3⟩:=hm e he;refine⟨(t.getD j []).filter fun y=>!term.contains (-y),zb5.2 ⟨t.getD j [],?_,fun x hx hm=>?_,rfl⟩,zj4 h1,?_⟩
 ·unfold pick;rw[List.mem_map];exact⟨e.1,by rw[zop,List.mem_map];exact⟨e,he,rfl⟩,by rw[hij,Int.toNat_natCast]⟩
 ·exact h2 x hm (zb4.2 ⟨hx,ht _ (hgd j hj) x hx⟩)
 rw[zdr hn _ (ht _ (hgd j hj))];exact h3
def hasU(r:List Cl)(x:Int):Bool:=r.any fun c=>decide (c=[x])
def zzf(r:List Cl):Bool:=r.any fun c=>decide (c=[])
def okT(n:Nat)(t:List Cl):Bool:=decide (t.length<=4096)&&t.all fun c=>decide (c.length<=128)&&c.all fun x=>zbn x n
def zhi(n:Nat)(t:List Cl):St:=if okT n t then zae t else St.zero
def zxy(n:Nat)(a b:List Cl):Bool:=decide ((zhi n a).cut (zhi n b)≠St.zero)
def zpv(a x:List Cl):List Cl:=x.foldl (fun a c=>if decide (c≠[])||!zzf a then a++[c]else a) a
structure Prf where
 n:Nat
 t:List Cl
 N:List Nd
 C:List Clm
def Prf.res(p:Prf)(i:Int):Option (List Cl):=resF p.n p.t (p.C.getD i.toNat ⟨[],[]⟩)
structure FS where
 used:List Bool
 r:List Cl
 again:Bool
def Prf.cond(p:Prf)(ins:List Int)(s:FS)(k:Nat):Bool:=(!s.used.getD k true)&&(decide ((nd p.N (ins.getD k 0)).kind=2)&&hasU s.r (nd p.N (ins.getD k 0)).lit)
def Prf.fstep(p:Prf)(ins:List Int)(s:FS)(k:Nat):FS:=
 if p.cond ins s k then⟨s.used.set k true,zaa p.n (givT [(nd p.N (ins.getD k 0)).lit] s.r),true⟩else s
def Prf.fpass(p:Prf)(ins:List Int)(k:Nat)(s:FS):FS:=(List.range k).foldl (p.fstep ins) ⟨s.used,s.r,false⟩
def Prf.floop(p:Prf)(ins:List Int):Nat->FS->FS
 |0,s=>s
 |f+1,s=>if(p.fpass ins ins.length s).again then p.floop ins f (p.fpass ins ins.length s)else p.fpass ins ins.length s
def Prf.fone(p:Prf)(ins:List Int)(used:List Bool)(all:List Cl)(k:Nat):Option (List Cl):=
 if used.getD k true then some all else match p.res (ins.getD k 0)with
  |none=>none
  |some x=>if decide ((nd p.N (ins.getD k 0)).kind=2)||zxy p.n all x then none else some (zpv all x)
def Prf.fall(p:Prf)(ins:List Int)(used:List Bool)(k:Nat):Option (List Cl):=(List.range k).foldl (fun a k=>a.bind fun all=>p.fone ins used all k) (some [])
def Prf.fend(p:Prf)(ins:List Int)(s:FS):Bool:=match p.fall ins s.used ins.length with
 |none=>false
 |some all=>okT p.n all&&decide (s.r=zaa p.n all)
def Prf.fit(p:Prf)(r:List Cl)(ins:List Int):Bool:=p.fend ins (p.floop ins (ins.length+1) ⟨List.replicate ins.length false,r,true⟩)
theorem zgc{n:Nat}(hn:n<=128){x:Int}:zbn x n=true↔litN n x:=by
 unfold zbn litN;rw[Bool.and_eq_true,decide_eq_true_eq,decide_eq_true_eq];unfold zac
 (repeat' split)<;>omega
theorem zms{n:Nat}(hn:n<=128){t:List Cl}:okT n t=true↔tOk n t:=by
 unfold okT;simp only[Bool.and_eq_true,decide_eq_true_eq,List.all_eq_true]
 constructor
 ·rintro⟨a,b⟩;exact⟨a,fun c hc=>⟨(b c hc).1,fun x hx=>(zgc hn).1 ((b c hc).2 x hx)⟩⟩
 rintro⟨a,b⟩;exact⟨a,fun c hc=>⟨(b c hc).1,fun x hx=>(zgc hn).2 ((b c hc).2 x hx)⟩⟩
theorem ze1(p:Prf)(ins:List Int)(k:Nat)(s:FS):p.fpass ins (k+1) s=p.fstep ins (p.fpass ins k s) k:=by
 unfold Prf.fpass;rw[List.range_succ,List.foldl_append];rfl
theorem zdx(p:Prf)(ins:List Int)(s:FS):∀k,(p.fpass ins k s).used.length=s.used.length
 |0=>rfl
 |k+1=>by
   rw[ze1];unfold Prf.fstep
   split
   ·simp[zdx p ins s k]
   exact zdx p ins s k
theorem zi3{p:Prf}{ins:List Int}{s:FS}:∀k,(p.fpass ins k s).again=false->p.fpass ins k s=⟨s.used,s.r,false⟩/\∀j,j<k->p.cond ins ⟨s.used,s.r,false⟩ j=false
 |0,_=>⟨rfl,fun j h=>by omega⟩
 |k+1,h=>by
   rw[ze1]at h⊢;unfold Prf.fstep at h⊢
   cases hc:p.cond ins (p.fpass ins k s) k with
   |true=>rw[hc,if_pos rfl]at h;simp at h
   |false=>
     rw[hc,if_neg (by simp)]at h;rw[if_neg (by simp)];obtain⟨a,b⟩:=zi3 k h;refine⟨a,fun j hj=>?_⟩
     rcases Nat.lt_or_ge j k with h1|h1
     ·exact b j h1
     have:j=k:=by omega
     subst this;rw[<-a];exact hc
def zmt(l:List Bool):Nat:=l.countP fun b=>!b
theorem zrl{l:List Bool}{k:Nat}(hk:k<l.length)(h:l.getD k true=false):zmt (l.set k true)+1=zmt l:=by
 induction l generalizing k with
 |nil=>simp at hk
 |cons b l ih=>
   cases k with
   |zero=>
     simp at h;subst h
     simp[zmt]
   |succ k=>
     have:=ih (k:=k) (by simpa using hk) (by simpa using h);unfold zmt at*;rw[List.set_cons_succ,List.countP_cons,List.countP_cons];omega
theorem zux{l:List Bool}{k:Nat}(h:l.getD k true=false):k<l.length:=by
 rcases Nat.lt_or_ge k l.length with h1|h1
 ·exact h1
 rw[List.getD_eq_getElem?_getD,List.getElem?_eq_none h1]at h;simp at h
theorem zk1(p:Prf)(ins:List Int)(s:FS):∀k,zmt (p.fpass ins k s).used+(if(p.fpass ins k s).again then 1 else 0)<=zmt s.used
 |0=>by simp[Prf.fpass]
 |k+1=>by
   have ih:=zk1 p ins s k;rw[ze1];unfold Prf.fstep
   cases hc:p.cond ins (p.fpass ins k s) k with
   |true=>
     rw[if_pos rfl];simp only[if_true];unfold Prf.cond at hc;simp only[Bool.and_eq_true,Bool.not_eq_true']at hc;have:=zrl (zux hc.1) hc.1
     split at ih<;>omega
   |false=>rw[if_neg (by simp)];exact ih
theorem znx{p:Prf}{ins:List Int}(Q:FS->Prop)(h0:∀s,Q s->Q ⟨s.used,s.r,false⟩)(hs:∀s k,Q s->k<ins.length->Q (p.fstep ins s k)):∀(f:Nat)(s:FS),Q s->zmt s.used<f->
 ∃s',p.floop ins f s=s'/\Q s'/\s'.again=false/\∀j,j<ins.length->p.cond ins s' j=false
 |0,s,_,h=>by omega
 |f+1,s,hq,hf=>by
   have hp:∀k,k<=ins.length->Q (p.fpass ins k s):=fun k=>by
    induction k with
    |zero=>intro _;exact h0 s hq
    |succ k ih=>intro hk;rw[ze1];exact hs _ k (ih (by omega)) (by omega)
   rw[Prf.floop]
   cases ha:(p.fpass ins ins.length s).again with
   |true=>
     rw[if_pos rfl];have:=zk1 p ins s ins.length;rw[ha,if_pos rfl]at this;exact znx Q h0 hs f _ (hp _ (Nat.le_refl _)) (by omega)
   |false=>
     rw[if_neg (by simp)];obtain⟨a,b⟩:=zi3 _ ha;refine⟨_,rfl,hp _ (Nat.le_refl _),ha,?_⟩;rw[a];exact b
theorem zxk{S S':Cl}(h:∀x,x∈S↔x∈S')(l:List Cl):ordC (givT S l)=ordC (givT S' l):=zlh fun d=>by
 rw[zb5,zb5]
 have e:∀c:Cl,(c.filter fun y=>!S.contains (-y))=c.filter fun y=>!S'.contains (-y):=fun c=>by
  apply List.filter_congr
  intro y _
  have:S.contains (-y)=S'.contains (-y):=by
   rw[Bool.eq_iff_iff,List.contains_iff_mem,List.contains_iff_mem];exact h _
  rw[this]
 constructor
 ·rintro⟨c,hc,hx,rfl⟩;exact⟨c,hc,fun x hxc hm=>hx x hxc ((h x).2 hm),e c⟩
 rintro⟨c,hc,hx,rfl⟩;exact⟨c,hc,fun x hxc hm=>hx x hxc ((h x).1 hm),(e c).symm⟩
theorem zf6{S:Cl}{x:Int}(l:List Cl)(h2:-x∉S):zah (ordC (givT S l)) x=ordC (givT (S++[x]) l):=by
 refine zbx (fun _ _=>zce) (za0 _) (za0 _) fun d=>?_
 show d∈zah _ x↔_
 rw[zck,zbd,zb5]
 have e:∀c:Cl,((c.filter fun y=>!S.contains (-y)).filter fun y=>decide (y≠-x))=c.filter fun y=>!(S++[x]).contains (-y):=fun c=>by
  rw[List.filter_filter]
  apply List.filter_congr
  intro y _
  by_cases h:y=-x
  ·subst h;simp
  have:¬(-y=x):=fun h'=>h (by omega)
  simp[h,this]
 constructor
 ·rintro⟨b,hb,hx,rfl⟩;rw[zbd,zb5]at hb;obtain⟨c,hc,hn,rfl⟩:=hb;refine⟨c,hc,fun y hy hm=>?_,e c⟩
  rcases List.mem_append.1 hm with hm|hm
  ·exact hn y hy hm
  simp at hm;subst hm;exact hx (List.mem_filter.2 ⟨hy,by simpa using h2⟩)
 rintro⟨c,hc,hn,rfl⟩;refine⟨c.filter fun y=>!S.contains (-y),?_,fun hm=>hn x (List.mem_filter.1 hm).1 (by simp),(e c).symm⟩;rw[zbd,zb5];exact⟨c,hc,fun y hy hm=>hn y hy (by simp[hm]),rfl⟩
theorem ze2{l:List Cl}(h:l.Pairwise ltC):ordC (givT [] l)=l:=by
 have:givT [] l=l:=by
  unfold givT;rw[List.filter_eq_self.2 (fun c _=>by simp)];rw[List.map_congr_left (g:=id) (fun c _=>by simp)]
  simp
 rw[this];exact zvr h
theorem ybr{α:Type}{P:List α->Prop}(h0:P [])(hs:∀l x,P l->P (l++[x]))(l:List α):P l:=by
 have:∀m:List α,P m.reverse:=fun m=>by
  induction m with
  |nil=>exact h0
  |cons x m ih=>rw[List.reverse_cons];exact hs _ _ ih
 have:=this l.reverse
 rwa[List.reverse_reverse]at this
structure Units(st:List Nc)(l:List Cl)(xs:Cl)(js:List Nat)(L:List Cl):Prop where
 len:js.length=xs.length
 lit:∀k,k<xs.length->isLit st (js.getD k 0) (xs.getD k 0)
 hd:∀k,k<xs.length->[xs.getD k 0]∈ordC (givT (xs.take k) l)
 end':L=ordC (givT xs l)
theorem Fit.units{st:List Nc}{l:List Cl}{ins:List Nat}(h:Fit st l ins){n:Nat}(hn:n<=128):gL n l->
 ∃xs js rest L,ins=js++rest/\gT n xs/\Units st l xs js L/\gL n L/\(∀x∈xs,(zae l).mem (zac x)=true)/\
  ((∃i L',rest=[i]/\L=[]::L'/\tagged st i L/\∃c,st[i]?=some c/\c.nd=⟨0,0,[]⟩)\/
   ((∀c∈L,2<=c.length)/\rest.length=(zaj L).length/\∀k,k<rest.length->tagged st (rest.getD k 0) ((zaj L).getD k [])/\∃c,st[rest.getD k 0]?=some c/\c.nd.kind=4)):=by
 induction h with
 |@unit x l i ins a hf ih=>
   intro hg;obtain⟨xs,js,rest,L,rfl,hT,hu,hL,hv,hr⟩:=ih (zbh hg.gc x);have hx:litN n x:=(hg.gc [x] (by simp)).rg x (by simp);have hx0:=(hx.ok hn).1
   have hne:∀y∈xs,zac x≠zac y:=fun y hy e=>(za1 hx0 (hv y hy)).2 e.symm
   have hg0:zah ([x]::l) x=ordC (givT [x] ([x]::l)):=by
    have:=zf6 (S:=[]) (x:=x) ([x]::l) (by simp);rw[ze2 hg.so]at this;exact this
   have hoff:∀y∈xs,-y∉[x]/\-x∉[y]:=fun y hy=>by
    have h1:=hne y hy;refine⟨fun h=>?_,fun h=>?_⟩
    ·simp at h;subst h;rw[zbw]at h1;exact h1 rfl
    simp at h;subst h;rw[zbw]at h1;exact h1 rfl
   have key:∀ys:Cl,(∀y∈ys,y∈xs)->gT n ys->ordC (givT ys (zah ([x]::l) x))=ordC (givT (x::ys) ([x]::l)):=fun ys=>by
    refine ybr (P:=fun ys=>(∀y∈ys,y∈xs)->gT n ys->ordC (givT ys (zah ([x]::l) x))=ordC (givT (x::ys) ([x]::l))) ?_ ?_ ys
    ·intro _ _;rw[ze2 (l:=zah ([x]::l) x) (za0 _)];exact hg0
    intro ys y ih hm ht
    have ht':gT n ys:=⟨fun z hz=>ht.rg z (by simp[hz]),(List.pairwise_append.1 ht.nd).1⟩
    have h2:-y∉ys:=fun h=>ht.nt hn (x:=y) (by simp) (by simp[h])
    have h3:-y∉(x::ys):=fun h=>by
     rcases List.mem_cons.1 h with e|e
     ·exact(hoff y (hm y (by simp))).1 (by simp[e])
     exact h2 e
    rw[<-zf6 _ h2,ih (fun z hz=>hm z (by simp[hz])) ht',zf6 _ h3]
    rfl
   refine⟨x::xs,i::js,rest,L,rfl,⟨fun y hy=>?_,List.pairwise_cons.2 ⟨hne,hT.nd⟩⟩,⟨by simp[hu.len],fun k hk=>?_,fun k hk=>?_,?_⟩,hL,fun y hy=>?_,hr⟩
   ·rcases List.mem_cons.1 hy with rfl|hy
    ·exact hx
    exact hT.rg y hy
   ·cases k with
    |zero=>exact a
    |succ k=>exact hu.lit k (by simpa using hk)
   ·cases k with
    |zero=>
      show[x]∈ordC (givT [] ([x]::l))
      rw[ze2 hg.so];simp
    |succ k=>
      have h1:=hu.hd k (by simpa using hk);rw[key _ (fun y hy=>List.mem_of_mem_take hy) ⟨fun y hy=>hT.rg y (List.mem_of_mem_take hy),hT.nd.sublist (List.take_sublist _ _)⟩]at h1;exact h1
   ·rw[hu.end'];exact key xs (fun y hy=>hy) hT
   rcases List.mem_cons.1 hy with rfl|hy
   ·exact zge (l:=[y]::l) (c:=[y]) (by simp) (x:=y) (by simp) hx0
   exact(za1 hx0 (hv y hy)).1
 |@bad l i a b=>
   intro hg;exact⟨[],[],[i],[]::l,rfl,gT.nil n,⟨rfl,fun k hk=>by simp at hk,fun k hk=>by simp at hk,(ze2 hg.so).symm⟩,hg,by simp,.inl ⟨i,l,rfl,rfl,a,b⟩⟩
 |@parts l ins a b c=>
   intro hg;exact⟨[],[],ins,l,rfl,gT.nil n,⟨rfl,fun k hk=>by simp at hk,fun k hk=>by simp at hk,(ze2 hg.so).symm⟩,hg,by simp,.inr ⟨a,b,c⟩⟩
end Cen
