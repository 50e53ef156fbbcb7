/- Parts of the proofs of laws. Texts: CqX, CqY. -/
import Derived.Test.YtnlaakmglhjjmaaGreatDoorYC19
set_option maxHeartbeats 8000000
set_option maxRecDepth 100000
set_option linter.all false
namespace Cen
def gLen(gs:List (List Cl×St)):Nat:=(gs.map fun g=>g.1.length).sum
theorem zqf(gs:List (List Cl×St)):∀(acc:List (List Cl×St)×List Cl×St),
 gLen (gs.foldl (fun acc g=>if g.2.cut acc.2.2≠St.zero then(acc.1,acc.2.1++g.1,acc.2.2.union g.2)else(acc.1++[g],acc.2.1,acc.2.2)) acc).1+(gs.foldl (fun acc g=>if g.2.cut acc.2.2≠St.zero then(acc.1,acc.2.1++g.1,acc.2.2.union g.2)else(acc.1++[g],acc.2.1,acc.2.2)) acc).2.1.length=gLen acc.1+acc.2.1.length+gLen gs:=by
 induction gs with
 |nil=>intro acc;simp[gLen]
 |cons g gs ih=>
   intro acc;rw[List.foldl_cons,ih]
   split
   ·simp[gLen];omega
   simp[gLen];omega
theorem zm2(gs:List (List Cl×St))(c:Cl):gLen (za5 gs c)=gLen gs+1:=by
 have:=zqf gs ([],[],zdn c);have e0:gLen []=0:=rfl;unfold za5;unfold zdt;generalize gs.foldl (fun acc g=>if g.2.cut acc.2.2≠St.zero then(acc.1,acc.2.1++g.1,acc.2.2.union g.2)else(acc.1++[g],acc.2.1,acc.2.2)) ([],[],zdn c)=r at*;simp only[List.length_nil]at this;unfold gLen at*
 simp
 omega
theorem zk3(l:List Cl):gLen (zdg l)=l.length:=by
 have:∀gs,gLen (l.foldl za5 gs)=gLen gs+l.length:=by
  induction l with
  |nil=>intro gs;simp
  |cons c l ih=>intro gs;rw[List.foldl_cons,ih,zm2];simp;omega
 have:=this [];unfold zdg;rw[this];simp[gLen]
theorem zv4(l:List Cl):(zaj l).flatten.length<=l.length:=by
 rw[<-zk3 l];unfold zaj gLen
 induction zdg l with
 |nil=>simp
 |cons g gs ih=>
   rw[List.map_cons,List.flatten_cons,List.length_append,List.map_cons,List.sum_cons];have:=zbc g.1;omega
theorem zrb{x:List Cl}(h:∀c∈x,c≠[])(a:List Cl):zpv a x=a++x:=by
 unfold zpv
 induction x generalizing a with
 |nil=>simp
 |cons c x ih=>
   rw[List.foldl_cons,if_pos (by simp[h c (by simp)]),ih (fun d hd=>h d (by simp[hd]))]
   simp
theorem zu6{x:List Cl}(h:x.Pairwise ltC):zpv [] x=x:=by
 cases x with
 |nil=>rfl
 |cons c x=>
   have h1:∀d∈x,d≠[]:=fun d hd e=>by
    have:=(List.pairwise_cons.1 h).1 d hd;subst e;have h2:=zvd this;have:c=[]:=List.eq_nil_of_length_eq_zero (by simpa using h2);subst this;exact ze5 _ ((List.pairwise_cons.1 h).1 [] hd)
   have e:zpv [] (c::x)=zpv [c] x:=by unfold zpv;rw[List.foldl_cons];simp[zzf]
   rw[e,zrb h1];rfl
theorem zov{n:Nat}{t:List Cl}{v:Int}(h:(zhi n t).mem v=true):(zae t).mem v=true:=by
 unfold zhi at h
 split at h
 ·exact h
 rw[St.mem_zero]at h;simp at h
theorem zwi(l:List Cl):(zae l).ok:=by
 unfold zae
 have:∀s:St,s.ok->(l.foldl (fun s c=>s.union (zdn c)) s).ok:=by
  induction l with
  |nil=>intro s h;exact h
  |cons c l ih=>intro s h;exact ih _ (St.union_ok h (zii c))
 exact this _ St.zero_ok
theorem zy1(n:Nat)(l:List Cl):(zhi n l).ok:=by
 unfold zhi
 split
 ·exact zwi l
 exact St.zero_ok
theorem zn6{n:Nat}{a b:List Cl}(h:∀v,¬((zae a).mem v=true/\(zae b).mem v=true)):zxy n a b=false:=by
 cases e:zxy n a b with
 |false=>rfl
 |true=>
   unfold zxy at e;rw[decide_eq_true_eq]at e;obtain⟨v,h1,h2⟩:=zze (zy1 n a) e;exact absurd ⟨zov h1,zov h2⟩ (h v)
theorem ya7{n:Nat}{S:Cl}{l:List Cl}(h:∀c∈l,gC n c):∀d∈ordC (givT S l),gC n d:=fun d hd=>by
 rw[zbd,zb5]at hd;obtain⟨c,hc,_,rfl⟩:=hd;have g:=h c hc;exact⟨g.so.filter _,fun y hy=>g.rg y (List.mem_filter.1 hy).1,fun y hy hn=>g.nt y (List.mem_filter.1 hy).1 (List.mem_filter.1 hn).1⟩
theorem zi1(p:Prf)(ins:List Int)(used:List Bool)(k:Nat):p.fall ins used (k+1)=(p.fall ins used k).bind fun all=>p.fone ins used all k:=by
 unfold Prf.fall;rw[List.range_succ,List.foldl_append];rfl
section
variable{p:Prf}{st:List Nc}(hn:p.n<=128)(hnd:∀(i:Nat)(c:Nc),st[i]?=some c->nd p.N (i:Int)=c.nd)(hres:∀(i:Nat)(l:List Cl),tagged st i l->p.res (i:Int)=some l)
include hn hnd hres
theorem zzj{l:List Cl}{ins:List Nat}(hF:Fit st l ins)(hg:gL p.n l)(hl:l.length<=4096):p.fit l (zaf ins)=true:=by
 obtain⟨xs,js,rest,L,rfl,hT,hu,hL,hv,hr⟩:=hF.units hn hg
 have hlen:(zaf (js++rest)).length=xs.length+rest.length:=by simp[zaf,hu.len]
 have hget1:∀k,k<xs.length->(zaf (js++rest)).getD k 0=((js.getD k 0:Nat):Int):=fun k hk=>by
  have:k<js.length:=by rw[hu.len];exact hk
  simp[zaf,List.getD_eq_getElem?_getD,List.getElem?_append_left,this]
 have hget2:∀k,k<rest.length->(zaf (js++rest)).getD (xs.length+k) 0=((rest.getD k 0:Nat):Int):=fun k hk=>by
  have e:(js++rest)[xs.length+k]?=rest[k]?:=by
   rw[List.getElem?_append_right (by rw[hu.len];omega)];congr 1;rw[hu.len];omega
  unfold zaf;rw[List.getD_eq_getElem?_getD,List.getElem?_map,e]
  simp[List.getD_eq_getElem?_getD,hk]
 have hlit:∀k,k<xs.length->nd p.N ((zaf (js++rest)).getD k 0)=⟨2,xs.getD k 0,[]⟩:=fun k hk=>by
  rw[hget1 k hk];obtain⟨c,hc,e⟩:=hu.lit k hk;rw[hnd _ c hc,e]
 have hrk:∀k,k<rest.length->(nd p.N ((zaf (js++rest)).getD (xs.length+k) 0)).kind≠2:=fun k hk=>by
  rw[hget2 k hk]
  rcases hr with⟨i,L',rfl,_,_,c,hc,e⟩|⟨_,_,h⟩
  ·have:k=0:=by simpa using hk
   subst this;rw[show([i]:List Nat).getD 0 0=i from rfl,hnd _ c hc,e];simp
  obtain⟨_,c,hc,e⟩:=h k hk;rw[hnd _ c hc,e];simp
 have hxm:∀k,k<xs.length->xs.getD k 0∈xs:=fun k hk=>by rw[List.getD_eq_getElem?_getD,List.getElem?_eq_getElem hk];exact List.getElem_mem hk
 have hxinj:∀j k,j<xs.length->k<xs.length->xs.getD j 0=xs.getD k 0->j=k:=fun j k hj hk e=>by
  have key:∀a b,a<b->b<xs.length->xs.getD a 0≠xs.getD b 0:=fun a b hab hb e=>by
   have h1:=List.pairwise_iff_getElem.1 hT.nd a b (by omega) hb hab;rw[List.getD_eq_getElem?_getD,List.getD_eq_getElem?_getD,List.getElem?_eq_getElem (by omega),List.getElem?_eq_getElem hb]at e;simp only[Option.getD_some]at e;rw[e]at h1;exact h1 rfl
  rcases Nat.lt_trichotomy j k with h|h|h
  ·exact absurd e (key j k h hk)
  ·exact h
  exact absurd e.symm (key k j h hj)
 obtain⟨s,hs,⟨hsl,S,hS,hSr,hr0⟩,_,hstop⟩:=znx (p:=p) (ins:=zaf (js++rest))
  (fun s=>s.used.length=(zaf (js++rest)).length/\∃S:Cl,(∀x,x∈S↔∃k,k<xs.length/\s.used.getD k true=true/\x=xs.getD k 0)/\(∀k,k<rest.length->s.used.getD (xs.length+k) true=false)/\s.r=ordC (givT S l))
  (fun s h=>h) (fun s k⟨h1,S,h2,h3,h4⟩hk=>by
    unfold Prf.fstep
    cases hc:p.cond (zaf (js++rest)) s k with
    |false=>rw[if_neg (by simp)];exact⟨h1,S,h2,h3,h4⟩
    |true=>
      rw[if_pos rfl];unfold Prf.cond at hc;simp only[Bool.and_eq_true,Bool.not_eq_true',decide_eq_true_eq]at hc
      have hkx:k<xs.length:=by
       rcases Nat.lt_or_ge k xs.length with h|h
       ·exact h
       exact absurd hc.2.1 (by have:=hrk (k-xs.length) (by omega);rwa[show xs.length+(k-xs.length)=k by omega]at this)
      rw[hlit k hkx];simp only
      have hSx:∀x∈S,x∈xs:=fun x hx=>by
       obtain⟨j,hj,_,rfl⟩:=(h2 x).1 hx;exact hxm j hj
      have hneg:-(xs.getD k 0)∉S:=fun h=>hT.nt hn (hxm k hkx) (hSx _ h)
      refine⟨by simpa using h1,S++[xs.getD k 0],fun x=>?_,fun j hj=>?_,?_⟩
      ·rw[List.mem_append,h2 x];simp only[List.mem_singleton]
       constructor
       ·rintro(⟨j,hj,hu',rfl⟩|rfl)
        ·refine⟨j,hj,?_,rfl⟩;simp only[List.getD_eq_getElem?_getD,List.getElem?_set]at hu'⊢
         split
         ·split<;>simp
         exact hu'
        refine⟨k,hkx,?_,rfl⟩;have:=zux hc.1
        simp[List.getD_eq_getElem?_getD,List.getElem?_set,this]
       rintro⟨j,hj,hu',rfl⟩
       by_cases e:k=j
       ·subst e;exact .inr rfl
       left
       refine⟨j,hj,?_,rfl⟩;simp only[List.getD_eq_getElem?_getD,List.getElem?_set]at hu'⊢;rw[if_neg e]at hu';exact hu'
      ·have:=h3 j hj;simp only[List.getD_eq_getElem?_getD,List.getElem?_set]at this⊢;rw[if_neg (by omega)];exact this
      rw[h4,zzm hn (ya7 hg.gc),zf6 _ hneg]) ((zaf (js++rest)).length+1) ⟨List.replicate (zaf (js++rest)).length false,l,true⟩
  ⟨by simp,[],fun x=>by
    constructor
    ·intro h;simp at h
    ·rintro⟨k,hk,h,_⟩
     have:k<(zaf (js++rest)).length:=by omega
     simp[List.getD_eq_getElem?_getD,List.getElem?_replicate,this]at h,fun k hk=>by
    have:xs.length+k<(zaf (js++rest)).length:=by omega
    simp[List.getD_eq_getElem?_getD,List.getElem?_replicate,this],(ze2 hg.so).symm⟩
  (by have:zmt (List.replicate (zaf (js++rest)).length false)<=(zaf (js++rest)).length:=by
       have:=List.countP_le_length (p:=fun b=>!b) (l:=List.replicate (zaf (js++rest)).length false)
       simpa[zmt]using this
      simp only;omega)
 have hSx:∀x∈S,x∈xs:=fun x hx=>by
  obtain⟨j,hj,_,rfl⟩:=(hS x).1 hx;exact hxm j hj
 have hall:∀k,k<xs.length->s.used.getD k true=true:=fun k=>by
  induction k using Nat.strongRecOn with
  |_ k ih=>
    intro hk
    cases hu':s.used.getD k true with
    |true=>rfl
    |false=>
      exfalso
      have h1:=hstop k (by omega);unfold Prf.cond at h1;rw[hu',hlit k hk]at h1
      have h2:hasU s.r (xs.getD k 0)=true:=by
       unfold hasU;rw[List.any_eq_true];refine⟨[xs.getD k 0],?_,by simp⟩;rw[hr0,zbd,zb5];have h3:=hu.hd k hk;rw[zbd,zb5]at h3;obtain⟨c,hc,hx,e⟩:=h3
       have hxk:xs.getD k 0∉S:=fun h=>by
        obtain⟨j,hj,hj',e'⟩:=(hS _).1 h;have:=hxinj k j hk hj e';subst this;rw[hu']at hj';simp at hj'
       have hsub:∀y∈xs.take k,y∈S:=fun y hy=>by
        obtain⟨j,hj,rfl⟩:=List.getElem_of_mem hy
        have hj2:j<k:=by rw[List.length_take]at hj;omega
        refine(hS _).2 ⟨j,by omega,ih j hj2 (by omega),?_⟩;rw[List.getD_eq_getElem?_getD,List.getElem?_eq_getElem (by omega)];simp
       have e2:∀y∈c,y∈xs->y=xs.getD k 0:=fun y hy hyx=>by
        have:y∈[xs.getD k 0]:=by
         rw[e];refine List.mem_filter.2 ⟨hy,?_⟩
         have:-y∉xs.take k:=fun h=>hT.nt hn hyx (List.mem_of_mem_take h)
         simpa using this
        simpa using this
       refine⟨c,hc,fun y hy hyS=>hxk (e2 y hy (hSx y hyS)▸hyS),?_⟩
       have e3:(c.filter fun y=>!S.contains (-y))=(c.filter fun y=>!(xs.take k).contains (-y)).filter fun y=>!S.contains (-y):=by
        rw[List.filter_filter]
        apply List.filter_congr
        intro y _
        cases hm:(xs.take k).contains (-y)with
        |false=>simp
        |true=>
          have:=hsub _ (List.contains_iff_mem.1 hm)
          simp[this]
       rw[e3,<-e]
       have h4:-(xs.getD k 0)∉S:=fun h=>hT.nt hn (hxm k hk) (hSx _ h)
       rw[List.filter_cons_of_pos (by simpa using h4)];rfl
      rw[h2]at h1;simp at h1
 have hrL:s.r=L:=by
  rw[hr0,hu.end'];refine zxk (fun x=>?_) l;rw[hS x]
  constructor
  ·rintro⟨k,hk,_,rfl⟩;exact hxm k hk
  intro hx;obtain⟨k,hk,rfl⟩:=List.getElem_of_mem hx;exact⟨k,hk,hall k hk,by rw[List.getD_eq_getElem?_getD,List.getElem?_eq_getElem hk];rfl⟩
 have hLl:L.length<=4096:=by
  rw[hu.end'];exact Nat.le_trans (zbc _) (Nat.le_trans (zi4 _ _) hl)
 have hf0:∀k,k<=xs.length->p.fall (zaf (js++rest)) s.used k=some []:=fun k=>by
  induction k with
  |zero=>intro _;rfl
  |succ k ih=>
    intro hk;rw[zi1,ih (by omega)]
    show p.fone _ _ _ _=_
    unfold Prf.fone;rw[hall k (by omega),if_pos rfl]
 unfold Prf.fit;rw[hs];unfold Prf.fend;rw[hlen]
 rcases hr with⟨i,L',rfl,hL',htag,c,hc,e⟩|⟨hL2,hrl,htag⟩
 ·have h1:p.fall (zaf (js++[i])) s.used (xs.length+[i].length)=some L:=by
   show p.fall (zaf (js++[i])) s.used (xs.length+1)=_
   rw[zi1,hf0 _ (Nat.le_refl _)]
   show p.fone _ _ _ _=_
   unfold Prf.fone;have:=hSr 0 (by simp);rw[Nat.add_zero]at this;rw[this,if_neg (by simp)];have hk:=hrk 0 (by simp);have hg2:=hget2 0 (by simp);rw[Nat.add_zero]at hk hg2;rw[hg2]at hk⊢;rw[show([i]:List Nat).getD 0 0=i from rfl]at hk⊢;rw[hres i L htag];simp only
   rw[decide_eq_false hk,zn6 (fun v⟨a,_⟩=>by
    obtain⟨c,hc,_⟩:=zbf.1 a;simp at hc)]
   simp[zu6 hL.so]
  rw[h1];simp only;rw[(zms hn).2 (gL.ok hn hL.gc hLl),zoc hn hL,hrL];simp
 have h1:∀k,k<=rest.length->p.fall (zaf (js++rest)) s.used (xs.length+k)=some ((zaj L).take k).flatten:=fun k=>by
  induction k with
  |zero=>intro _;rw[Nat.add_zero,hf0 _ (Nat.le_refl _)];simp
  |succ k ih=>
    intro hk;rw[<-Nat.add_assoc,zi1,ih (by omega)]
    show p.fone _ _ _ _=_
    unfold Prf.fone;rw[hSr k (by omega),if_neg (by simp)];have hk':=hrk k (by omega);rw[hget2 k (by omega)]at hk'⊢;rw[hres _ _ (htag k (by omega)).1];simp only
    have hks:k<(zaj L).length:=by omega
    have egd:(zaj L).getD k []=(zaj L)[k]:=by rw[List.getD_eq_getElem?_getD,List.getElem?_eq_getElem hks];rfl
    have hpm:(zaj L)[k]∈zaj L:=List.getElem_mem hks
    rw[egd,decide_eq_false hk',zn6 (fun v⟨a,b⟩=>by
     obtain⟨d,hd,hdv⟩:=zbf.1 a;obtain⟨q,hq,hdq⟩:=List.mem_flatten.1 hd;obtain⟨j,hj,rfl⟩:=List.getElem_of_mem hq;rw[List.length_take]at hj;have h2:=List.pairwise_iff_getElem.1 (zm3 L) j k (by omega) hks (by omega) v;rw[List.getElem_take]at hdq
     exact h2 ⟨zbf.2 ⟨d,hdq,hdv⟩,b⟩)]
    simp only[Bool.or_self,Bool.false_eq_true,if_false]
    rw[zrb (fun c hc e=>by
     have:=hL2 c ((zda hL.gc hpm).2.2 c hc)
     rw[e]at this;simp at this),List.take_succ_eq_append_getElem hks,List.flatten_append]
    simp
 rw[h1 _ (Nat.le_refl _),hrl,List.take_length];simp only
 have hm:∀d,d∈(zaj L).flatten↔d∈L:=fun d=>by
  rw[List.mem_flatten,<-zct (l:=L)]
 have hgc:∀c∈(zaj L).flatten,gC p.n c:=fun c hc=>hL.gc c ((hm c).1 hc)
 rw[(zms hn).2 (gL.ok hn hgc (Nat.le_trans (zv4 L) hLl)),hrL];simp only[Bool.true_and,decide_eq_true_eq]
 refine zbx (fun _ _=>zce) hL.so (za0 _) fun d=>?_
 show _↔d∈zaa p.n _
 rw[zdi]
 constructor
 ·intro hd;exact⟨d,(hm d).2 hd,(hL.gc d hd).taut,(zc8 hn (hL.gc d hd)).symm⟩
 rintro⟨c,hc,_,rfl⟩;rw[zc8 hn (hgc c hc)];exact(hm c).1 hc
end
theorem zkn(gs:List (List Cl×St)):∀(acc:List (List Cl×St)×List Cl×St),
 (gs.foldl (fun acc g=>if g.2.cut acc.2.2≠St.zero then(acc.1,acc.2.1++g.1,acc.2.2.union g.2)else(acc.1++[g],acc.2.1,acc.2.2)) acc).1.length<=acc.1.length+gs.length:=by
 induction gs with
 |nil=>intro acc;simp
 |cons g gs ih=>
   intro acc;rw[List.foldl_cons];refine Nat.le_trans (ih _) ?_
   split
   ·simp
   simp;omega
theorem zhu(l:List Cl):(zaj l).length<=l.length:=by
 have:∀gs,(l.foldl za5 gs).length<=gs.length+l.length:=by
  induction l with
  |nil=>intro gs;simp
  |cons c l ih=>
    intro gs;rw[List.foldl_cons];refine Nat.le_trans (ih _) ?_;have h:=zkn gs ([],[],zdn c);unfold za5 zdt;simp at h⊢;omega
 have:=this [];unfold zaj zdg
 simpa using this
theorem Fit.len{st:List Nc}{l:List Cl}{ins:List Nat}(h:Fit st l ins){n:Nat}(hn:n<=128)(hg:gL n l):ins.length<=n+l.length+1:=by
 obtain⟨xs,js,rest,L,rfl,hT,hu,hL,hv,hr⟩:=h.units hn hg;have h1:=hT.len hn;have h2:=hu.len
 have h3:L.length<=l.length:=by
  rw[hu.end'];exact Nat.le_trans (zbc _) (zi4 _ _)
 rw[List.length_append]
 rcases hr with⟨i,L',rfl,_⟩|⟨_,h4,_⟩
 ·simp;omega
 have:=zhu L;omega
def Prf.pos(p:Prf)(ins:List Int)(x:Int):Option Nat:=(List.range ins.length).find? fun k=>decide ((nd p.N (ins.getD k 0)).kind=2)&&decide ((nd p.N (ins.getD k 0)).lit=x)
def Prf.side(p:Prf)(r:List Cl)(i x:Int):Bool:=
 if(nd p.N i).kind=2 then decide ((nd p.N i).lit=x)&&decide (zaa p.n (givT [x] r)=[])
 else if(nd p.N i).kind=3 then match p.pos (nd p.N i).ins x with
  |some k=>p.fit (zaa p.n (givT [x] r)) ((nd p.N i).ins.take k++(nd p.N i).ins.drop (k+1))
  |none=>false
 else false
def Prf.onv(p:Prf)(r:List Cl)(a b:Int)(v:Int):Bool:=(zhi p.n r).mem v&&((p.side r a v&&p.side r b (-v))||(p.side r a (-v)&&p.side r b v))
def Prf.acc(p:Prf)(i:Int)(r:List Cl):Bool:=
 if(nd p.N i).kind=1 then decide (r=[])else if(nd p.N i).kind=0 then zbm r else if(nd p.N i).kind=2 then decide (r.length=1)&&hasU r (nd p.N i).lit
 else if(nd p.N i).kind=3 then p.fit r (nd p.N i).ins
 else decide ((nd p.N i).ins.length=2)&&(List.range p.n).any fun(j:Nat)=>p.onv r ((nd p.N i).ins.getD 0 0) ((nd p.N i).ins.getD 1 0) ((j:Int)+1)
def zdh(N:List Nd)(i k:Int):Bool:=N.any fun x=>x.ins.any (fun y=>decide (y=i))&&decide (x.kind=k)
def zp4(N:List Nd)(i:Nat):Bool:=decide (i+1=N.length)||(decide ((nd N (i:Int)).kind≠2)&&zdh N i 3)
structure Prf.node(p:Prf)(i:Nat):Prop where
 use:zp4 p.N i=true\/(nd p.N (i:Int)).kind=2\/((nd p.N (i:Int)).kind=3/\zdh p.N i 4=true)
 acc:zp4 p.N i=true->∃r,p.res i=some r/\p.acc i r=true/\(i+1=p.N.length->r=zaa p.n p.t)
section
variable{p:Prf}{st:List Nc}(hn:p.n<=128)(hnd:∀(i:Nat)(c:Nc),st[i]?=some c->nd p.N (i:Int)=c.nd)(hres:∀(i:Nat)(l:List Cl),tagged st i l->p.res (i:Int)=some l)
include hn hnd hres
theorem zmy{l:List Cl}{x:Int}{i:Nat}(h:Side st l x i)(hg:gL p.n l)(hl:l.length<=4096):p.side l i x=true:=by
 unfold Prf.side;rw[zzm hn hg.gc]
 rcases h with⟨h1,c,hc,e⟩|⟨h1,c,k,ins,hc,e,_,⟨d,hd,ek⟩,hF,_,_⟩
 ·rw[hnd _ c hc,e];simp[h1]
 rw[hnd _ c hc,e];simp only[show¬((3:Int)=2)by decide,if_false,if_true]
 have hp:p.pos (zaf (k::ins)) x=some 0:=by
  unfold Prf.pos;have e0:(zaf (k::ins)).getD 0 0=(k:Int):=rfl
  have:List.range (zaf (k::ins)).length=0::(List.range ins.length).map Nat.succ:=by simp[zaf,List.range_succ_eq_map]
  rw[this,List.find?_cons_of_pos (by rw[e0,hnd _ d hd,ek];simp)]
 rw[hp]
 show p.fit _ (List.take 0 (zaf (k::ins))++List.drop 1 (zaf (k::ins)))=true
 have e1:List.take 0 (zaf (k::ins))++List.drop 1 (zaf (k::ins))=zaf ins:=by simp[zaf]
 rw[e1];refine zzj hn hnd hres hF (zbh hg.gc x) ?_;unfold zah;refine Nat.le_trans (zbc _) ?_;rw[List.length_map];exact Nat.le_trans (List.length_filter_le _ _) hl
end
def zcl(F:List Nc×List Nat)(all:List Cl):Bool:=decide (1<F.2.length)||(decide (1<all.length)&&decide ((nd (nds F.1) (F.2.getD 0 0:Nat)).kind=2))
def capF(F:List Nc×List Nat)(all:List Cl):List Nc:=
 if zcl F all then F.1++[⟨⟨3,0,zaf F.2⟩,some (all,[])⟩]else F.1.set (F.1.length-1) ⟨nd (nds F.1) (F.1.length-1:Nat),some (all,[])⟩
def zak(ch:List Cl->Int)(cache:Bool)(all:List Cl):List Nc×List Nat:=fitF ch cache (card (zae all)+1) [] all []
def zad(ch:List Cl->Int)(cache:Bool)(n:Nat)(t:List Cl):List Nc:=
 if zaa n t=[]then[⟨⟨1,0,[]⟩,some ([],[])⟩]else capF (zak ch cache (zaa n t)) (zaa n t)
theorem zod{n:Nat}{t:List Cl}:RT n t (zaa n t) []:=⟨gT.nil n,fun d hd=>by
 obtain⟨c,hc,ht,rfl⟩:=zdi.1 hd;obtain⟨j,hj,rfl⟩:=List.getElem_of_mem hc
 have e:t.getD j []=t[j]:=by rw[List.getD_eq_getElem?_getD,List.getElem?_eq_getElem hj];rfl
 refine⟨(j:Int),j,hj,rfl,by rw[e];exact ht,by simp,?_⟩
 rw[e,List.filter_eq_self.2 (fun y _=>by simp)]⟩
theorem zco(n:Nat)(t:List Cl):(zaa n t).length<=t.length:=by
 unfold zaa;refine Nat.le_trans (zbc _) ?_;rw[List.length_map];exact List.length_filter_le _ _
structure Core(ch:List Cl->Int)(n:Nat)(t:List Cl)(cache:Bool)(all:List Cl)(F:List Nc×List Nat):Prop where
 inv:InvR ch (RT n t) cache n F.1
 fit:Fit F.1 all F.2
 few:F.1.countP zbk<=FB (card (zae all))
 use:∀i c,F.1[i]?=some c->UsdC F.1 i c\/(i∈F.2/\c.nd.kind≠3)
 one:∀i,F.2=[i]->i+1=F.1.length
theorem zjp{cache:Bool}{l:List Cl}{term:Cl}{mk:List Nc->List Nc×Nd}:(zan cache [] l term mk).2+1=(zan cache [] l term mk).1.length:=by
 unfold zan
 have:(if cache=true then([]:List Nc).findIdx? (zbt l)else none)=none:=by cases cache<;>rfl
 rw[this];simp
theorem zhg:∀(f:Nat)(u:Us),u.ins.length<=(zaq f u).ins.length/\((zaq f u).ins.length=u.ins.length->zaq f u=u)
 |0,u=>⟨Nat.le_refl _,fun _=>rfl⟩
 |f+1,⟨st,l,term,ins⟩=>by
   match l with
   |[x]::l=>
     have h:=zhg f ⟨(litF st x).1,zah ([x]::l) x,term++[x],ins++[(litF st x).2]⟩;have e:zaq (f+1) ⟨st,[x]::l,term,ins⟩=zaq f ⟨(litF st x).1,zah ([x]::l) x,term++[x],ins++[(litF st x).2]⟩:=rfl;rw[e];have h1:=h.1;simp only[List.length_append,List.length_cons,List.length_nil]at h1;exact⟨by simp only;omega,fun h=>by simp only at h;omega⟩
   |[]=>exact⟨Nat.le_refl _,fun _=>rfl⟩
   |[]::l=>exact⟨Nat.le_refl _,fun _=>rfl⟩
   |(x::y::c)::l=>exact⟨Nat.le_refl _,fun _=>rfl⟩
theorem ztc(f:Nat)(l:List Cl)(term:Cl){i:Nat}(h:(zaq f ⟨[],l,term,[]⟩).ins=[i]):i+1=(zaq f ⟨[],l,term,[]⟩).st.length:=by
 match f,l with
 |0,l=>simp[zaq]at h
 |f+1,[x]::l=>
   have e:zaq (f+1) ⟨[],[x]::l,term,[]⟩=zaq f ⟨(litF [] x).1,zah ([x]::l) x,term++[x],[]++[(litF [] x).2]⟩:=rfl;rw[e]at h⊢;have h1:=(zhg f ⟨(litF [] x).1,zah ([x]::l) x,term++[x],[]++[(litF [] x).2]⟩).2 (by rw[h];rfl);rw[h1]at h⊢;simp only[List.nil_append,List.cons.injEq,and_true]at h;rw[<-h];rfl
 |f+1,[]=>simp[zaq]at h
 |f+1,[]::l=>simp[zaq]at h
 |f+1,(x::y::c)::l=>simp[zaq]at h
theorem zg9(cache:Bool)(dec:List Nc->List Cl->List Nc×Nd)(term:Cl):∀(ps:List (List Cl))(acc:List Nc×List Nat),(za7 cache dec term ps acc).2.length=acc.2.length+ps.length
 |[],acc=>rfl
 |p::ps,acc=>by
   have e:za7 cache dec term (p::ps) acc=za7 cache dec term ps ((zan cache acc.1 p term fun s=>dec s p).1,acc.2++[(zan cache acc.1 p term fun s=>dec s p).2]):=rfl;rw[e,zg9 cache dec term ps];simp;omega
theorem zxf(ch:List Cl->Int)(cache:Bool)(f:Nat)(l:List Cl)(term:Cl){i:Nat}(h:(fitF ch cache (f+1) [] l term).2=[i]):i+1=(fitF ch cache (f+1) [] l term).1.length:=by
 rw[fitF]at h⊢;have hU1:=ztc l.length l term (i:=i);have hU2:=(zhg l.length ⟨[],l,term,[]⟩).2;generalize zaq l.length ⟨[],l,term,[]⟩=U at*
 split at h
 ·rename_i he
  rw[if_pos he]
  have h0:U.ins=[]:=by
   simpa using congrArg List.length h
  have hU:=hU2 (by simp[h0]);rw[h0]at h;simp only[List.nil_append,List.cons.injEq,and_true]at h;rw[<-h];rw[hU];exact zjp
 rename_i he
 rw[if_neg he];have hl:=zg9 cache (fun s part=>zav (fitF ch cache f) ch s part U.term) U.term (zaj U.l) (U.st,U.ins);rw[h]at hl;simp only[List.length_cons,List.length_nil]at hl
 rcases hs:zaj U.l with _|⟨q,qs⟩
 ·rw[hs]at h;exact hU1 h
 rw[hs]at hl h;simp only[List.length_cons]at hl;have h0:U.ins=[]:=List.eq_nil_of_length_eq_zero (by omega);have hq:qs=[]:=List.eq_nil_of_length_eq_zero (by omega);have hU:=hU2 (by simp[h0]);subst hq;have e:za7 cache (fun s part=>zav (fitF ch cache f) ch s part U.term) U.term [q] (U.st,U.ins)=((zan cache U.st q U.term fun s=>zav (fitF ch cache f) ch s q U.term).1,U.ins++[(zan cache U.st q U.term fun s=>zav (fitF ch cache f) ch s q U.term).2]):=rfl;rw[e]at h⊢;rw[h0]at h;simp only[List.nil_append,List.cons.injEq,and_true]at h;rw[<-h]
 have e2:U.st=[]:=by rw[hU]
 rw[e2];exact zjp
theorem core{ch:List Cl->Int}{n:Nat}(hn:n<=128)(hch:Chooses ch n){t:List Cl}(ht:tOk n t)(cache:Bool):Core ch n t cache (zaa n t) (zak ch cache (zaa n t)):=by
 have hg:=za2 hn ht.rg;obtain⟨r,h1,h2,h3,h4,h5⟩:=zdw (R:=RT n t) (cache:=cache) hn (zb0 hn t) hch (card (zae (zaa n t))+1) [] (zaa n t) [] ⟨Inv.nil n,fun i c l t h=>by simp at h,fun i j x⟨c,h,_⟩=>by simp at h,fun _ i j l⟨c,t,h,_⟩=>by simp at h⟩ hg zod (Nat.lt_succ_self _);obtain⟨q,k1,k2⟩:=znw ch cache (card (zae (zaa n t))+1) [] (zaa n t) [];rw[List.nil_append]at h1 h2 h3 k1 k2;unfold zak
 exact⟨by rw[h1];exact h2,by rw[h1];exact h3,by rw[h1];exact h4,fun i c hc=>by
  rw[k1]at hc⊢;exact k2 i c (Nat.zero_le _) hc,fun i hi=>zxf ch cache _ _ _ hi⟩
theorem Fit.ne{st:List Nc}{l:List Cl}{ins:List Nat}(h:Fit st l ins)(hl:l≠[]):ins≠[]:=by
 cases h with
 |unit a b=>simp
 |bad a b=>simp
 |parts a b c=>
   intro e;subst e;have h0:zaj l=[]:=List.eq_nil_of_length_eq_zero (by simpa using b.symm)
   cases l with
   |nil=>exact hl rfl
   |cons d m=>
     obtain⟨p,hp,_⟩:=zct.2 (List.mem_cons_self:d∈d::m);rw[h0]at hp;simp at hp
theorem Fit.kind{ch:List Cl->Int}{n:Nat}{st:List Nc}(hi:Inv ch n st){l:List Cl}{ins:List Nat}(h:Fit st l ins):∀j∈ins,∃c,st[j]?=some c/\c.nd.kind≠3:=by
 induction h with
 |unit a _ ih=>
   intro j hj
   rcases List.mem_cons.1 hj with rfl|hj
   ·obtain⟨c,hc,e⟩:=a;exact⟨c,hc,by rw[e];simp⟩
   exact ih j hj
 |bad a b=>intro j hj;simp at hj;subst hj;obtain⟨c,hc,e⟩:=b;exact⟨c,hc,by rw[e];simp⟩
 |@parts l ins a b c=>
   intro j hj;obtain⟨k,hk,rfl⟩:=List.getElem_of_mem hj;obtain⟨_,d,hd,e⟩:=c k hk
   have e1:ins.getD k 0=ins[k]:=by rw[List.getD_eq_getElem?_getD,List.getElem?_eq_getElem hk];rfl
   rw[e1]at hd;exact⟨d,hd,by rw[e];simp⟩
theorem zvj{ch:List Cl->Int}{n:Nat}{st:List Nc}(hi:Inv ch n st){j:Nat}{c:Nc}(hc:st[j]?=some c)(hk:c.nd.kind=3):∀d∈st,(j:Int)∈d.nd.ins->d.nd.kind≠3:=by
 intro d hd hm h3;obtain⟨i,hi',rfl⟩:=List.getElem_of_mem hd;have hf:=hi i _ (List.getElem?_eq_getElem hi');generalize st[i]=d at*
 cases hf with
 |lit a b=>simp at h3
 |bad a=>simp at h3
 |dec=>simp at h3
 |@and l x k ins a b c' d' e f=>
   simp only[zaf,List.mem_map]at hm;obtain⟨m,hm,e'⟩:=hm
   have:m=j:=by omega
   subst this
   rcases List.mem_cons.1 hm with rfl|hm
   ·obtain⟨y,hy,ey⟩:=d';rw[hc]at hy;simp at hy;subst hy;rw[ey]at hk;simp at hk
   obtain⟨y,hy,ey⟩:=f.kind hi m hm;rw[hc]at hy;simp at hy;subst hy;exact ey hk
theorem zfx{ch:List Cl->Int}{n:Nat}{st:List Nc}(hi:Inv ch n st){i:Nat}{l:List Cl}(h:tagged st i l):gL n l/\l≠[]:=by
 obtain⟨c,t,hc,e⟩:=h;have hf:=hi i c hc
 cases hf with
 |lit a b=>rw[b]at e;simp at e
 |bad a=>simp at e;rw[<-e.1];exact⟨a,by simp⟩
 |dec a b=>simp at e;rw[<-e.1];exact⟨a,b⟩
 |and=>simp at e
theorem zi7{N:List Nd}{j k:Int}{x:Nd}(hx:x∈N)(hm:j∈x.ins)(hk:x.kind=k):zdh N j k=true:=by
 unfold zdh;rw[List.any_eq_true];exact⟨x,hx,by rw[hk];simp only[decide_true,Bool.and_true,List.any_eq_true,decide_eq_true_eq];exact⟨j,hm,rfl⟩⟩
theorem zk4{N:List Nd}{j k:Int}:zdh N j k=true↔∃x∈N,j∈x.ins/\x.kind=k:=by
 unfold zdh;rw[List.any_eq_true]
 constructor
 ·rintro⟨x,hx,h⟩;simp only[Bool.and_eq_true,List.any_eq_true,decide_eq_true_eq]at h;obtain⟨⟨y,hy,rfl⟩,h⟩:=h;exact⟨x,hx,hy,h⟩
 rintro⟨x,hx,hm,hk⟩;have:=zi7 hx hm hk;unfold zdh at this;rw[List.any_eq_true]at this;exact this
theorem zlf{ch:List Cl->Int}{p:Prf}{st:List Nc}(hn:p.n<=128)(hnd:∀(i:Nat)(c:Nc),st[i]?=some c->nd p.N (i:Int)=c.nd)(hres:∀(i:Nat)(l:List Cl),tagged st i l->p.res (i:Int)=some l)(hinv:Inv ch p.n st)(hlen:∀i l,tagged st i l->l.length<=4096)
 (hmem:∀c∈st,c.nd∈p.N){j:Nat}{c:Nc}(hc:st[j]?=some c)(hj:j+1≠p.N.length)(hno:c.nd.kind=3->zdh p.N j 3=false)(hu:UsdC st j c\/(zdh p.N j 3=true/\c.nd.kind≠3)):p.node j:=by
 have hndj:=hnd j c hc
 have hus:∀k,usedBy st j k->zdh p.N j k=true:=fun k⟨d,hd,h1,h2⟩=>zi7 (hmem d hd) h1 h2
 have hneed:zp4 p.N j=(decide (c.nd.kind≠2)&&zdh p.N j 3):=by
  unfold zp4;rw[hndj,decide_eq_false hj,Bool.false_or]
 have hf:=hinv j c hc
 cases hf with
 |@lit x t a b=>
   refine⟨.inr (.inl (by rw[hndj])),fun h=>?_⟩;rw[hneed]at h;simp at h
 |@bad l t a=>
   have h3:zdh p.N j 3=true:=by
    rcases hu with(h|⟨h,_⟩|h)|⟨h,_⟩
    ·simp at h
    ·simp at h
    ·exact hus _ h
    exact h
   have htag:tagged st j ([]::l):=⟨_,t,hc,rfl⟩
   refine⟨.inl (by rw[hneed,h3];simp),fun _=>⟨_,hres _ _ htag,?_,fun h=>absurd h hj⟩⟩;unfold Prf.acc;rw[hndj];simp[zbm]
 |@dec l t a b g1 g2 g3 g4 g5 g6 g7 g8 s1 s2=>
   have h3:zdh p.N j 3=true:=by
    rcases hu with(h|⟨h,_⟩|h)|⟨h,_⟩
    ·simp at h
    ·simp at h
    ·exact hus _ h
    exact h
   have htag:tagged st j l:=⟨_,t,hc,rfl⟩
   have hl:=hlen _ _ htag;refine⟨.inl (by rw[hneed,h3];simp),fun _=>⟨_,hres _ _ htag,?_,fun h=>absurd h hj⟩⟩;unfold Prf.acc;rw[hndj];simp only[show¬((4:Int)=1)by decide,show¬((4:Int)=0)by decide,show¬((4:Int)=2)by decide,show¬((4:Int)=3)by decide,if_false,List.length_cons,List.length_nil,Bool.and_eq_true,decide_eq_true_eq,List.any_eq_true,List.mem_range];refine⟨trivial,(ch l-1).toNat,by omega,?_⟩;rw[show(((ch l-1).toNat:Nat):Int)+1=ch l by omega];unfold Prf.onv
   have hv:(zhi p.n l).mem (ch l)=true:=by unfold zhi;rw[if_pos ((zms hn).2 (gL.ok hn g1.gc hl))];exact g6
   have e1:=zmy hn hnd hres s1 g1 hl;have e2:=zmy hn hnd hres s2 g1 hl
   show((zhi p.n l).mem (ch l)&&((p.side l (a:Int) (ch l)&&p.side l (b:Int) (-ch l))||(p.side l (a:Int) (-ch l)&&p.side l (b:Int) (ch l))))=true
   rw[hv,e1,e2];simp
 |@and l x k ins a b c' d e f=>
   have h3:=hno rfl;refine⟨.inr (.inr ⟨by rw[hndj],?_⟩),fun h=>by rw[hneed,h3]at h;simp at h⟩
   rcases hu with(h|⟨_,h⟩|h)|⟨h,_⟩
   ·simp at h
   ·exact hus _ h
   ·have:=hus _ h;rw[h3]at this;simp at this
   rw[h3]at h;simp at h
theorem zsu(st r:List Nc):nds (st++r)=nds st++nds r:=by simp[nds]
theorem zat(st:List Nc):(nds st).length=st.length:=by simp[nds]
theorem zeu{st:List Nc}{k:Nat}{tg:Option (List Cl×Cl)}:nds (st.set k ⟨nd (nds st) (k:Nat),tg⟩)=nds st:=by
 apply List.ext_getElem
 ·simp[nds]
 intro i h1 h2
 have h3:i<st.length:=by rw[zat]at h2;exact h2
 simp only[nds,List.getElem_map,List.getElem_set]
 split
 ·rename_i e
  subst e;exact zc0 (List.getElem?_eq_getElem h3)
 rfl
theorem zrv{ch:List Cl->Int}{n:Nat}{t:List Cl}{cache:Bool}{all:List Cl}{F:List Nc×List Nat}(hC:Core ch n t cache all F)(hg:gL n all)(hne:all≠[])(hr:zcl F all=false):
 ∃i c,F.2=[i]/\i+1=F.1.length/\F.1[i]?=some c/\((∃x,all=[[x]]/\c.nd=⟨2,x,[]⟩/\c.tag=none)\/(∃tm,c.tag=some (all,tm)/\((c.nd=⟨0,0,[]⟩/\zbm all=true)\/c.nd.kind=4))):=by
 unfold zcl at hr;simp only[Bool.or_eq_false_iff,Bool.and_eq_false_iff,decide_eq_false_iff_not]at hr;obtain⟨h1,h2⟩:=hr;have h0:=hC.fit.ne hne
 obtain⟨i,hi⟩:∃i,F.2=[i]:=by
  rcases hF:F.2 with _|⟨i,_|⟨j,l⟩⟩
  ·exact absurd hF h0
  ·exact⟨i,rfl⟩
  rw[hF]at h1;simp at h1
 have hil:=hC.one i hi;have hfit:=hC.fit;rw[hi]at hfit;have hc:F.1[i]?=some (F.1[i]'(by omega)):=List.getElem?_eq_getElem _;refine⟨i,_,hi,hil,hc,?_⟩;generalize F.1[i]'(by omega)=c at*;have hform:=hC.inv.inv i c hc;rw[hi,show([i]:List Nat).getD 0 0=i from rfl,zc0 hc]at h2
 cases hfit with
 |@unit x l _ _ a b=>
   left
   obtain⟨d,hd,e⟩:=a;rw[hc]at hd;simp at hd;subst hd
   have hl:l=[]:=by
    rcases h2 with h2|h2
    ·exact List.eq_nil_of_length_eq_zero (by simp only[List.length_cons]at h2;omega)
    rw[e]at h2;simp at h2
   subst hl;refine⟨x,rfl,e,?_⟩;obtain⟨nd',tg⟩:=c;simp only at e;subst e
   cases hform with
   |lit a b=>exact b
 |@bad l _ a b=>
   right
   obtain⟨d,tm,hd,e⟩:=a;rw[hc]at hd;simp at hd;subst hd;obtain⟨d',hd',e'⟩:=b;rw[hc]at hd';simp at hd';subst hd';exact⟨tm,e,.inl ⟨e',rfl⟩⟩
 |@parts _ _ a b c'=>
   right
   have hk:=c' 0 (by simp);rw[show([i]:List Nat).getD 0 0=i from rfl]at hk;obtain⟨⟨d,tm,hd,e⟩,d',hd',e'⟩:=hk;rw[hc]at hd hd';simp at hd hd';subst hd; 
   obtain⟨q,hq⟩:∃q,zaj all=[q]:=by
    rcases hS:zaj all with _|⟨q,_|⟨q',qs⟩⟩
    ·rw[hS]at b;simp at b
    ·exact⟨q,rfl⟩
    rw[hS]at b;simp at b
   have hqa:q=all:=by
    have hqm:q∈zaj all:=by rw[hq];simp
    refine zbx (fun _ _=>zce) (zda hg.gc hqm).1.so hg.so fun d=>?_
    constructor
    ·intro h;exact(zda hg.gc hqm).2.2 d h
    intro h;obtain⟨q',hq',hd⟩:=zct.2 h;rw[hq]at hq';simp at hq';subst hq';exact hd
   rw[hq]at e;refine⟨tm,by rw[e,<-hqa];rfl,.inr (by rw[hd'];exact e')⟩
theorem zj8{n:Nat}(hn:n<=128){l:List Cl}(hg:∀c∈l,∀x∈c,litN n x):card (zae l)<=n:=zo3 hn fun v hv hm=>by
 obtain⟨c,hc,h⟩:=zbf.1 hm;obtain⟨h1,y,hy,rfl⟩:=zd3.1 h;exact((hg c hc y hy).ok hn).2
theorem zrf{ch:List Cl->Int}{R:List Cl->Cl->Prop}{n:Nat}{cache:Bool}{st:List Nc}(hi:InvR ch R cache n st):st.length<=st.countP zbk+2*n:=by
 have h1:st.length=st.countP zbk+st.countP (fun c=>!zbk c):=by
  have:=List.length_eq_countP_add_countP zbk (l:=st);rw[this];congr 1
  apply List.countP_congr;intro c _;simp
 have h2:(st.filter fun c=>!zbk c).length<=2*n:=by
  have hnod:(((st.filter fun c=>!zbk c).map fun c=>c.nd.lit)).Nodup:=by
   show List.Pairwise _ _
   rw[List.pairwise_map,List.pairwise_filter];rw[List.pairwise_iff_getElem];intro i j hi' hj' hij h1 h2 e;have a1:=hi.inv i _ (List.getElem?_eq_getElem hi');have a2:=hi.inv j _ (List.getElem?_eq_getElem hj')
   have b1:isLit st i st[i].nd.lit:=⟨_,List.getElem?_eq_getElem hi',by
    generalize st[i]=c at*;unfold zbk at h1
    cases a1<;>simp at h1⊢⟩
   have b2:isLit st j st[i].nd.lit:=⟨_,List.getElem?_eq_getElem hj',by
    rw[e];generalize st[j]=c at*;unfold zbk at h2
    cases a2<;>simp at h2⊢⟩
   have:=hi.dl i j _ b1 b2;omega
  have hz:∀c∈st.filter fun c=>!zbk c,c.nd.lit≠0:=fun c hc=>by
   rw[List.mem_filter]at hc;obtain⟨k,hk,rfl⟩:=List.getElem_of_mem hc.1;have a:=hi.inv k _ (List.getElem?_eq_getElem hk);have hb:=hc.2;generalize st[k]=c at*;unfold zbk at hb
   cases a with
   |lit a b=>exact a.1
   |bad a=>simp at hb
   |dec=>simp at hb
   |and=>simp at hb
  have:(0::((st.filter fun c=>!zbk c).map fun c=>c.nd.lit)).Nodup:=by
   rw[List.nodup_cons];exact⟨fun h=>by obtain⟨c,hc,e⟩:=List.mem_map.1 h;exact hz c hc e,hnod⟩
  have hl2:((0::((st.filter fun c=>!zbk c).map fun c=>c.nd.lit)).map fun(y:Int)=>y+n).length<=2*n+1:=by
   refine zb7 ?_ fun y hy=>?_
   ·show List.Pairwise _ _
    have h3:List.Pairwise _ _:=this;rw[List.pairwise_map]
    exact h3.imp fun h e=>h (by omega)
   obtain⟨z,hz',rfl⟩:=List.mem_map.1 hy
   rcases List.mem_cons.1 hz' with rfl|hz'
   ·omega
   obtain⟨c,hc,rfl⟩:=List.mem_map.1 hz';rw[List.mem_filter]at hc;obtain⟨k,hk,rfl⟩:=List.getElem_of_mem hc.1;have a:=hi.inv k _ (List.getElem?_eq_getElem hk);have hb:=hc.2;generalize st[k]=c at*;unfold zbk at hb
   cases a with
   |lit a b=>have:=a.2;simp only;omega
   |bad a=>simp at hb
   |dec=>simp at hb
   |and=>simp at hb
  simp at hl2
  simp
  omega
 rw[List.countP_eq_length_filter (p:=fun c=>!zbk c)]at h1;omega
end Cen
