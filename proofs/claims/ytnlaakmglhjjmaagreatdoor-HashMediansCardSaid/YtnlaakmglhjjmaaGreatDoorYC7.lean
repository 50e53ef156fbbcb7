/- Parts of the proofs of laws. Texts: CpS. -/
import Derived.Test.YtnlaakmglhjjmaaGreatDoorYC6
set_option maxHeartbeats 8000000
set_option maxRecDepth 100000
set_option linter.all false
namespace Cen
structure InvR(ch:List Cl->Int)(R:List Cl->Cl->Prop)(cache:Bool)(n:Nat)(st:List Nc):Prop where
 inv:Inv ch n st
 tg:∀(i:Nat)(c:Nc)(l:List Cl)(t:Cl),st[i]?=some c->c.tag=some (l,t)->R l t
 dl:∀i j x,isLit st i x->isLit st j x->i=j
 sh:cache=true->∀i j l,tagged st i l->tagged st j l->i=j
structure Closed(R:List Cl->Cl->Prop)(n:Nat):Prop where
 given:∀l t x,R l t->gL n l->litN n x->(zae l).mem (zac x)=true->R (zah l x) (t++[x])
 split:∀l t p,R l t->gL n l->p∈zaj l->R p t
structure Chooses(ch:List Cl->Int)(n:Nat):Prop where
 ch:∀l,gL n l->l≠[]->(∀c∈l,2<=c.length)->1<=ch l/\ch l<=n/\(zae l).mem (ch l)=true
section
variable{ch:List Cl->Int}{R:List Cl->Cl->Prop}{cache:Bool}{n:Nat}
def zbk(c:Nc):Bool:=decide (c.nd.kind≠2)
def Under(st r:List Nc)(l:List Cl):Prop:=∀i l',st.length<=i->tagged (st++r) i l'->∀v,(zae l').mem v=true->(zae l).mem v=true
theorem Under.nil(st:List Nc)(l:List Cl):Under st [] l:=fun i l' hi ht=>by
 have:=ht.lt;simp at this;omega
theorem Under.app{st r q:List Nc}{l:List Cl}(h:Under st r l)(k:Under (st++r) q l):Under st (r++q) l:=fun i l' hi ht v hv=>by
 rw[<-List.append_assoc]at ht
 rcases Nat.lt_or_ge i (st++r).length with hj|hj
 ·obtain⟨c,t,a,b⟩:=ht;rw[List.getElem?_append_left hj]at a;exact h i l' hi ⟨c,t,a,b⟩ v hv
 exact k i l' hj ht v hv
theorem Under.mono{st r:List Nc}{l m:List Cl}(h:Under st r l)(k:∀v,(zae l).mem v=true->(zae m).mem v=true):Under st r m:=fun i l' hi ht v hv=>k v (h i l' hi ht v hv)
theorem Under.one{st:List Nc}{c:Nc}{l:List Cl}(h:∀l' t,c.tag=some (l',t)->∀v,(zae l').mem v=true->(zae l).mem v=true):Under st [c] l:=fun i l' hi⟨d,t,a,b⟩v hv=>by
 have e:i=st.length:=by
  have:=zb3 a;simp at this;omega
 subst e;simp at a;subst a;exact h _ _ b v hv
theorem InvR.snoc{st:List Nc}{c:Nc}(h:InvR ch R cache n st)(hf:Form ch n st st.length c)(ht:∀l t,c.tag=some (l,t)->R l t)
 (hd:∀x,c.nd=⟨2,x,[]⟩->∀i,¬isLit st i x)(hs:cache=true->∀l t,c.tag=some (l,t)->∀i,¬tagged st i l):InvR ch R cache n (st++[c]):=by
 have key:∀i d,(st++[c])[i]?=some d->(i<st.length/\st[i]?=some d)\/(i=st.length/\d=c):=fun i d hi=>by
  rcases Nat.lt_or_ge i st.length with hj|hj
  ·rw[List.getElem?_append_left hj]at hi;exact .inl ⟨hj,hi⟩
  have e:i=st.length:=by have:=zb3 hi;simp at this;omega
  subst e;simp at hi;exact .inr ⟨rfl,hi.symm⟩
 refine⟨h.inv.snoc hf,fun i d l t hi hd'=>?_,fun i j x⟨d,hi,he⟩⟨d',hj,he'⟩=>?_,fun hc i j l⟨d,t,hi,he⟩⟨d',t',hj,he'⟩=>?_⟩
 ·rcases key i d hi with⟨_,h1⟩|⟨_,rfl⟩
  ·exact h.tg i d l t h1 hd'
  exact ht l t hd'
 ·rcases key i d hi with⟨_,h1⟩|⟨h0,rfl⟩<;>rcases key j d' hj with⟨_,h2⟩|⟨h0',e⟩
  ·exact h.dl i j x ⟨d,h1,he⟩ ⟨d',h2,he'⟩
  ·subst e;exact absurd ⟨d,h1,he⟩ (hd x he' i)
  ·exact absurd ⟨d',h2,he'⟩ (hd x he j)
  omega
 rcases key i d hi with⟨_,h1⟩|⟨h0,rfl⟩<;>rcases key j d' hj with⟨_,h2⟩|⟨h0',e⟩
 ·exact h.sh hc i j l ⟨d,t,h1,he⟩ ⟨d',t',h2,he'⟩
 ·subst e;exact absurd ⟨d,t,h1,he⟩ (hs hc l t' he' i)
 ·exact absurd ⟨d',t',h2,he'⟩ (hs hc l t he j)
 omega
theorem zk5{n:Nat}{st:List Nc}(h:Inv ch n st){i:Nat}{c:Nc}(hc:st[i]?=some c){x:Int}:zdq x c=true↔c.nd=⟨2,x,[]⟩:=by
 have hf:=h i c hc;unfold zdq;rw[Bool.and_eq_true,decide_eq_true_eq,decide_eq_true_eq]
 constructor
 ·rintro⟨h1,h2⟩
  cases hf<;>simp at h1 h2
  subst h2;rfl
 intro e;rw[e];simp
theorem zgb{st:List Nc}(h:InvR ch R cache n st){x:Int}(hx:litN n x):
 ∃r,(litF st x).1=st++r/\InvR ch R cache n (st++r)/\isLit (st++r) (litF st x).2 x/\r.countP zbk=0/\(∀l,Under st r l):=by
 unfold litF
 cases hf:st.findIdx? (zdq x)with
 |some i=>
   rw[List.findIdx?_eq_some_iff_getElem]at hf;obtain⟨hi,h1,_⟩:=hf;have hc:st[i]?=some st[i]:=List.getElem?_eq_getElem hi;refine⟨[],by simp,by simpa using h,?_,rfl,fun l=>Under.nil _ _⟩;rw[List.append_nil];exact⟨_,hc,(zk5 h.inv hc).1 h1⟩
 |none=>
   rw[List.findIdx?_eq_none_iff]at hf;refine⟨[⟨⟨2,x,[]⟩,none⟩],rfl,?_,⟨⟨⟨2,x,[]⟩,none⟩,by simp,rfl⟩,rfl,fun l=>Under.one fun l' t e=>by simp at e⟩;refine h.snoc (.lit hx rfl) (fun l t e=>by simp at e) (fun y hy i⟨c,hc,e⟩=>?_) (fun _ l t e=>by simp at e);simp at hy;subst hy;have:=hf c (List.mem_of_getElem? hc);rw[(zk5 h.inv hc).2 e]at this;simp at this
theorem zg5{l:List Cl}{c:Nc}:zbt l c=true↔∃t,c.tag=some (l,t):=by
 unfold zbt
 cases c.tag with
 |none=>simp
 | some t => simp;constructor
             ·rintro rfl;exact⟨t.2,rfl⟩
             rintro⟨t',e⟩;rw[e]
theorem zew{st:List Nc}(h:InvR ch R cache n st)(l:List Cl)(term:Cl)(hR:R l term)(mk:List Nc->List Nc×Nd)(W:Nat)(P:Nd->Prop)
 (hp:∀(i:Nat)(c:Nc)(t:Cl),st[i]?=some c->c.tag=some (l,t)->P c.nd)
 (hm:∃r,(mk st).1=st++r/\InvR ch R cache n (st++r)/\r.countP zbk+1<=W/\Under st r l/\(∀i,st.length<=i->¬tagged (st++r) i l)/\Form ch n (st++r) (st++r).length ⟨(mk st).2,some (l,term)⟩/\P (mk st).2/\(mk st).2.kind≠2):
 ∃r,(zan cache st l term mk).1=st++r/\InvR ch R cache n (st++r)/\tagged (st++r) (zan cache st l term mk).2 l/\(∃c,(st++r)[(zan cache st l term mk).2]?=some c/\P c.nd)/\r.countP zbk<=W/\Under st r l:=by
 unfold zan
 cases hf:(if cache then st.findIdx? (zbt l)else none)with
 |some i=>
   have hcc:cache=true:=by cases cache<;>simp at hf⊢
   rw[hcc,if_pos rfl,List.findIdx?_eq_some_iff_getElem]at hf;obtain⟨hi,h1,_⟩:=hf;obtain⟨t,ht⟩:=zg5.1 h1;have hc:st[i]?=some st[i]:=List.getElem?_eq_getElem hi;refine⟨[],by simp,by simpa using h,⟨_,t,by rw[List.append_nil];exact hc,ht⟩,⟨st[i],by rw[List.append_nil];exact hc,hp i _ t hc ht⟩,by simp,Under.nil _ _⟩
 |none=>
   obtain⟨r,h1,h2,h3,h4,h5,h6,h7,h8⟩:=hm;refine⟨r++[⟨(mk st).2,some (l,term)⟩],by simp[h1],?_,⟨⟨(mk st).2,some (l,term)⟩,term,by simp[h1],rfl⟩,⟨⟨(mk st).2,some (l,term)⟩,by simp[h1],h7⟩,?_,?_⟩
   ·rw[<-List.append_assoc];refine h2.snoc h6 (fun l' t e=>?_) (fun x e=>?_) (fun hc l' t e i ht=>?_)
    ·simp at e;rw[<-e.1,<-e.2];exact hR
    ·simp only at e;rw[e]at h8;simp at h8
    simp at e;rw[<-e.1]at ht
    rcases Nat.lt_or_ge i st.length with hi|hi
    ·obtain⟨c,t,a,b⟩:=ht;rw[List.getElem?_append_left hi]at a;rw[hc,if_pos rfl,List.findIdx?_eq_none_iff]at hf;have:=hf c (List.mem_of_getElem? a);rw[zg5.2 ⟨t,b⟩]at this;simp at this
    exact h5 i hi ht
   ·rw[List.countP_append];have:List.countP zbk [(⟨(mk st).2,some (l,term)⟩:Nc)]<=1:=List.countP_le_length;omega
   exact h4.app (Under.one fun l' t e=>by simp at e;rw[<-e.1];exact fun v hv=>hv)
theorem za1{l:List Cl}{x v:Int}(hx:zac x≠0)(h:(zae (zah l x)).mem v=true):(zae l).mem v=true/\v≠zac x:=by
 obtain⟨d,hd,hv⟩:=zbf.1 h;obtain⟨c,hc,hxc,rfl⟩:=zck.1 hd;obtain⟨h1,y,hy,rfl⟩:=zd3.1 hv;obtain⟨hyc,hyx⟩:=List.mem_filter.1 hy;simp only[decide_eq_true_eq]at hyx;refine⟨zbf.2 ⟨c,hc,zd3.2 ⟨h1,y,hyc,rfl⟩⟩,fun e=>?_⟩
 have hyx':y≠x:=fun e=>hxc (e▸hyc)
 rcases zes hx with⟨a,b,c⟩|⟨a,b,c⟩<;>rcases zes (show zac y≠0 by omega)with⟨a',b',c'⟩|⟨a',b',c'⟩<;>omega
theorem zo4{s t:St}(h:∀v:Int,t.mem v=true->s.mem v=true){v:Int}(h1:s.mem v=true)(h2:t.mem v=false)(hv:1<=v)(hv':v<=128):card t<card s:=by
 unfold card
 have e:(List.range 128).countP (fun(j:Nat)=>s.mem ((j:Int)+1))=(List.range 128).countP (fun(j:Nat)=>t.mem ((j:Int)+1))+(List.range 128).countP (fun(j:Nat)=>s.mem ((j:Int)+1)&&!t.mem ((j:Int)+1)):=by
  rw[<-ziy (fun j=>by rintro⟨a,b⟩;rw[a]at b;simp at b)]
  congr 1;funext j
  cases ht:t.mem ((j:Int)+1)with
  |true=>simp[h _ ht]
  |false=>simp
 rw[e]
 have:0<(List.range 128).countP (fun(j:Nat)=>s.mem ((j:Int)+1)&&!t.mem ((j:Int)+1)):=by
  rw[List.countP_pos_iff];exact⟨(v-1).toNat,List.mem_range.2 (by omega),by rw[show(((v-1).toNat:Nat):Int)+1=v by omega,h1,h2];rfl⟩
 omega
theorem zip{s t:St}(h:∀v:Int,t.mem v=true->s.mem v=true):card t<=card s:=by
 unfold card;exact List.countP_mono_left fun x _ hx=>h _ hx
theorem zg8{s:St}{v:Int}(h:s.mem v=true):1<=v/\v<=128:=by
 unfold St.mem at h
 by_cases a:1<=v/\v<=64
 ·omega
 rw[if_neg a]at h
 by_cases b:65<=v/\v<=128
 ·omega
 rw[if_neg b]at h;simp at h
theorem ze9{l p:List Cl}(hp:p∈zaj l){v:Int}(h:(zae p).mem v=true):(zae l).mem v=true:=by
 obtain⟨c,hc,hv⟩:=zbf.1 h;exact zbf.2 ⟨c,zct.1 ⟨p,hp,hc⟩,hv⟩
theorem zge{l:List Cl}{c:Cl}{x:Int}(hc:c∈l)(hx:x∈c)(h:zac x≠0):(zae l).mem (zac x)=true:=
 zbf.2 ⟨c,hc,zd3.2 ⟨by have:=zcd x;omega,x,hx,rfl⟩⟩
theorem znz{x:Int}{l:List Cl}:(zah ([x]::l) x).length<=l.length:=by
 unfold zah;refine Nat.le_trans (zbc _) ?_;rw[List.length_map,List.filter_cons_of_neg (by simp)];exact List.length_filter_le _ _
def zez:List Cl->Bool|[_]::_=>false|_=>true
theorem zj6(hn:n<=128)(hC:Closed R n):∀(f:Nat)(u:Us),InvR ch R cache n u.st->gL n u.l->R u.l u.term->
 ∃r i',(zaq f u).st=u.st++r/\InvR ch R cache n (u.st++r)/\gL n (zaq f u).l/\R (zaq f u).l (zaq f u).term/\(zaq f u).ins=u.ins++i'/\r.countP zbk=0/\(∀l,Under u.st r l)/\
  (∀v,(zae (zaq f u).l).mem v=true->(zae u.l).mem v=true)/\(∀st' rest,Fit (u.st++r++st') (zaq f u).l rest->Fit (u.st++r++st') u.l (i'++rest))/\(u.l.length<=f->zez (zaq f u).l=true)
 |0,u,h,hg,hR=>⟨[],[],by simp[zaq],by simpa using h,hg,hR,by simp[zaq],rfl,fun l=>Under.nil _ _,fun v hv=>hv,fun st' rest hf=>by simpa[zaq]using hf,fun hl=>by
    have:u.l=[]:=List.eq_nil_of_length_eq_zero (by omega)
    simp[zaq,this,zez]⟩
 |f+1,u,h,hg,hR=>by
   obtain⟨st,l,term,ins⟩:=u
   match l,hg,hR with
   |[x]::l,hg,hR=>
     have hx:litN n x:=(hg.gc [x] (by simp)).rg x (by simp);obtain⟨r,h1,h2,h3,h4,h5⟩:=zgb h hx;have hxv:=zge (l:=[x]::l) (c:=[x]) (by simp) (x:=x) (by simp) (hx.ok hn).1;obtain⟨r',i',k1,k2,k3,k4,k5,k6,k7,k8,k9,k10⟩:=zj6 hn hC f ⟨(litF st x).1,zah ([x]::l) x,term++[x],ins++[(litF st x).2]⟩ (by rw[h1];exact h2) (zbh hg.gc x) (hC.given _ _ _ hR hg hx hxv);simp only at k1 k2 k3 k4 k5 k6 k7 k8 k9 k10;have eu:zaq (f+1) ⟨st,[x]::l,term,ins⟩=zaq f ⟨(litF st x).1,zah ([x]::l) x,term++[x],ins++[(litF st x).2]⟩:=rfl;rw[eu];generalize zaq f ⟨(litF st x).1,zah ([x]::l) x,term++[x],ins++[(litF st x).2]⟩=U at*
     rw[h1]at k2 k7 k9;refine⟨r++r',(litF st x).2::i',by rw[k1,h1,List.append_assoc],by rw[<-List.append_assoc];exact k2,k3,k4,by rw[k5];simp,by rw[List.countP_append,h4,k6],fun m=>(h5 m).app (k7 m),fun v hv=>(za1 (hx.ok hn).1 (k8 v hv)).1,fun st' rest hf=>?_,fun hl=>?_⟩
     ·rw[<-List.append_assoc]at hf⊢;have:=k9 st' rest hf;refine .unit ?_ this;rw[List.append_assoc];exact h3.more
     simp only[List.length_cons]at hl;exact k10 (Nat.le_trans znz (by omega))
   |[],hg,hR=>exact⟨[],[],by simp[zaq],by simpa using h,hg,hR,by simp[zaq],rfl,fun l=>Under.nil _ _,fun v hv=>hv,fun st' rest hf=>by simpa[zaq]using hf,fun _=>rfl⟩
   |[]::l,hg,hR=>exact⟨[],[],by simp[zaq],by simpa using h,hg,hR,by simp[zaq],rfl,fun l=>Under.nil _ _,fun v hv=>hv,fun st' rest hf=>by simpa[zaq]using hf,fun _=>rfl⟩
   |(x::y::c)::l,hg,hR=>exact⟨[],[],by simp[zaq],by simpa using h,hg,hR,by simp[zaq],rfl,fun l=>Under.nil _ _,fun v hv=>hv,fun st' rest hf=>by simpa[zaq]using hf,fun _=>rfl⟩
theorem zvd{a b:Cl}(h:ltC a b):a.length<=b.length:=by
 unfold ltC cmpC at h
 split at h<;>omega
theorem zpy{l:List Cl}(hs:l.Pairwise ltC)(h1:zez l=true)(h2:zbm l=false):∀c∈l,2<=c.length:=by
 match l,hs,h1,h2 with
 |[],_,_,_=>simp
 |[]::_,_,_,h2=>simp[zbm]at h2
 |[_]::_,_,h1,_=>simp[zez]at h1
 |(x::y::c)::l,hs,_,_=>
   intro d hd
   rcases List.mem_cons.1 hd with rfl|hd
   ·simp
   have:=zvd ((List.pairwise_cons.1 hs).1 d hd);simp at this;omega
end
end Cen
