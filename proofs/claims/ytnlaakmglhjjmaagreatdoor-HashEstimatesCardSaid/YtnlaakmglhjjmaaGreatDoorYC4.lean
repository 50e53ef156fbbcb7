/- Parts of the proofs of laws. Texts: Sat, SumP, BoolL, Slices, SetOf, R04, R03, R03W, R03A, Node1, Node2. -/
import Derived.Test.YtnlaakmglhjjmaaGreatDoorYC3
set_option maxHeartbeats 8000000
set_option maxRecDepth 100000
set_option linter.all false
namespace Cen
theorem zq9(vs:List St)(v:Int)(ins:List Int):∀s:St,(insU vs s ins).mem v=(s.mem v||ins.any fun k=>(vs.getD k.toNat St.zero).mem v):=by
 induction ins with
 |nil=>intro s;simp[insU]
 |cons k ins ih=>
   intro s;have e:insU vs s (k::ins)=insU vs (s.union (vs.getD k.toNat St.zero)) ins:=rfl;rw[e,ih,St.mem_union,List.any_cons,Bool.or_assoc]
def vm(l:List Nd)(i:Int):St:=(zau l).getD i.toNat St.zero
theorem zfk(l:List Nd):∀vs:List St,∃us,zcn l vs=vs++us:=by
 induction l with
 |nil=>intro vs;exact⟨[],by simp[zcn]⟩
 |cons x l ih=>
   intro vs;obtain⟨us,h⟩:=ih (vs++[insU vs (ofL [zac x.lit]) x.ins]);exact⟨insU vs (ofL [zac x.lit]) x.ins::us,by simp[zcn,h]⟩
theorem zow(l r:List Nd)(i:Int)(h:i<l.length)(h0:0<=i):vm (l++r) i=vm l i:=by
 obtain⟨us,hu⟩:=zfk r (zau l);unfold vm
 have e:zau (l++r)=zau l++us:=by rw[<-hu];exact zdu l r []
 rw[e]
 have:i.toNat<(zau l).length:=by rw[zba];omega
 simp only[List.getD_eq_getElem?_getD,List.getElem?_append_left this]
theorem ybx(l:List Nd)(x:Nd):vm (l++[x]) l.length=insU (zau l) (ofL [zac x.lit]) x.ins:=by
 unfold vm;rw[zhh];have:=zba l;simp only[List.getD_eq_getElem?_getD];rw[List.getElem?_append_right (by omega)]
 simp[this]
theorem zlq{l:List Nd}{n:Int}(hL:zds l n l.length){i:Int}(h0:0<=i)(h1:i<l.length)(v:Int):
 (vm l i).mem v=((ofL [zac (nd l i).lit]).mem v||(nd l i).ins.any fun k=>(vm l k).mem v):=by
 have hi:i.toNat<l.length:=by omega
 have e1:l=l.take i.toNat++[l[i.toNat]]++l.drop (i.toNat+1):=by
  rw[List.append_assoc];simp
 have e2:nd l i=l[i.toNat]:=zvg h0 h1
 have hlen:(l.take i.toNat).length=i.toNat:=by simp;omega
 have h2:vm l i=vm (l.take i.toNat++[l[i.toNat]]) i:=by
  conv=>lhs;rw[e1]
  exact zow _ _ i (by simp;omega) h0
 have h3:vm (l.take i.toNat++[l[i.toNat]]) i=insU (zau (l.take i.toNat)) (ofL [zac l[i.toNat].lit]) l[i.toNat].ins:=by
  have:=ybx (l.take i.toNat) l[i.toNat];rw[hlen,show((i.toNat:Nat):Int)=i by omega]at this;exact this
 rw[h2,h3,zq9,e2]
 congr 1
 have hins:=zd9 (zoa hL h0 h1);rw[e2]at hins;rw[Bool.eq_iff_iff,List.any_eq_true,List.any_eq_true]
 have key:∀k∈l[i.toNat].ins,vm l k=(zau (l.take i.toNat)).getD k.toNat St.zero:=fun k hk=>by
  obtain⟨a,b⟩:=hins k hk;have:vm (l.take i.toNat++l.drop i.toNat) k=vm (l.take i.toNat) k:=zow _ _ k (by rw[hlen];omega) a;rw[List.take_append_drop]at this;exact this
 exact⟨fun⟨k,hk,h⟩=>⟨k,hk,by rw[key k hk];exact h⟩,fun⟨k,hk,h⟩=>⟨k,hk,by rw[<-key k hk];exact h⟩⟩
theorem zmq(x v:Int):(ofL [x]).mem v=(decide (v=x)&&decide (1<=x)&&decide (x<=128)):=by
 show(St.zero.add x).mem v=_
 rw[St.mem_add,St.mem_zero];simp
theorem yb9{l:List Nd}{n:Int}(hL:zds l n l.length){s s':Int->Bool}:∀(k:Nat)(i:Int),i.toNat=k->0<=i->i<l.length->(∀v,(vm l i).mem v=true->s v=s' v)->T s l i=T s' l i:=by
 intro k
 induction k using Nat.strongRecOn with
 |_ k ih=>
   intro i hk h0 h1 h;have hins:=zd9 (zoa hL h0 h1);rw[T_nd s hL h0 h1,T_nd s' hL h0 h1]
   have h3:evNd s (T s l) (nd l i)=evNd s (T s' l) (nd l i):=by
    apply zky
    intro j hj;obtain⟨a,b⟩:=hins j hj
    refine ih j.toNat (by omega) j rfl a (by omega) fun v hv=>h v ?_
    rw[zlq hL h0 h1,Bool.or_eq_true];exact .inr (List.any_eq_true.2 ⟨j,hj,hv⟩)
   rw[h3];unfold evNd
   by_cases h2:(nd l i).kind=2
   ·have h1k:¬(nd l i).kind=1:=by omega
    rw[if_neg h1k,if_neg h1k,if_pos h2,if_pos h2];have hv:=(zmp (zoa hL h0 h1) h2).1;have hp:=litVar_pos' hv;unfold zcj;rw[h (zac (nd l i).lit) (by rw[zlq hL h0 h1,zmq];simp;left;omega)]
   rw[if_neg h2,if_neg h2]
where
 litVar_pos'{l:Int}(h:zac l≠0):1<=zac l/\zac l<=128:=by rcases zes h with h|h<;>omega
theorem zc6(l:List Nd)(k:Nat):((zau l).getD k St.zero).ok:=by
 by_cases hk:k<(zau l).length
 ·simp only[List.getD_eq_getElem?_getD,List.getElem?_eq_getElem hk];exact zfe l _ (List.getElem_mem hk)
 simp only[List.getD_eq_getElem?_getD,List.getElem?_eq_none (Nat.le_of_not_lt hk)];exact St.zero_ok
def setV(s:Int->Bool)(v:Int)(b:Bool):Int->Bool:=fun u=>if u=v then b else s u
def cnt(f:(Int->Bool)->Bool):Nat->(Int->Bool)->Nat
 |0,s=>if f s=true then 1 else 0
 |n+1,s=>cnt f n (setV s ((n:Int)+1) false)+cnt f n (setV s ((n:Int)+1) true)
def zok(n:Nat)(s s':Int->Bool):Prop:=∀u:Int,u<1\/(n:Int)<u->s' u=s u
theorem zc9{n:Nat}{s s':Int->Bool}{b:Bool}(h:zok n (setV s ((n:Int)+1) b) s'):zok (n+1) s s':=by
 intro u hu;rw[h u (by omega)];unfold setV;rw[if_neg (by omega)]
theorem zrr{n:Nat}{s s':Int->Bool}(h:zok (n+1) s s'):zok n (setV s ((n:Int)+1) (s' ((n:Int)+1))) s':=by
 intro u hu;unfold setV
 by_cases e:u=(n:Int)+1
 ·rw[if_pos e,e]
 rw[if_neg e];exact h u (by omega)
theorem zag{f g:(Int->Bool)->Bool}:∀(n:Nat)(s:Int->Bool),(∀s',zok n s s'->f s'=g s')->cnt f n s=cnt g n s
 |0,s,h=>by
   unfold cnt;rw[h s fun _ _=>rfl]
 |n+1,s,h=>by
   unfold cnt;rw[zag n _ fun s' hs=>h s' (zc9 hs),zag n _ fun s' hs=>h s' (zc9 hs)]
theorem zfh(f:(Int->Bool)->Bool):∀(n:Nat)(s:Int->Bool),cnt f n s<=2^n
 |0,s=>by unfold cnt;split<;>simp
 |n+1,s=>by
   unfold cnt;have h1:=zfh f n (setV s ((n:Int)+1) false);have h2:=zfh f n (setV s ((n:Int)+1) true);rw[Nat.pow_succ];omega
theorem zpc(f:(Int->Bool)->Bool):∀(n:Nat)(s:Int->Bool),0<cnt f n s↔∃s',zok n s s'/\f s'=true
 |0,s=>by
   unfold cnt
   constructor
   ·intro h
    by_cases e:f s=true
    ·exact⟨s,fun _ _=>rfl,e⟩
    rw[if_neg e]at h;omega
   rintro⟨s',h1,h2⟩
   have:s'=s:=funext fun u=>h1 u (by omega)
   rw[this]at h2;rw[if_pos h2];omega
 |n+1,s=>by
   unfold cnt;have h1:=zpc f n (setV s ((n:Int)+1) false);have h2:=zpc f n (setV s ((n:Int)+1) true)
   constructor
   ·intro h
    by_cases e:0<cnt f n (setV s ((n:Int)+1) false)
    ·obtain⟨s',a,b⟩:=h1.1 e;exact⟨s',zc9 a,b⟩
    obtain⟨s',a,b⟩:=h2.1 (by omega);exact⟨s',zc9 a,b⟩
   rintro⟨s',a,b⟩;have c:=zrr a
   cases hb:s' ((n:Int)+1)with
   |false=>rw[hb]at c;have:=h1.2 ⟨s',c,b⟩;omega
   |true=>rw[hb]at c;have:=h2.2 ⟨s',c,b⟩;omega
theorem zl5(f:(Int->Bool)->Bool):∀(n:Nat)(s:Int->Bool),cnt f n s=2^n↔∀s',zok n s s'->f s'=true
 |0,s=>by
   unfold cnt
   constructor
   ·intro h s' hs
    have:s'=s:=funext fun u=>hs u (by omega)
    rw[this]
    by_cases e:f s=true
    ·exact e
    rw[if_neg e]at h;simp at h
   intro h;rw[if_pos (h s fun _ _=>rfl)]
 |n+1,s=>by
   unfold cnt;have h1:=zl5 f n (setV s ((n:Int)+1) false);have h2:=zl5 f n (setV s ((n:Int)+1) true);have l1:=zfh f n (setV s ((n:Int)+1) false);have l2:=zfh f n (setV s ((n:Int)+1) true);rw[Nat.pow_succ]
   constructor
   ·intro h s' hs;have c:=zrr hs
    cases hb:s' ((n:Int)+1)with
    |false=>rw[hb]at c;exact h1.1 (by omega) s' c
    |true=>rw[hb]at c;exact h2.1 (by omega) s' c
   intro h
   have a:=h1.2 fun s' hs=>h s' (zc9 hs)
   have b:=h2.2 fun s' hs=>h s' (zc9 hs)
   omega
theorem zl6(n:Nat)(s:Int->Bool):cnt (fun _=>true) n s=2^n:=(zl5 _ n s).2 fun _ _=>rfl
theorem zem(n:Nat)(s:Int->Bool):cnt (fun _=>false) n s=0:=by
 rcases Nat.eq_zero_or_pos (cnt (fun _=>false) n s)with h|h
 ·exact h
 obtain⟨_,_,h⟩:=(zpc _ n s).1 h;simp at h
theorem ziv{f g:(Int->Bool)->Bool}:∀(n:Nat)(s:Int->Bool),(∀s',¬(f s'=true/\g s'=true))->cnt (fun s=>f s||g s) n s=cnt f n s+cnt g n s
 |0,s,h=>by
   unfold cnt;have:=h s
   cases hf:f s<;>cases hg:g s<;>simp_all
 |n+1,s,h=>by
   unfold cnt;rw[ziv n _ h,ziv n _ h];omega
def dep(f:(Int->Bool)->Bool)(A:Int->Bool):Prop:=∀s s':Int->Bool,(∀v,A v=true->s v=s' v)->f s=f s'
theorem zpa{f:(Int->Bool)->Bool}{A:Int->Bool}(h:dep f A):∀(n:Nat)(s s':Int->Bool),(∀v,A v=true->s v=s' v)->cnt f n s=cnt f n s'
 |0,s,s',hs=>by unfold cnt;rw[h s s' hs]
 |n+1,s,s',hs=>by
   unfold cnt
   have key:∀b,∀v,A v=true->setV s ((n:Int)+1) b v=setV s' ((n:Int)+1) b v:=fun b v hv=>by
    unfold setV;split
    ·rfl
    exact hs v hv
   rw[zpa h n _ _ (key false),zpa h n _ _ (key true)]
theorem zpb{f:(Int->Bool)->Bool}{A:Int->Bool}(h:dep f A){n:Nat}{s:Int->Bool}{v:Int}(hv:A v=false)(b c:Bool):cnt f n (setV s v b)=cnt f n (setV s v c):=by
 refine zpa h n _ _ fun u hu=>?_
 unfold setV
 by_cases e:u=v
 ·rw[e,hv]at hu;simp at hu
 rw[if_neg e,if_neg e]
theorem zo8{f g:(Int->Bool)->Bool}{A B:Int->Bool}(hf:dep f A)(hg:dep g B)(hd:∀v,¬(A v=true/\B v=true)):∀(n:Nat)(s:Int->Bool),cnt (fun s=>f s&&g s) n s*2^n=cnt f n s*cnt g n s
 |0,s=>by
   unfold cnt
   cases hf:f s<;>cases hg:g s<;>simp_all
 |n+1,s=>by
   unfold cnt;have h0:=zo8 hf hg hd n (setV s ((n:Int)+1) false);have h1:=zo8 hf hg hd n (setV s ((n:Int)+1) true);rw[Nat.pow_succ]
   cases hA:A ((n:Int)+1)with
   |false=>
     have e:=zpb hf (n:=n) (s:=s) hA true false;rw[e]at h1⊢;generalize cnt f n (setV s ((n:Int)+1) false)=a at*;generalize cnt g n (setV s ((n:Int)+1) false)=x at*;generalize cnt g n (setV s ((n:Int)+1) true)=y at*;rw[<-Nat.mul_assoc,Nat.add_mul,h0,h1,<-Nat.mul_add,show a+a=a*2 by omega,Nat.mul_assoc,Nat.mul_assoc,Nat.mul_comm (x+y) 2]
   |true=>
     have hB:B ((n:Int)+1)=false:=by
      cases hB:B ((n:Int)+1)with
      |false=>rfl
      |true=>exact absurd ⟨hA,hB⟩ (hd _)
     have e:=zpb hg (n:=n) (s:=s) hB true false;rw[e]at h1⊢;generalize cnt g n (setV s ((n:Int)+1) false)=b at*;generalize cnt f n (setV s ((n:Int)+1) false)=x at*;generalize cnt f n (setV s ((n:Int)+1) true)=y at*;rw[<-Nat.mul_assoc,Nat.add_mul,h0,h1,<-Nat.add_mul,show b+b=b*2 by omega,Nat.mul_assoc]
theorem zpd(b:Bool){v:Int}(h1:1<=v):∀(n:Nat)(s:Int->Bool),v<=n->cnt (fun s=>s v==b) n s*2=2^n
 |0,s,h=>by omega
 |n+1,s,h=>by
   unfold cnt
   by_cases e:v=(n:Int)+1
   ·have key:∀c:Bool,cnt (fun s=>s v==b) n (setV s ((n:Int)+1) c)=if c=b then 2^n else 0:=fun c=>by
     rw[zag (g:=fun _=>c==b) n _ fun s' hs=>by
      have:=hs v (by omega)
      simp only[this,setV,if_pos e]]
     by_cases hc:c=b
     ·rw[if_pos hc,show(fun _:Int->Bool=>c==b)=fun _=>true by funext _;simp[hc]];exact zl6 n _
     rw[if_neg hc,show(fun _:Int->Bool=>c==b)=fun _=>false by funext _;simp[hc]];exact zem n _
    rw[key,key,Nat.pow_succ]
    cases b<;>simp
   have i1:=zpd b h1 n (setV s ((n:Int)+1) false) (by omega);have i2:=zpd b h1 n (setV s ((n:Int)+1) true) (by omega);rw[Nat.pow_succ];omega
def card(s:St):Nat:=(List.range 128).countP fun(j:Nat)=>s.mem ((j:Int)+1)
theorem ziy{p q:Nat->Bool}(h:∀j,¬(p j=true/\q j=true))(l:List Nat):l.countP (fun j=>p j||q j)=l.countP p+l.countP q:=by
 induction l with
 |nil=>rfl
 |cons x l ih=>
   simp only[List.countP_cons,ih];have:=h x
   cases hp:p x<;>cases hq:q x<;>simp_all<;>omega
theorem zks{s t:St}(h:∀v,¬(s.mem v=true/\t.mem v=true)):card (s.union t)=card s+card t:=by
 unfold card;rw[<-ziy (fun j=>h _)]
 congr 1
 funext j
 rw[St.mem_union]
theorem zo3{s:St}{n:Nat}(hn:n<=128)(h:∀v:Int,1<=v->s.mem v=true->v<=n):card s<=n:=by
 unfold card
 have e:List.range 128=List.range n++(List.range (128-n)).map (n+·):=by
  rw[<-List.range_add];congr 1;omega
 rw[e,List.countP_append]
 have h1:(List.range n).countP (fun(j:Nat)=>s.mem ((j:Int)+1))<=n:=by
  have:=List.countP_le_length (p:=fun j=>s.mem (((j:Nat):Int)+1)) (l:=List.range n)
  simpa using this
 have h2:((List.range (128-n)).map (n+·)).countP (fun(j:Nat)=>s.mem ((j:Int)+1))=0:=by
  rw[List.countP_eq_zero];intro j hj;simp only[List.mem_map,List.mem_range]at hj;obtain⟨i,_,rfl⟩:=hj;intro hm;have:=h _ (by omega) hm;omega
 omega
def detL(l:List Nd):Prop:=∀(s:Int->Bool)(i:Nat),i<l.length->(nd l (i:Int)).kind=4->(nd l (i:Int)).ins.Pairwise fun j k=>¬(T s l j=true/\T s l k=true)
end Cen
namespace Go.Proofs.YtnlaakmglhjjmaaGreatDoor
open Go.RowKit Cen
def bc(b:Bool):List Value:=[.bool b]
theorem zu0(a:Option Addr)(cap:Nat)(xs:List Int)(x:Int)(w:World)(hl:xs.length<=1073741824)(hx:IntCells w a xs):
 Calls Tryz.prog 155 #[.slice a xs.length cap,.int .i64 x] w fun e w'=>e=.returned (.int .i64 (idx (fun y=>x==y) xs))/\w=w':=by
 have HX:=lh hx;clear hx;go_enter Tryz.func155,Tryz.ntmps155;go_wp2
 go_loop[5,8](fun v i=>∃k:Nat,k<=xs.length/\i=.int .i64 k/\(∀j,j<k->(x==xs.getD j 0)=false))(fun _ i=>xs.length-(intOf i).toNat)
 case atStart=>exact⟨0,Nat.zero_le _,rfl,fun j h=>absurd h (Nat.not_lt_zero _)⟩
 obtain⟨k,hk,rfl,hno⟩:=hrel;have HN:=lh hno;clear hno
 by_cases hlt:k<xs.length
 ·obtain⟨b,off,rfl,hc⟩:=HX.o k hlt
  cases hpk:(x==xs[k])
  ·go_wp2;go_round
   case rel=>exact⟨k+1,by omega,by go_num,fun j hj=>by
    by_cases e:j=k
    ·subst e;simpa[List.getD_eq_getElem?_getD,hlt]using hpk
    exact HN.o j (by omega)⟩
   case measure=>simp[intOf];omega
  have HK:=lh hpk;go_wp2;go_ret;exact⟨zbu (zpt _ xs k hlt HN.o HK.o).symm,rfl⟩
 have:k=xs.length:=by omega
 subst this;go_wp2;go_ret;exact⟨zbu (zmi _ xs HN.o).symm,rfl⟩
def has(xs:List Int)(x:Int):Bool:=xs.any fun y=>x==y
theorem ya8{xs:List Int}{x:Int}:has xs x=true↔x∈xs:=by simp[has]
theorem znq(a:Option Addr)(cap:Nat)(xs:List Int)(x:Int)(w:World)(hl:xs.length<=1073741824)(hx:IntCells w a xs):
 Calls Tryz.prog 132 #[.slice a xs.length cap,.int .i64 x] w fun e w'=>e=.returned (.bool (has xs x))/\w=w':=by
 have HX:=lh hx;clear hx;go_enter Tryz.func132,Tryz.ntmps132;go_wp2_with(go_at_call 155;refine(zu0 _ _ _ _ _ hl HX.o).mono ?_;rintro e w'⟨rfl,rfl⟩);go_ret;exact⟨zbg (zps _ xs),rfl⟩
theorem zir{w:World}{ad:Addr}{xs:List Int}(h:IntCells w (some ad) xs):
 ∀j u,(xs.map (Value.int .i64))[j]?=some u->w.cell? (ad.add j)=some u:=by
 intro j u hj
 have hlt:j<xs.length:=by
  rcases Nat.lt_or_ge j xs.length with h'|h'
  ·exact h'
  rw[List.getElem?_eq_none (by simpa using h')]at hj;simp at hj
 obtain⟨b,off,e,hc⟩:=h j hlt;simp only[Option.some.injEq]at e;subst e
 have e1:(⟨b,off,none⟩:Addr).add j=⟨b,off+j,none⟩:=by
  unfold Addr.add;split
  ·rename_i hj0;rw[hj0];rfl
  simp
 rw[e1,hc]
 simp[hlt]at hj
 simp[List.getD_eq_getElem?_getD,hlt,hj]
theorem zvo(xs:List Int):∀u∈xs.map (Value.int .i64),u.oneCell'=true:=by
 intro u hu;simp at hu;obtain⟨x,_,rfl⟩:=hu;rfl
theorem zaz(a:Option Addr)(cap:Nat)(xs:List Int)(w:World)(hl:xs.length<=1073741824)(hx:IntCells w a xs):
 Calls Tryz.prog 96 #[.slice a xs.length cap] w fun e w'=>∃v,e=.returned v/\OwnInts w' w.heap.size v xs/\Below w.heap.size w w':=by
 have hsl:=fun(w:World)(a:Option Addr)(l c n1 c1:Nat)=>Lib.run_eql_slice_nil w 75 3 a l c n1 c1 Tryz.underlying75
 have HX:=lh hx;clear hx
 cases a with
 |none=>
   have hz:xs=[]:=by
    cases xs with
    |nil=>rfl
    |cons x xs=>obtain⟨b,off,e,_⟩:=HX.o 0 (by simp);simp at e
   subst hz;go_enter Tryz.func96,Tryz.ntmps96;go_wp2;go_ret;exact⟨_,rfl,OwnInts.nil _ _,Below.refl _ _⟩
 |some ad=>
   have H0:Hid ((w.alloc (.cells #[] 3)).ownsRow w.heap.size 3 1 (.slice (some ⟨w.heap.size,0,none⟩) 0 0) 0 []):=World.ownsRow_lit w #[] 0 (Nat.le_refl _) (by unfold maxLen;omega) rfl;have HC:=lh (zir (HX.o.keep ((Below.refl _ _).alloc (Nat.le_refl _) (.cells #[] 3))))
   have hb2:(0+xs.length)*8<=140737488355328:=by omega
   have hb1:0+xs.length<=maxLen:=by unfold maxLen;omega
   have H1:=lh hb1;have H2:=lh hb2;clear hb1 hb2;go_enter Tryz.func96,Tryz.ntmps96;go_wp2_with(at_builtin;refine app ziz rfl _ _ rfl w.heap.size _ _ _ rfl H0.o ad xs.length cap (xs.map (Value.int .i64)) rfl (by simp) HC.o (zvo xs) H1.o H2.o (by simp) ?_);intro v' w1 hown hgrow _;have HO:=lh hown;have HG:=lh hgrow;clear hown hgrow;go_wp2;go_ret;exact⟨_,rfl,HO.o,(ba _ _).grown HG.o (by simp) (by simp[Value.ownBlock])⟩
abbrev sts(s:St):Array Value:=#[.int .u64 (s.a:Int),.int .u64 (s.b:Int)]
theorem Blk.putSet{w:World}{b:Nat}{s:St}(h:Blk w b (sts s) 29)(t:St):
 Blk ((w.setCell ⟨b,0,none⟩ (.int .u64 (t.a:Int))).setCell ⟨b,1,none⟩ (.int .u64 (t.b:Int))) b (sts t) 29:=(h.set 0 _).set 1 _
theorem Blk.sc{w:World}{b:Nat}{s:St}{t:TypeId}(h:Blk w b (sts s) t):
 w.cell? ⟨b,0,none⟩=some (.int .u64 (s.a:Int))/\w.cell? ⟨b,1,none⟩=some (.int .u64 (s.b:Int))/\w.frozen? ⟨b,0,none⟩=false/\w.frozen? ⟨b,1,none⟩=false:=
 ⟨h.cell 0,h.cell 1,h.fr 0,h.fr 1⟩
theorem zci{w w':World}(h:Below w.drew.heap.size w.drew w'):Below w.heap.size w w':=(Below.refl w.heap.size w).drew.trans (h.mono (Nat.le_refl w.heap.size))
theorem Blk.drewCall{w w':World}{b:Nat}{s:St}{t:TypeId}(h:Blk w b (sts s) t)(hb:Below w.drew.heap.size w.drew w'):
 w'.cell? ⟨b,0,none⟩=some (.int .u64 (s.a:Int))/\w'.cell? ⟨b,1,none⟩=some (.int .u64 (s.b:Int))/\w'.frozen? ⟨b,0,none⟩=false/\w'.frozen? ⟨b,1,none⟩=false:=
 (h.later (zci hb)).sc
theorem zoo(a:Option Addr)(cap:Nat)(xs:List Int)(w:World)(hl:xs.length<=1073741824)(hx:IntCells w a xs):
 Calls Tryz.prog 72 #[.slice a xs.length cap] w fun e w'=>e=.returned (stv (ofL xs))/\Below w.heap.size w w':=by
 have HX:=lh hx;clear hx;go_enter Tryz.func72,Tryz.ntmps72;go_wp2
 go_loopw[8](fun i wr=>∃k:Nat,k<=xs.length/\i=.int .i64 k/\Blk wr (w.heap.size+1) (sts (ofL (xs.take k))) 29/\Blk wr w.heap.size (sts St.zero) 29/\Below w.heap.size w wr)(fun i _=>xs.length-(intOf i).toNat)
 case atStart=>exact⟨0,Nat.zero_le _,rfl,Blk.new' (w.alloc _) (by simp) (sts St.zero) 29,(Blk.new w _ _).alloc _,(ba _ _).alloc (by simp) _⟩
 obtain⟨k,hk,rfl,hs,hz,hbel⟩:=hrel;obtain⟨c0,c1,f0,f1⟩:=hs.sc;obtain⟨d0,d1,e0,e1⟩:=hz.sc;have HS:=lh hs;have HZ:=lh hz;have HB:=lh hbel;have HOK:=lh (zvm (xs.take k));clear hs hz hbel
 by_cases hlt:k<xs.length
 ·obtain⟨b,off,rfl,hc0⟩:=HX.o k hlt;have hc:=zab HB.o hc0;clear hc0;generalize hxe:xs.getD k 0=x at hc
  have HXE:Hid (ofL (xs.take (k+1))=(ofL (xs.take k)).add x):=by
   show _=_;rw[List.take_succ_eq_append_getElem hlt];unfold ofL;rw[List.foldl_append];rw[<-hxe];simp[List.getD_eq_getElem?_getD,hlt]
  clear hxe;generalize ofL (xs.take k)=s at*;go_wp2_with fail;refine(zgs s x _ HOK.o).mono ?_;rintro e w1⟨rfl,hb1⟩;have hs1:=HS.o.later hb1;have hz1:=HZ.o.later hb1;obtain⟨g0,g1,k0,k1⟩:=hs1.sc;have HS1:=lh hs1;have HZ1:=lh hz1;have HB1:=lh hb1;clear hs1 hz1 hb1;go_wp2;go_roundw
  case rel=> 
   refine⟨k+1,by omega,by go_num,?_,?_,?_⟩
   ·rw[HXE.o];exact HS1.o.putSet _
   ·exact(HZ1.o.other _ _ (by simp)).other _ _ (by simp)
   exact((HB.o.trans (HB1.o.mono HB.o.size)).setCell (by simp) _).setCell (by simp) _
  case measure=>simp[intOf];omega
 have:k=xs.length:=by omega
 subst this;rw[List.take_length]at*;go_wp2;exact bodyPost_ret (v:=stv (ofL xs)) (by simp[results,Tryz.results72,go_sem,d0,d1]) rfl ⟨rfl,(HB.o.setCell (Nat.le_refl _) _).setCell (Nat.le_refl _) _⟩
theorem tbit(x k:Nat):(((x:Int)/2^k).tmod 2==1)=x.testBit k:=by
 have e:(x:Int)/2^k=((x/2^k:Nat):Int):=by simp
 rw[e,Int.tmod_eq_emod_of_nonneg (Int.natCast_nonneg _),Nat.testBit_eq_decide_div_mod_eq,Bool.eq_iff_iff];simp only[beq_iff_eq,decide_eq_true_eq];omega
theorem mem_lo(s:St){v:Int}(h1:1<=v)(h2:v<=64):(((s.a:Int)/2^(v.toNat-1)).tmod 2==1)=s.mem v:=by
 rw[tbit];unfold St.mem;rw[if_pos ⟨h1,h2⟩];congr 1;omega
theorem mem_hi(s:St){v:Int}(h1:65<=v)(h2:v<=128)(k:Nat)(hk:(k:Int)=v-65):(((s.b:Int)/2^k).tmod 2==1)=s.mem v:=by
 rw[tbit];unfold St.mem;rw[if_neg (by omega),if_pos ⟨h1,h2⟩];congr 1;omega
def setB(f:Nat->Bool):Nat->St
 |0=>St.zero
 |k+1=>if f (k+1)then(setB f k).add ((k:Int)+1)else setB f k
theorem zfw(f:Nat->Bool):∀k,(setB f k).ok
 |0=>St.zero_ok
 |k+1=>by unfold setB;split;exact St.add_ok (zfw f k) _;exact zfw f k
theorem zig(f:Nat->Bool):∀(k:Nat)(v:Int),k<=128->(setB f k).mem v=(decide (1<=v)&&(decide (v<=k)&&f v.toNat))
 |0,v,_=>by
   rw[setB,St.mem_zero]
   by_cases h:1<=v
   ·rw[decide_eq_false (show¬v<=((0:Nat):Int)by omega)];simp
   rw[decide_eq_false h];simp
 |k+1,v,hk=>by
   have ih:=zig f k v (by omega)
   by_cases e:v=(k:Int)+1
   ·have e2:v.toNat=k+1:=by omega
    rw[decide_eq_true (show 1<=v by omega),decide_eq_true (show v<=((k+1:Nat):Int)by omega),e2];rw[decide_eq_false (show¬v<=(k:Int)by omega)]at ih
    show(if f (k+1)then(setB f k).add ((k:Int)+1)else setB f k).mem v=_
    cases hf:f (k+1)with
    |false=>simp only[Bool.false_eq_true,if_false];rw[ih];simp
    |true=>simp only[if_true];rw[St.mem_add,e,decide_eq_true (show(1:Int)<=(k:Int)+1 by omega),decide_eq_true (show(k:Int)+1<=128 by omega)];simp
   have e3:decide (v<=((k+1:Nat):Int))=decide (v<=(k:Int)):=by rw[Bool.eq_iff_iff,decide_eq_true_iff,decide_eq_true_iff];omega
   rw[e3,<-ih]
   show(if f (k+1)then(setB f k).add ((k:Int)+1)else setB f k).mem v=_
   split
   ·rw[St.mem_add,decide_eq_false e];simp
   rfl
theorem zon(f:Nat->Bool){v:Int}(h1:1<=v):setB f v.toNat=if f v.toNat then(setB f (v.toNat-1)).add v else setB f (v.toNat-1):=by
 obtain⟨k,rfl⟩:∃k:Nat,v=(k:Int)+1:=⟨(v-1).toNat,by omega⟩
 rw[show((k:Int)+1).toNat=k+1 by omega];rfl
def bl(ys:List Int):List Bool:=(List.range 129).map fun j:Nat=>decide (1<=j)&&ys.contains (j:Int)
def zbq(n:Int):St:=setB (fun j:Nat=>decide ((j:Int)<=n)) 128
theorem zdo(n:Int):(zbq n).ok:=zfw _ _
theorem zdc(n v:Int):(zbq n).mem v=(decide (1<=v)&&(decide (v<=128)&&decide (v<=n))):=by
 unfold zbq;rw[zig _ _ _ (Nat.le_refl _)]
 by_cases h:1<=v
 ·rw[show((v.toNat:Nat):Int)=v by omega];rfl
 rw[decide_eq_false h];rfl
theorem zu1(ins:List Int)(b:Int):zeg ins b=!(ins.any fun i=>decide (i<0)||decide (b<=i)):=by
 rw[zeg,List.not_any_eq_all_not]
 congr 1;funext i
 rw[Bool.eq_iff_iff];simp
theorem zsk(kind lit n before:Int)(a:Option Addr)(cap:Nat)(ins:List Int)(w:World)(hl:ins.length<=1073741824)(hx:IntCells w a ins):
 Calls Tryz.prog 105 #[.agg #[.int .i64 kind,.int .i64 lit,.slice a ins.length cap],.int .i64 n,.int .i64 before] w
  fun e w'=>e=.returned (.bool (ndOk ⟨kind,lit,ins⟩ n before))/\Below w.heap.size w w':=by
 have HI:=lh (zu1 ins before);have HX:=lh hx
 have HE:Hid (((ins.length:Int)==0)=decide (ins=[])):=by show _=_;rw[Bool.eq_iff_iff];simp
 have HF:=fun(e:Bool)(h:(ins.any fun i=>decide (i<0)||decide (before<=i))=e)=>
  fun(W:World)(hb:Below w.heap.size w W)(q:Addr)(hq:W.cell? q=some (.int .i64 before))=>
   (zcz a cap ins 142 #[.pointer (some q)] (fun i=>decide (i<0)||decide (before<=i)) W hl (hx.keep hb)
     (fun x _=>zpm x before q W hq) zh1).mono (R':=fun E w'=>E=.returned (.bool e)/\W=w') (fun E w'⟨h1,h2⟩=>⟨by rw[h1,h],h2⟩)
 clear hx
 have hB:Below w.heap.size w ((w.alloc (.cells #[.int .i64 kind,.int .i64 lit,.slice a ins.length cap] 134)).alloc (.cells #[.int .i64 before] 3)):=
  (ba _ _).alloc (by simp) _
 have HB:=lh hB;clear hB
 have HQ:Hid (((w.alloc (.cells #[.int .i64 kind,.int .i64 lit,.slice a ins.length cap] 134)).alloc (.cells #[.int .i64 before] 3)).cell? ⟨w.heap.size+1,0,none⟩=some (.int .i64 before)):=by
  show _=_
  rw[World.cell?_alloc_at _ _ _ _ (by simp)];rfl
 cases hany:(ins.any fun i=>decide (i<0)||decide (before<=i))
 ·have H2:=lh (HF false hany)
  have hr:ndOk ⟨kind,lit,ins⟩ n before=zch ⟨kind,lit,ins⟩ n:=by simp[ndOk,HI.o,hany]
  rw[hr];clear hr hany HF
  by_cases k2:kind=2
  ·subst k2
   cases hv:zbn lit n
   all_goals
    have H3:=lh (fun W=>(zcs lit n W).mono (R':=fun E w'=>E=.returned (.bool _)/\W=w') (fun E w'⟨h1,h2⟩=>⟨by rw[h1,hv],h2⟩));have HV:=lh hv;clear hv;go_enter Tryz.func105,Tryz.ntmps105;go_wp2_with(first|(go_at_call 141;refine(H2.o _ HB.o _ HQ.o).mono ?_;rintro e w'⟨rfl,rfl⟩)|(go_at_call 57;refine(H3.o _).mono ?_;rintro e w'⟨rfl,rfl⟩));go_ret;exact⟨zbg (by simp[zch,HV.o];try exact HE.o),HB.o⟩
  have hk2:(kind==2)=false:=by simpa using k2
  by_cases k0:kind=0\/kind=1\/kind=3\/kind=4
  ·by_cases l0:lit=0
   ·subst l0
    rcases k0 with rfl|rfl|rfl|rfl
    all_goals
     clear k2 hk2;go_enter Tryz.func105,Tryz.ntmps105;go_wp2_with(go_at_call 141;refine(H2.o _ HB.o _ HQ.o).mono ?_;rintro e w'⟨rfl,rfl⟩);go_ret;exact⟨zbg (by simp[zch];try exact HE.o),HB.o⟩
   have hl0:(lit==0)=false:=by simpa using l0
   rcases k0 with rfl|rfl|rfl|rfl
   all_goals
    clear k2 hk2 l0;go_enter Tryz.func105,Tryz.ntmps105;go_wp2_with(go_at_call 141;refine(H2.o _ HB.o _ HQ.o).mono ?_;rintro e w'⟨rfl,rfl⟩);go_ret;exact⟨zbg (by simp[zch];intro h;simp[h]at hl0),HB.o⟩
  have h0:(kind==0)=false:=by simp;omega
  have h1:(kind==1)=false:=by simp;omega
  have h3:(kind==3)=false:=by simp;omega
  have h4:(kind==4)=false:=by simp;omega
  have hr:zch ⟨kind,lit,ins⟩ n=false:=by
   unfold zch;simp only;rw[if_neg (by omega),if_neg (by omega),if_neg (by omega)]
  rw[hr];clear k2 k0 hr;go_enter Tryz.func105,Tryz.ntmps105;go_wp2_with(go_at_call 141;refine(H2.o _ HB.o _ HQ.o).mono ?_;rintro e w'⟨rfl,rfl⟩);go_ret;exact⟨rfl,HB.o⟩
 have H2:=lh (HF true hany)
 have hr:ndOk ⟨kind,lit,ins⟩ n before=false:=by simp[ndOk,HI.o,hany]
 rw[hr];clear hr hany HF;go_enter Tryz.func105,Tryz.ntmps105;go_wp2_with(go_at_call 141;refine(H2.o _ HB.o _ HQ.o).mono ?_;rintro e w'⟨rfl,rfl⟩);go_ret;exact⟨rfl,HB.o⟩
def chk(t:Nt):Int:=if zcv t then 0 else 1
theorem yah{t:Nt}(h:zf7 t=false):chk t=1:=by simp[chk,zcv,h]
theorem zwz{t:Nt}{k:Nat}(hk:k<t.l.length)(h:ndOk (t.l.getD k default) t.n k=false):chk t=1:=by
 have:zcv t=false:=by
  rw[Bool.eq_false_iff];intro h'
  simp[zcv]at h'
  have:=h'.2 k hk;rw[h]at this;exact absurd this (by simp)
 simp[chk,this]
theorem zwy{t:Nt}(h:zf7 t=true)(h':zds t.l t.n t.l.length):chk t=0:=by simp[chk,zcv,h,h']
theorem zt1(n:Int)(a:Option Addr)(cap:Nat)(l:List Nd)(w:World)(hl:l.length<=1073741824)(hx:NdCells w a l):
 Calls Tryz.prog 71 #[.agg #[.int .i64 n,.slice a l.length cap]] w fun e w'=>e=.returned (.int .i64 (chk ⟨n,l⟩))/\Below w.heap.size w w':=by
 have HB:=lh ((Below.refl w.heap.size w).alloc (Nat.le_refl _) (.cells #[.int .i64 n,.slice a l.length cap] 71))
 by_cases hh:zf7 ⟨n,l⟩=true
 ·have HH:=lh hh
  simp[zf7]at hh
  obtain⟨⟨⟨h1,h2⟩,h3⟩,h4⟩:=hh
  have h1':decide (n<0)=false:=by simp;omega
  have h2':decide (128<n)=false:=by simp;omega
  have h3':decide ((l.length:Int)<1)=false:=by simp;omega
  have h4':decide ((65536:Int)<(l.length:Int))=false:=by simp;omega
  have HX:=lh hx;clear hx;go_enter Tryz.func71,Tryz.ntmps71;go_wp2
  go_loopw[28](fun i wr=>∃k:Nat,k<=l.length/\i=.int .i64 k/\zds l n k/\Below (w.heap.size+1) (w.alloc (.cells #[.int .i64 n,.slice a l.length cap] 71)) wr)(fun i _=>l.length-(intOf i).toNat)
  case atStart=>exact⟨0,Nat.zero_le _,rfl,fun j h=>absurd h (Nat.not_lt_zero _),Below.refl _ _⟩
  obtain⟨k,hk,rfl,hno,hb⟩:=hrel;have HN:=lh hno;have HBr:=lh hb;clear hno hb
  by_cases hlt:k<l.length
  ·obtain⟨b,off,rfl,hc⟩:=(HX.o.keep HB.o) k hlt;generalize hxe:l.getD k default=x at hc;have HXE:=lh hxe;clear hxe
   have hbk:Below (w.alloc (.cells #[.int .i64 n,.slice (some ⟨b,off,none⟩) l.length cap] 71)).heap.size (w.alloc (.cells #[.int .i64 n,.slice (some ⟨b,off,none⟩) l.length cap] 71)) wr:=by simpa using HBr.o
   have g0:wr.cell? ⟨w.heap.size,0,none⟩=some (.int .i64 n):=zab hbk (by rw[World.cell?_alloc_at _ _ _ _ rfl];rfl);obtain⟨c1,c2,a',cap',c3,ci,cl⟩:=hc.keep hbk;have hsz:w.heap.size<wr.heap.size:=zai g0;have hbz:b<wr.heap.size:=zai c1;have HCI:=lh ci;clear ci hbk hc
   cases hnd:ndOk x n k
   all_goals
    have HND:=lh hnd;clear hnd;go_wp2_with fail;refine(zsk _ _ _ _ _ _ _ _ cl (HCI.o.keep (ba _ _))).mono ?_;rw[show(⟨x.kind,x.lit,x.ins⟩:Nd)=x from rfl,HND.o];rintro e w1⟨rfl,hb1⟩
   ·go_wp2;go_ret;refine⟨zbu (zwz (k:=k) hlt (by show ndOk (l.getD k default) n k=false;rw[HXE.o];exact HND.o)).symm,?_⟩;exact(HB.o.trans (HBr.o.mono (by omega))).trans (((ba _ _).trans (hb1.mono (by simp))).mono (by omega))
   go_wp2;go_roundw
   case rel=>
    refine⟨k+1,by omega,by go_num,fun j hj=>?_,?_⟩
    ·by_cases e:j=k
     ·subst e;rw[HXE.o];exact HND.o
     exact HN.o j (by omega)
    exact HBr.o.trans (((ba _ _).trans (hb1.mono (by simp))).mono (by omega))
   case measure=>simp[intOf];omega
  have:k=l.length:=by omega
  subst this;go_wp2;go_ret;exact⟨zbu (zwy HH.o HN.o).symm,HB.o.trans (HBr.o.mono (by omega))⟩
 have hr:chk ⟨n,l⟩=1:=yah (by simpa using hh);rw[hr]
 have hd:¬(0<=n/\n<=128/\1<=l.length/\l.length<=65536):=by intro h;apply hh;simp[zf7];omega
 clear hh hr hx
 by_cases h1:n<0
 ·have h1':decide (n<0)=true:=by simpa using h1
  go_enter Tryz.func71,Tryz.ntmps71;go_wp2;go_ret;exact⟨rfl,HB.o⟩
 have h1':decide (n<0)=false:=by simpa using h1
 by_cases h2:128<n
 ·have h2':decide (128<n)=true:=by simpa using h2
  go_enter Tryz.func71,Tryz.ntmps71;go_wp2;go_ret;exact⟨rfl,HB.o⟩
 have h2':decide (128<n)=false:=by simpa using h2
 by_cases h3:(l.length:Int)<1
 ·have h3':decide ((l.length:Int)<1)=true:=by simpa using h3
  go_enter Tryz.func71,Tryz.ntmps71;go_wp2;go_ret;exact⟨rfl,HB.o⟩
 have h3':decide ((l.length:Int)<1)=false:=by simpa using h3
 have h4':decide ((65536:Int)<(l.length:Int))=true:=by simp;omega
 go_enter Tryz.func71,Tryz.ntmps71;go_wp2;go_ret;exact⟨rfl,HB.o⟩
end Go.Proofs.YtnlaakmglhjjmaaGreatDoor
