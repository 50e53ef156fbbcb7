/- Parts of the proofs of laws. Texts: Ls, Cp1, CpX, Cp2, CpY. -/
import Derived.Test.YtnlaakmglhjjmaaGreatDoorYC5
set_option maxHeartbeats 8000000
set_option maxRecDepth 100000
set_option linter.all false
namespace Go.Proofs.YtnlaakmglhjjmaaGreatDoor
open Go.RowKit Cen
def LsCells(w:World)(a:Option Addr)(t:List Cl):Prop:=∀i,i<t.length->∃b off ai ci,a=some ⟨b,off,none⟩/\w.cell? ⟨b,off+i,none⟩=some (.slice ai (t.getD i []).length ci)/\IntCells w ai (t.getD i [])
theorem LsCells.keep{w w':World}{a:Option Addr}{t:List Cl}(h:LsCells w a t)(hb:Below w.heap.size w w'):LsCells w' a t:=fun i hi=>by
 obtain⟨b,off,ai,ci,e,h1,h2⟩:=h i hi;exact⟨b,off,ai,ci,e,zab hb h1,h2.keep hb⟩
def zg0(n:Int):List Cl->Int
 |[]=>0
 |c::t=>if 128<c.length then 2 else if(c.all fun x=>zbn x n)=true then zg0 n t else 1
def chkT(n:Int)(t:List Cl):Int:=if n<0\/128<n then 6 else if 4096<t.length then 2 else zg0 n t
theorem zr8{n:Int}{t:List Cl}{k:Nat}(h:k<t.length):zg0 n (t.drop k)=if 128<(t.getD k []).length then 2 else if((t.getD k []).all fun x=>zbn x n)=true then zg0 n (t.drop (k+1))else 1:=by
 rw[List.drop_eq_getElem_cons h,zg0];simp[List.getD_eq_getElem?_getD,h]
theorem zn3(a b:Int)(ha1:-128<=a)(ha2:a<=128)(hb1:-128<=b)(hb2:b<=128)(w:World):
 Calls Tryz.prog 152 #[.int .i64 a,.int .i64 b] w fun e w'=>e=.returned (.int .i64 (cmpL a b))/\w=w':=by
 obtain⟨x1,x2⟩:=zcd a;obtain⟨y1,y2⟩:=zcd b;have HA:=lh (fun V=>zbe a V);have HB:=lh (fun V=>zbe b V)
 by_cases hv:zac a=zac b
 ·have HC:Hid (cmpL a b=a-b):=by show _=_;unfold cmpL;rw[if_neg (by omega)]
  have hvb:(zac a !=zac b)=false:=by simp[hv]
  clear hv;generalize zac a=x at*;generalize zac b=y at*;go_enter Tryz.func152,Tryz.ntmps152;go_wp2_with fail;refine(HA.o _).mono ?_;rintro e w'⟨rfl,rfl⟩;go_wp2_with fail;refine(HB.o _).mono ?_;rintro e w'⟨rfl,rfl⟩;go_wp2;go_ret;exact⟨zbu HC.o.symm,rfl⟩
 have HC:Hid (cmpL a b=zac a-zac b):=by show _=_;unfold cmpL;rw[if_pos (by omega)]
 have hvb:(zac a !=zac b)=true:=by simp[hv]
 clear hv;generalize zac a=x at*;generalize zac b=y at*;go_enter Tryz.func152,Tryz.ntmps152;go_wp2_with fail;refine(HA.o _).mono ?_;rintro e w'⟨rfl,rfl⟩;go_wp2_with fail;refine(HB.o _).mono ?_;rintro e w'⟨rfl,rfl⟩;go_wp2;go_ret;exact⟨zbu HC.o.symm,rfl⟩
theorem zpz(a b:Int)(ha1:-128<=a)(ha2:a<=128)(hb1:-128<=b)(hb2:b<=128)(w:World):
 Calls Tryz.prog 151 #[.int .i64 a,.int .i64 b] w fun e w'=>e=.returned (.int .i64 (cmpL a b))/\w=w':=by
 have HC:=lh (fun V=>zn3 a b ha1 ha2 hb1 hb2 V);go_enter Tryz.func151,Tryz.ntmps151;go_wp2_with fail;refine(HC.o _).mono ?_;rintro e w'⟨rfl,rfl⟩;go_wp2;go_ret;exact⟨rfl,rfl⟩
theorem znf(a b:Int)(ha1:-128<=a)(ha2:a<=128)(hb1:-128<=b)(hb2:b<=128)(w:World):
 Calls Tryz.prog 128 #[.int .i64 a,.int .i64 b] w fun e w'=>e=.returned (.int .i64 (cmpL a b))/\w=w':=by
 obtain⟨x1,x2⟩:=zcd a;obtain⟨y1,y2⟩:=zcd b;have HA:=lh (fun V=>zbe a V);have HB:=lh (fun V=>zbe b V)
 by_cases hv:zac a=zac b
 ·have HC:Hid (cmpL a b=a-b):=by show _=_;unfold cmpL;rw[if_neg (by omega)]
  have hvb:(zac a-zac b !=0)=false:=by simp[hv]
  clear hv;generalize zac a=x at*;generalize zac b=y at*;go_enter Tryz.func128,Tryz.ntmps128;go_wp2_with fail;refine(HA.o _).mono ?_;rintro e w'⟨rfl,rfl⟩;go_wp2_with fail;refine(HB.o _).mono ?_;rintro e w'⟨rfl,rfl⟩;go_wp2;go_ret;exact⟨zbu HC.o.symm,rfl⟩
 have HC:Hid (cmpL a b=zac a-zac b):=by show _=_;unfold cmpL;rw[if_pos (by omega)]
 have hvb:(zac a-zac b !=0)=true:=by simp;omega
 clear hv;generalize zac a=x at*;generalize zac b=y at*;go_enter Tryz.func128,Tryz.ntmps128;go_wp2_with fail;refine(HA.o _).mono ?_;rintro e w'⟨rfl,rfl⟩;go_wp2_with fail;refine(HB.o _).mono ?_;rintro e w'⟨rfl,rfl⟩;go_wp2;go_ret;exact⟨zbu HC.o.symm,rfl⟩
theorem zjg:∀(xs ys:Cl)(k:Nat),k<=xs.length->xs.length=ys.length->(∀j,j<k->cmpL (xs.getD j 0) (ys.getD j 0)=0)->lexC xs ys=lexC (xs.drop k) (ys.drop k)
 |_,_,0,_,_,_=>by simp
 |[],_,k+1,h,_,_=>by simp at h
 |_::_,[],k+1,_,h,_=>by simp at h
 |x::xs,y::ys,k+1,h,hl,hz=>by
   have h0:=hz 0 (by omega);simp at h0;rw[lexC,if_neg (by simpa using h0),List.drop_succ_cons,List.drop_succ_cons]
   exact zjg xs ys k (by simpa using h) (by simpa using hl) fun j hj=>by have:=hz (j+1) (by omega);simpa using this
theorem zxq{xs ys:Cl}{k:Nat}(hk:k<xs.length)(hl:xs.length=ys.length)(hz:∀j,j<k->cmpL (xs.getD j 0) (ys.getD j 0)=0)(hn:cmpL (xs.getD k 0) (ys.getD k 0)≠0):lexC xs ys=cmpL (xs.getD k 0) (ys.getD k 0):=by
 have hk2:k<ys.length:=by omega
 rw[zjg xs ys k (by omega) hl hz,List.drop_eq_getElem_cons hk,List.drop_eq_getElem_cons hk2,lexC]
 have e1:xs.getD k 0=xs[k]:=by simp[List.getD_eq_getElem?_getD,hk]
 have e2:ys.getD k 0=ys[k]:=by simp[List.getD_eq_getElem?_getD,hk2]
 rw[e1,e2]at hn⊢;rw[if_pos hn]
theorem zxp{xs ys:Cl}(hl:xs.length=ys.length)(hz:∀j,j<xs.length->cmpL (xs.getD j 0) (ys.getD j 0)=0):lexC xs ys=0:=by
 rw[zjg xs ys xs.length (Nat.le_refl _) hl hz,List.drop_length,hl,List.drop_length];rfl
theorem zo1:∀(args:Array Value)(w:World),(callFunc 128 args).run Tryz.prog w=.ok (.enter 128 args) w:=fun _ _=>by kernel_rfl
def litB(xs:Cl):Prop:=∀x∈xs,-128<=x/\x<=128
theorem zix(a b:Option Addr)(c d:Nat)(xs ys:Cl)(w:World)(hl:xs.length=ys.length)(hm:xs.length<=1073741824)(hx:IntCells w a xs)(hy:IntCells w b ys)(bx:litB xs)(bY:litB ys):
 Calls Tryz.prog 127 #[.slice a xs.length c,.slice b ys.length d,.func (.func 128) #[] #[]] w fun e w'=>e=.returned (.int .i64 (lexC xs ys))/\w=w':=by
 have HX:=lh hx;have HY:=lh hy;have HBX:=lh bx;have HBY:=lh bY;have hcc:=zo1;have HL:=lh hl;rw[<-hl];clear hx hy bx bY hl;go_enter Tryz.func127,Tryz.ntmps127;go_wp2
 go_loop[7,8,9,10,13](fun _ _ _ _ i=>∃k:Nat,k<=xs.length/\i=.int .i64 k/\∀j,j<k->cmpL (xs.getD j 0) (ys.getD j 0)=0)(fun _ _ _ _ i=>xs.length-(intOf i).toNat)
 case atStart=>exact⟨0,Nat.zero_le _,rfl,fun j h=>absurd h (Nat.not_lt_zero _)⟩
 obtain⟨k,hk,rfl,hz⟩:=hrel;have HZ:=lh hz;clear hz
 by_cases hlt:k<xs.length
 ·obtain⟨b1,o1,rfl,e1⟩:=HX.o k hlt;obtain⟨b2,o2,rfl,e2⟩:=HY.o k (by have:=HL.o;omega)
  have g1:xs.getD k 0=xs[k]:=by simp[List.getD_eq_getElem?_getD,hlt]
  have hlt2:k<ys.length:=by have:=HL.o;omega
  have g2:ys.getD k 0=ys[k]:=by simp[List.getD_eq_getElem?_getD,hlt2]
  have m1:=HBX.o xs[k] (List.getElem_mem hlt);have m2:=HBY.o ys[k] (List.getElem_mem hlt2);rw[<-g1]at m1;rw[<-g2]at m2;have HH:=lh (zxq hlt HL.o HZ.o)
  have HST:Hid (cmpL (xs.getD k 0) (ys.getD k 0)=0->∀j,j<k+1->cmpL (xs.getD j 0) (ys.getD j 0)=0):=fun h j hj=>by
   rcases Nat.lt_or_ge j k with h'|h'
   ·exact HZ.o j h'
   rw[show j=k by omega];exact h
  clear g1 g2 hlt2;generalize xs.getD k 0=x at*;generalize ys.getD k 0=y at*;have HC:=lh (fun V=>znf x y m1.1 m1.2 m2.1 m2.2 V)
  have hki:(k:Int)<(xs.length:Int):=by omega
  clear m1 m2
  by_cases hc:cmpL x y=0
  ·have hcb:(cmpL x y !=0)=false:=by simp[hc]
   have HS2:=lh (HST.o hc);clear hc;generalize cmpL x y=cv at*;go_wp2_with fail;refine(HC.o _).mono ?_;rintro e w'⟨rfl,rfl⟩;go_wp2;go_round
   case rel=>exact⟨k+1,by omega,by go_num,HS2.o⟩
   case measure=>simp[intOf];omega
  have hcb:(cmpL x y !=0)=true:=by simp[hc]
  have HH2:=lh (HH.o hc);clear hc;generalize cmpL x y=cv at*;go_wp2_with fail;refine(HC.o _).mono ?_;rintro e w'⟨rfl,rfl⟩;go_wp2;go_ret;exact⟨zbu HH2.o.symm,rfl⟩
 have:k=xs.length:=by omega
 subst this;have HE:=lh (zxp HL.o HZ.o);go_wp2;go_ret;exact⟨zbu HE.o.symm,rfl⟩
abbrev clv(a:Option Addr)(n c:Nat)(i:Int):Value:=.agg #[.slice a n c,.int .i64 i]
theorem zsy(a b:Option Addr)(c d:Nat)(i j:Int)(xs ys:Cl)(w:World)(hm:xs.length<=1073741824)(hm2:ys.length<=1073741824)(hx:IntCells w a xs)(hy:IntCells w b ys)(bx:litB xs)(bY:litB ys):
 Calls Tryz.prog 126 #[clv a xs.length c i,clv b ys.length d j] w fun e w'=>e=.returned (.int .i64 (cmpC xs ys))/\Below w.heap.size w w':=by
 have hb0:Below w.heap.size w ((w.alloc (.cells #[.slice a xs.length c,.int .i64 i] 163)).alloc (.cells #[.slice b ys.length d,.int .i64 j] 163)):=(ba _ _).alloc (by simp) _;have HB0:=lh hb0
 by_cases hl:xs.length=ys.length
 ·have HCF:=lh (zix a b c d xs ys _ hl hm (hx.keep hb0) (hy.keep hb0) bx bY)
  have HC:Hid (cmpC xs ys=lexC xs ys):=by show _=_;unfold cmpC;rw[if_neg (by omega)]
  have hd0:((xs.length:Int)-(ys.length:Int)!=0)=false:=by simp;omega
  clear hb0 hx hy bx bY hl;go_enter Tryz.func126,Tryz.ntmps126;go_wp2_with fail;refine HCF.o.mono ?_;rintro e w'⟨rfl,rfl⟩;go_wp2;go_ret;exact⟨zbu HC.o.symm,HB0.o⟩
 have HC:Hid (cmpC xs ys=(xs.length:Int)-(ys.length:Int)):=by show _=_;unfold cmpC;rw[if_pos (by omega)]
 have hd0:((xs.length:Int)-(ys.length:Int)!=0)=true:=by simp;omega
 clear hb0 hx hy bx bY hl;go_enter Tryz.func126,Tryz.ntmps126;go_wp2;go_ret;exact⟨zbu HC.o.symm,HB0.o⟩
end Go.Proofs.YtnlaakmglhjjmaaGreatDoor
namespace Cen
theorem zgk{α:Type}{l:List α}{i:Nat}(h:i<l.length)(x:α):(l[i]::l.set i x).Perm (x::l):=by
 have h1:l=l.take i++l[i]::l.drop (i+1):=by rw[List.getElem_cons_drop,List.take_append_drop]
 have h2:l.set i x=l.take i++x::l.drop (i+1):=List.set_eq_take_append_cons_drop.trans (by rw[if_pos h]);rw[h2]
 conv=>rhs;rw[h1]
 refine(List.Perm.cons _ List.perm_middle).trans ?_;refine(List.Perm.swap _ _ _).trans ?_;exact(List.Perm.cons _ List.perm_middle.symm)
section
variable{α:Type}[Inhabited α]
def gd(l:List α)(i:Nat):α:=l.getD i default
theorem zar{l:List α}{i:Nat}(h:i<l.length):gd l i=l[i]:=by unfold gd;simp[List.getD_eq_getElem?_getD,h]
theorem zxr{l m:List α}(hl:l.length=m.length)(h:∀i,i<l.length->gd l i=gd m i):l=m:=by
 apply List.ext_getElem hl
 intro i h1 h2;have:=h i h1
 rwa[zar h1,zar h2]at this
def swp(l:List α)(i j:Nat):List α:=(l.set i (gd l j)).set j (gd l i)
theorem zfd(l:List α)(i j:Nat):(swp l i j).length=l.length:=by simp[swp]
theorem zq8{l:List α}{i j:Nat}(hi:i<l.length)(hj:j<l.length)(t:Nat):gd (swp l i j) t=if t=j then gd l i else if t=i then gd l j else gd l t:=by
 unfold swp
 by_cases h2:t=j
 ·subst h2;rw[if_pos rfl]
  show((l.set i (gd l t)).set t (gd l i)).getD t default=_
  simp[List.getD_eq_getElem?_getD,hj]
 rw[if_neg h2]
 by_cases h1:t=i
 ·subst h1;rw[if_pos rfl]
  show((l.set t (gd l j)).set j (gd l t)).getD t default=_
  rw[List.getD_eq_getElem?_getD,List.getElem?_set_ne (show j≠t from fun e=>h2 e.symm),List.getElem?_set_self hi];rfl
 rw[if_neg h1]
 show((l.set i (gd l j)).set j (gd l i)).getD t default=l.getD t default
 simp[List.getD_eq_getElem?_getD,List.getElem?_set_ne (show j≠t from fun e=>h2 e.symm),List.getElem?_set_ne (show i≠t from fun e=>h1 e.symm)]
theorem zyt{l:List α}{i:Nat}(hi:i<l.length):swp l i i=l:=zxr (zfd _ _ _) fun t _=>by
 rw[zq8 hi hi];split
 ·rename_i h;rw[h]
 rfl
theorem zgp{l:List α}{i j:Nat}(hi:i<l.length)(hj:j<l.length):(swp l i j).Perm l:=by
 by_cases e:i=j
 ·subst e;rw[zyt hi]
 have h1:=zgk (l:=l) hi (gd l j)
 have hj':j<(l.set i (gd l j)).length:=by simpa using hj
 have h2:=zgk (l:=l.set i (gd l j)) hj' (gd l i)
 have ej:(l.set i (gd l j))[j]=gd l j:=by
  rw[List.getElem_set_ne e];exact(zar hj).symm
 rw[ej]at h2;rw[<-zar hi]at h1;have h3:=h2.trans h1;exact(List.perm_cons _).1 h3
def zdm(l:List α)(a b:Nat):Nat->List α
 |0=>l
 |k+1=>swp (zdm l a b k) (a+k) (b+k)
theorem zbv(l:List α)(a b:Nat):∀k,(zdm l a b k).length=l.length
 |0=>rfl
 |k+1=>by rw[zdm,zfd,zbv]
theorem zfc{l:List α}{a b:Nat}:∀k,a+k<=l.length->b+k<=l.length->(zdm l a b k).Perm l
 |0,_,_=>List.Perm.refl _
 |k+1,h1,h2=>by
   rw[zdm];exact(zgp (by rw[zbv];omega) (by rw[zbv];omega)).trans (zfc k (by omega) (by omega))
theorem zh9{l:List α}{a b:Nat}:∀k,a+k<=b->b+k<=l.length->∀t,gd (zdm l a b k) t=gd l (if a<=t/\t<a+k then t-a+b else if b<=t/\t<b+k then t-b+a else t)
 |0,_,_,t=>by rw[zdm,if_neg (by omega),if_neg (by omega)]
 |k+1,h1,h2,t=>by
   rw[zdm,zq8 (by rw[zbv];omega) (by rw[zbv];omega)];have ih:=zh9 (l:=l) (a:=a) (b:=b) k (by omega) (by omega)
   by_cases e1:t=b+k
   ·rw[if_pos e1,ih,if_neg (by omega),if_neg (by omega),if_neg (by omega),if_pos (by omega)];congr 1;omega
   rw[if_neg e1]
   by_cases e2:t=a+k
   ·rw[if_pos e2,ih,if_neg (by omega),if_neg (by omega),if_pos (by omega)];congr 1;omega
   rw[if_neg e2,ih]
   congr 1
   (repeat' split)<;>omega
def rot(p i j t:Nat):Nat:=if t<p then t else if t<p+j then t+i else if t<p+i+j then t-j else t
def IsRot(l' l:List α)(p i j:Nat):Prop:=l'.length=l.length/\∀t,gd l' t=gd l (rot p i j t)
end
end Cen
namespace Go.Proofs.YtnlaakmglhjjmaaGreatDoor
open Go.RowKit Cen
structure Ce where
 a:Option Addr
 c:Nat
 xs:Cl
 i:Int
instance:Inhabited Ce:=⟨⟨none,0,[],0⟩⟩
def ce(e:Ce):List Value:=[.slice e.a e.xs.length e.c,.int .i64 e.i]
theorem ziq(e:Ce):(ce e).length=2:=rfl
abbrev OwnC(w:World)(base:Nat)(v:Value)(l:List Ce):Prop:=OwnL ce 163 2 w base v l
theorem OwnC.c0{w:World}{base g cap n:Nat}{l:List Ce}(h:OwnC w base (.slice (some ⟨g,0,none⟩) n cap) l)(hn:n=l.length){i:Nat}(hi:i<l.length):w.cell? ⟨g,i*2,none⟩=some (.slice (gd l i).a (gd l i).xs.length (gd l i).c):=by
 have:=h.cell hn ziq i 0 hi (by omega);rw[zar hi];simpa[ce]using this
theorem OwnC.c1{w:World}{base g cap n:Nat}{l:List Ce}(h:OwnC w base (.slice (some ⟨g,0,none⟩) n cap) l)(hn:n=l.length){i:Nat}(hi:i<l.length):w.cell? ⟨g,i*2+1,none⟩=some (.int .i64 (gd l i).i):=by
 have:=h.cell hn ziq i 1 hi (by omega);rw[zar hi];simpa[ce]using this
theorem OwnC.swp{w:World}{base g cap n:Nat}{l:List Ce}(h:OwnC w base (.slice (some ⟨g,0,none⟩) n cap) l)(hn:n=l.length){i j:Nat}(hi:i<l.length)(hj:j<l.length):
 OwnC ((((w.setCell ⟨g,i*2,none⟩ (.slice (gd l j).a (gd l j).xs.length (gd l j).c)).setCell ⟨g,i*2+1,none⟩ (.int .i64 (gd l j).i)).setCell ⟨g,j*2,none⟩ (.slice (gd l i).a (gd l i).xs.length (gd l i).c)).setCell ⟨g,j*2+1,none⟩ (.int .i64 (gd l i).i)) base (.slice (some ⟨g,0,none⟩) n cap) (swp l i j):=by
 have h1:=h.put2 hn ziq i hi (gd l j) _ _ rfl;exact h1.put2 (by simpa using hn) ziq j (by simpa using hj) (gd l i) _ _ rfl
theorem zee(g cap base a b n:Nat)(l:List Ce)(fv:Value)(w:World)(ho:OwnC w base (.slice (some ⟨g,0,none⟩) l.length cap) l)(h1:a+n<=b)(h2:b+n<=l.length)(hm:l.length<=1073741824):
 Calls Tryz.prog 194 #[.slice (some ⟨g,0,none⟩) l.length cap,.int .i64 (a:Int),.int .i64 (b:Int),.int .i64 (n:Int),fv] w fun e w'=>e=.returned (.tuple #[])/\OwnC w' base (.slice (some ⟨g,0,none⟩) l.length cap) (zdm l a b n)/\Kp (fun y=>y=g) w w':=by
 have HO:=lh ho;clear ho;go_enter Tryz.func194,Tryz.ntmps194;go_wp2
 go_loopw[10](fun i wr=>∃k:Nat,k<=n/\i=.int .i64 k/\OwnC wr base (.slice (some ⟨g,0,none⟩) l.length cap) (zdm l a b k)/\Kp (fun y=>y=g) w wr)(fun i _=>n-(intOf i).toNat)
 case atStart=>exact⟨0,Nat.zero_le _,rfl,HO.o,Kp.refl _ _⟩
 obtain⟨k,hk,rfl,hown,hkp⟩:=hrel
 by_cases hlt:k<n
 ·have hl:=zbv l a b k
  have hia:a+k<(zdm l a b k).length:=by omega
  have hib:b+k<(zdm l a b k).length:=by omega
  have HS:Hid (zdm l a b (k+1)=swp (zdm l a b k) (a+k) (b+k)):=rfl;have HN:Hid (l.length=(zdm l a b k).length):=hl.symm;generalize zdm l a b k=m at*;have HOW:=lh (hown.swp HN.o hia hib);have HKP:=lh hkp;have a0:=hown.c0 HN.o hia;have a1:=hown.c1 HN.o hia;have b0:=hown.c0 HN.o hib;have b1:=hown.c1 HN.o hib;have f1:=hown.fr HN.o ((a+k)*2);have f2:=hown.fr HN.o ((a+k)*2+1);have f3:=hown.fr HN.o ((b+k)*2);have f4:=hown.fr HN.o ((b+k)*2+1);have gl:=hown.lt.1
  have HKS:Hid (∀c d e f,Kp (fun y=>y=g) w ((((wr.setCell ⟨g,(a+k)*2,none⟩ c).setCell ⟨g,(a+k)*2+1,none⟩ d).setCell ⟨g,(b+k)*2,none⟩ e).setCell ⟨g,(b+k)*2+1,none⟩ f)):=fun c d e f=>by
   have M:=Kp.setCell (M:=fun y=>y=g);exact Kp.trans (M:=fun y=>y=g) (Kp.trans (M:=fun y=>y=g) (Kp.trans (M:=fun y=>y=g) (Kp.trans (M:=fun y=>y=g) HKP.o (M _ _ _ rfl)) (M _ _ _ rfl)) (M _ _ _ rfl)) (M _ _ _ rfl)
  have e1:IntKind.i64.wrap ((a:Int)+(k:Int))=((a+k:Nat):Int):=by rw[IntWalk.i64_in _ (by omega)];omega
  have e2:IntKind.i64.wrap ((b:Int)+(k:Int))=((b+k:Nat):Int):=by rw[IntWalk.i64_in _ (by omega)];omega
  have hka:((a+k:Nat):Int)<(l.length:Int):=by omega
  have hkb:((b+k:Nat):Int)<(l.length:Int):=by omega
  have hka':a+k<l.length:=by omega
  have hkb':b+k<l.length:=by omega
  have E1:=lh e1;have E2:=lh e2
  have hkn:k+1<=n:=by omega
  generalize(gd m (a+k)).a=xa at*;generalize(gd m (a+k)).xs.length=xl at*;generalize(gd m (a+k)).c=xc at*;generalize(gd m (a+k)).i=xi at*;generalize(gd m (b+k)).a=ya at*;generalize(gd m (b+k)).xs.length=yl at*;generalize(gd m (b+k)).c=yc at*;generalize(gd m (b+k)).i=yi at*;clear hl hia hib hown hkp e1 e2;go_wp2_with fail;have e1:=E1.o;have e2:=E2.o;go_region
  all_goals
   clear e1 e2;go_wp2;go_roundw
   case rel=>exact⟨k+1,hkn,by go_num,by rw[HS.o];exact HOW.o.later (Below.refl _ _).drew,Kp.trans (M:=fun y=>y=g) (HKS.o _ _ _ _) (Kp.below (Below.refl _ _).drew)⟩
   case measure=>simp[intOf];omega
 have:k=n:=by omega
 subst this;have HOE:=lh hown;have HKE:=lh hkp;clear hown hkp;go_wp2
 go_end0
 exact⟨rfl,HOE.o,HKE.o⟩
theorem ival{k:IntKind}{a b:Int}(h:a=b):Value.int k a=.int k b:=by rw[h]
def ztn(g cap base:Nat)(l:List Ce)(a i j:Nat)(w:World)(e:Ending)(w':World):Prop:=
 ∃l',IsRot l' l a i j/\l'.Perm l/\e=.returned (.tuple #[])/\OwnC w' base (.slice (some ⟨g,0,none⟩) l.length cap) l'/\Kp (fun y=>y=g) w w'
def yb7(g cap base:Nat)(l:List Ce)(a m b p q:Nat)(w wr:World):Prop:=
 ∃cur,OwnC wr base (.slice (some ⟨g,0,none⟩) l.length cap) cur/\cur.Perm l/\(∀t,gd l (rot a (m-a) (b-m) t)=gd cur (rot (m-p) p q t))/\Kp (fun y=>y=g) w wr
theorem zs1(g cap base a m b:Nat)(l:List Ce)(fv:Value)(w:World)(ho:OwnC w base (.slice (some ⟨g,0,none⟩) l.length cap) l)(h1:a<m)(h2:m<b)(h3:b<=l.length)(hm:l.length<=1073741824):
 Calls Tryz.prog 186 #[.slice (some ⟨g,0,none⟩) l.length cap,.int .i64 (a:Int),.int .i64 (m:Int),.int .i64 (b:Int),fv] w (ztn g cap base l a (m-a) (b-m) w):=by
 have HR:Hid (yb7 g cap base l a m b (m-a) (b-m) w w):=⟨l,ho,List.Perm.refl _,fun t=>by rw[show m-(m-a)=a by omega],Kp.refl _ _⟩
 clear ho;go_enter Tryz.func186,Tryz.ntmps186;go_wp2
 go_loopw[10,11](fun i j wr=>∃p q:Nat,1<=p/\1<=q/\p<=m-a/\q<=b-m/\i=.int .i64 p/\j=.int .i64 q/\yb7 g cap base l a m b p q w wr)(fun i j _=>(intOf i).toNat+(intOf j).toNat)
 case atStart=>exact⟨m-a,b-m,by omega,by omega,Nat.le_refl _,Nat.le_refl _,ival (by omega),ival (by omega),HR.o⟩
 obtain⟨p,q,hp1,hq1,hp,hq,rfl,rfl,cur,hown,hperm,hpt,hkp⟩:=hrel;have hln:=hperm.length_eq;have HP:=lh hperm;have HT:=lh hpt;have HK:=lh hkp;have HO:=lh hown;clear hperm hpt hkp hown
 rcases Nat.lt_trichotomy p q with hlt|heq|hgt
 ·have hne:((p:Int)!=(q:Int))=true:=by simp;omega
  have hne2:decide ((q:Int)<(p:Int))=false:=by simp;omega
  have hne3:decide (q<p)=false:=by simp;omega
  have HC:Hid (∀V,OwnC V base (.slice (some ⟨g,0,none⟩) cur.length cap) cur->Calls Tryz.prog 194 #[.slice (some ⟨g,0,none⟩) l.length cap,.int .i64 ((m:Int)-(p:Int)),.int .i64 ((m:Int)+(q:Int)-(p:Int)),.int .i64 (p:Int),fv] V fun e w'=>e=.returned (.tuple #[])/\OwnC w' base (.slice (some ⟨g,0,none⟩) cur.length cap) (zdm cur (m-p) (m+q-p) p)/\Kp (fun y=>y=g) V w'):=lh fun V h=>by
   have h9:=zee g cap base (m-p) (m+q-p) p cur fv V h (by omega) (by omega) (by omega);rw[show((m-p:Nat):Int)=(m:Int)-(p:Int)by omega,show((m+q-p:Nat):Int)=(m:Int)+(q:Int)-(p:Int)by omega,hln]at h9;rw[hln];exact h9
  rw[<-hln]at HO;go_wp2_with fail;refine Calls.mono (HC.o _ HO.o) ?_;rintro e w'⟨rfl,hown,hkp⟩;have HO2:=lh hown;have HK2:=lh hkp;clear hown hkp;go_wp2;go_roundw
  case rel=>
   refine⟨p,q-p,hp1,by omega,hp,by omega,rfl,ival (by omega),zdm cur (m-p) (m+q-p) p,by rw[<-hln];exact HO2.o,(zfc p (by omega) (by omega)).trans HP.o,fun t=>?_,Kp.trans (M:=fun y=>y=g) HK.o HK2.o⟩;rw[HT.o t,zh9 p (by omega) (by omega)]
   congr 1
   unfold rot
   (repeat' split)<;>omega
  case measure=>simp[intOf];omega
 ·subst heq
  have hne:((p:Int)!=(p:Int))=false:=by simp
  have HC:Hid (∀V,OwnC V base (.slice (some ⟨g,0,none⟩) cur.length cap) cur->Calls Tryz.prog 194 #[.slice (some ⟨g,0,none⟩) l.length cap,.int .i64 ((m:Int)-(p:Int)),.int .i64 (m:Int),.int .i64 (p:Int),fv] V fun e w'=>e=.returned (.tuple #[])/\OwnC w' base (.slice (some ⟨g,0,none⟩) cur.length cap) (zdm cur (m-p) m p)/\Kp (fun y=>y=g) V w'):=lh fun V h=>by
   have h9:=zee g cap base (m-p) m p cur fv V h (by omega) (by omega) (by omega);rw[show((m-p:Nat):Int)=(m:Int)-(p:Int)by omega,hln]at h9;rw[hln];exact h9
  rw[<-hln]at HO;go_wp2_with fail;refine Calls.mono (HC.o _ HO.o) ?_;rintro e w'⟨rfl,hown,hkp⟩;have HO2:=lh hown;have HK2:=lh hkp;clear hown hkp;go_wp2
  go_end0
  refine⟨zdm cur (m-p) m p,⟨by rw[zbv,hln],fun t=>?_⟩,(zfc p (by omega) (by omega)).trans HP.o,rfl,by rw[<-hln];exact HO2.o,Kp.trans (M:=fun y=>y=g) HK.o HK2.o⟩;rw[HT.o t,zh9 p (by omega) (by omega)]
  congr 1
  unfold rot
  (repeat' split)<;>omega
 have hne:((p:Int)!=(q:Int))=true:=by simp;omega
 have hne2:decide ((q:Int)<(p:Int))=true:=by simp;omega
 have hne3:decide (q<p)=true:=by simp;omega
 have HC:Hid (∀V,OwnC V base (.slice (some ⟨g,0,none⟩) cur.length cap) cur->Calls Tryz.prog 194 #[.slice (some ⟨g,0,none⟩) l.length cap,.int .i64 ((m:Int)-(p:Int)),.int .i64 (m:Int),.int .i64 (q:Int),fv] V fun e w'=>e=.returned (.tuple #[])/\OwnC w' base (.slice (some ⟨g,0,none⟩) cur.length cap) (zdm cur (m-p) m q)/\Kp (fun y=>y=g) V w'):=lh fun V h=>by
  have h9:=zee g cap base (m-p) m q cur fv V h (by omega) (by omega) (by omega);rw[show((m-p:Nat):Int)=(m:Int)-(p:Int)by omega,hln]at h9;rw[hln];exact h9
 rw[<-hln]at HO;go_wp2_with fail;refine Calls.mono (HC.o _ HO.o) ?_;rintro e w'⟨rfl,hown,hkp⟩;have HO2:=lh hown;have HK2:=lh hkp;clear hown hkp;go_wp2;go_roundw
 case rel=>
  refine⟨p-q,q,by omega,hq1,by omega,hq,ival (by omega),rfl,zdm cur (m-p) m q,by rw[<-hln];exact HO2.o,(zfc q (by omega) (by omega)).trans HP.o,fun t=>?_,Kp.trans (M:=fun y=>y=g) HK.o HK2.o⟩;rw[HT.o t,zh9 q (by omega) (by omega)]
  congr 1
  unfold rot
  (repeat' split)<;>omega
 case measure=>simp[intOf];omega
end Go.Proofs.YtnlaakmglhjjmaaGreatDoor
namespace Cen
section
variable{α:Type}[Inhabited α]
def Sd(le:α->α->Prop)(l:List α)(a b:Nat):Prop:=∀i j,a<=i->i<j->j<b->le (gd l i) (gd l j)
structure Ord(le:α->α->Prop):Prop where
 tot:∀x y,le x y\/le y x
 tr:∀x y z,le x y->le y z->le x z
theorem Ord.rf{β:Type}{le:β->β->Prop}(h:Ord le)(x:β):le x x:=(h.tot x x).elim id id
def insI(k j t:Nat):Nat:=if t<j then t else if t=j then k else if t<=k then t-1 else t
def Ins(l m:List α)(k j:Nat):Prop:=m.length=l.length/\∀t,gd m t=gd l (insI k j t)
theorem Ins.start(l:List α)(k:Nat):Ins l l k k:=⟨rfl,fun t=>by
 congr 1;unfold insI;(repeat' split)<;>omega⟩
theorem Ins.step{l m:List α}{k j:Nat}(h:Ins l m k j)(hj:0<j)(hk:j<=k)(hl:k<l.length):Ins l (swp m j (j-1)) k (j-1):=by
 obtain⟨h1,h2⟩:=h;refine⟨by rw[zfd,h1],fun t=>?_⟩;rw[zq8 (by omega) (by omega)]
 by_cases e1:t=j-1
 ·rw[if_pos e1,h2];congr 1;unfold insI;(repeat' split)<;>omega
 rw[if_neg e1]
 by_cases e2:t=j
 ·rw[if_pos e2,h2];congr 1;unfold insI;(repeat' split)<;>omega
 rw[if_neg e2,h2];congr 1;unfold insI;(repeat' split)<;>omega
theorem Ins.sorted{le:α->α->Prop}(O:Ord le){l m:List α}{a k j:Nat}(h:Ins l m k j)(hs:Sd le l a k)(haj:a<=j)(hjk:j<=k)(h1:j=a\/le (gd l (j-1)) (gd l k))(h2:∀t,j<=t->t<k->le (gd l k) (gd l t)):Sd le m a (k+1):=by
 intro x y hx hxy hy;rw[h.2 x,h.2 y]
 by_cases x1:x<j
 ·rw[show insI k j x=x by unfold insI;rw[if_pos x1]]
  have hxk:le (gd l x) (gd l k):=by
   rcases h1 with h1|h1
   ·omega
   by_cases e:x=j-1
   ·rw[e];exact h1
   exact O.tr _ _ _ (hs x (j-1) hx (by omega) (by omega)) h1
  by_cases y1:y<j
  ·rw[show insI k j y=y by unfold insI;rw[if_pos y1]];exact hs x y hx hxy (by omega)
  by_cases y2:y=j
  ·rw[show insI k j y=k by unfold insI;(repeat' split)<;>omega];exact hxk
  rw[show insI k j y=y-1 by unfold insI;(repeat' split)<;>omega];exact hs x (y-1) hx (by omega) (by omega)
 rw[show insI k j y=y-1 by unfold insI;(repeat' split)<;>omega]
 by_cases x2:x=j
 ·rw[show insI k j x=k by unfold insI;(repeat' split)<;>omega];exact h2 (y-1) (by omega) (by omega)
 rw[show insI k j x=x-1 by unfold insI;(repeat' split)<;>omega];exact hs (x-1) (y-1) (by omega) (by omega) (by omega)
def movI(k j t:Nat):Nat:=if t<k then t else if t<j then t+1 else if t=j then k else t
def Mov(l m:List α)(k j:Nat):Prop:=m.length=l.length/\∀t,gd m t=gd l (movI k j t)
theorem Mov.start(l:List α)(k:Nat):Mov l l k k:=⟨rfl,fun t=>by
 congr 1;unfold movI;(repeat' split)<;>omega⟩
theorem Mov.step{l m:List α}{k j:Nat}(h:Mov l m k j)(hk:k<=j)(hl:j+1<l.length):Mov l (swp m j (j+1)) k (j+1):=by
 obtain⟨h1,h2⟩:=h;refine⟨by rw[zfd,h1],fun t=>?_⟩;rw[zq8 (by omega) (by omega)]
 by_cases e1:t=j+1
 ·rw[if_pos e1,h2];congr 1;unfold movI;(repeat' split)<;>omega
 rw[if_neg e1]
 by_cases e2:t=j
 ·rw[if_pos e2,h2];congr 1;unfold movI;(repeat' split)<;>omega
 rw[if_neg e2,h2];congr 1;unfold movI;(repeat' split)<;>omega
structure Mg(le:α->α->Prop)(l l':List α)(a b:Nat):Prop where
 perm:l'.Perm l
 out:∀t,t<a\/b<=t->gd l' t=gd l t
 inn:∀t,a<=t->t<b->∃s,a<=s/\s<b/\gd l' t=gd l s
 so:Sd le l' a b
theorem Mov.merge{le:α->α->Prop}{l m:List α}{a b i:Nat}(h:Mov l m a (i-1))(hp:m.Perm l)(hi:a+1<=i)(hib:i<=b)(hs:Sd le l (a+1) b)(h1:∀t,a+1<=t->t<i->le (gd l t) (gd l a))(h2:∀t,i<=t->t<b->le (gd l a) (gd l t)):Mg le l m a b:=by
 refine⟨hp,fun t ht=>?_,fun t h3 h4=>⟨_,?_,?_,h.2 t⟩,fun x y hx hxy hy=>?_⟩
 ·rw[h.2 t];congr 1;unfold movI;(repeat' split)<;>omega
 ·unfold movI;(repeat' split)<;>omega
 ·unfold movI;(repeat' split)<;>omega
 rw[h.2 x,h.2 y]
 by_cases x1:x<i-1
 ·rw[show movI a (i-1) x=x+1 by unfold movI;(repeat' split)<;>omega]
  by_cases y1:y<i-1
  ·rw[show movI a (i-1) y=y+1 by unfold movI;(repeat' split)<;>omega];exact hs _ _ (by omega) (by omega) (by omega)
  by_cases y2:y=i-1
  ·rw[show movI a (i-1) y=a by unfold movI;(repeat' split)<;>omega];exact h1 _ (by omega) (by omega)
  rw[show movI a (i-1) y=y by unfold movI;(repeat' split)<;>omega];exact hs _ _ (by omega) (by omega) (by omega)
 rw[show movI a (i-1) y=y by unfold movI;(repeat' split)<;>omega]
 by_cases x2:x=i-1
 ·rw[show movI a (i-1) x=a by unfold movI;(repeat' split)<;>omega];exact h2 _ (by omega) (by omega)
 rw[show movI a (i-1) x=x by unfold movI;(repeat' split)<;>omega];exact hs _ _ (by omega) (by omega) (by omega)
theorem Ins.merge{le:α->α->Prop}(O:Ord le){l m:List α}{a k i:Nat}(h:Ins l m k i)(hp:m.Perm l)(hi:a<=i)(hik:i<=k)(hs:Sd le l a k)(h1:∀t,a<=t->t<i->le (gd l t) (gd l k))(h2:∀t,i<=t->t<k->le (gd l k) (gd l t)):Mg le l m a (k+1):=by
 refine⟨hp,fun t ht=>?_,fun t h3 h4=>⟨_,?_,?_,h.2 t⟩,h.sorted O hs hi hik ?_ h2⟩
 ·rw[h.2 t];congr 1;unfold insI;(repeat' split)<;>omega
 ·unfold insI;(repeat' split)<;>omega
 ·unfold insI;(repeat' split)<;>omega
 by_cases e:i=a
 ·exact .inl e
 exact .inr (h1 (i-1) (by omega) (by omega))
theorem Sd.join{le:α->α->Prop}{l:List α}{a m b:Nat}(h1:Sd le l a m)(h2:Sd le l m b)(h:∀i j,a<=i->i<m->m<=j->j<b->le (gd l i) (gd l j)):Sd le l a b:=by
 intro x y hx hxy hy
 by_cases c:y<m
 ·exact h1 x y hx hxy c
 by_cases d:x<m
 ·exact h x y hx d (by omega) hy
 exact h2 x y (by omega) hxy hy
theorem Mg.nil{le:α->α->Prop}{l:List α}{a b:Nat}(h:Sd le l a b):Mg le l l a b:=⟨List.Perm.refl _,fun _ _=>rfl,fun t h1 h2=>⟨t,h1,h2,rfl⟩,h⟩
theorem Mg.sym{le:α->α->Prop}{l r p q:List α}{a m b mid start n en:Nat}(hn:n=mid+m)(hen:en+start=n)(ham:a<=start)(hsm:start<=m)(hme:m<=en)(heb:en<=b)(hmid1:a<=mid)(hmid2:mid<=b)
 (hs1:Sd le l a m)(hs2:Sd le l m b)
 (hrp:r.Perm l)(hr:∀t,gd r t=gd l (rot start (m-start) (en-m) t))
 (hlo:∀t,a<=t->t<start->∀u,en<=u->u<b->le (gd l t) (gd l u))(hhi:∀t,start<=t->t<m->∀u,m<=u->u<en->le (gd l u) (gd l t))
 (hp:Mg le r p a mid)(hq:Mg le p q mid b):Mg le l q a b:=by
 have cross:∀i j,a<=i->i<mid->mid<=j->j<b->le (gd r i) (gd r j):=fun i j h1 h2 h3 h4=>by
  rw[hr i,hr j]
  have ei:rot start (m-start) (en-m) i=if i<start then i else i+(m-start):=by unfold rot;(repeat' split)<;>omega
  have ej:rot start (m-start) (en-m) j=if j<en then j-(en-m)else j:=by unfold rot;(repeat' split)<;>omega
  rw[ei,ej]
  by_cases c1:i<start
  ·rw[if_pos c1]
   by_cases c2:j<en
   ·rw[if_pos c2];exact hs1 _ _ (by omega) (by omega) (by omega)
   rw[if_neg c2];exact hlo i (by omega) c1 j (by omega) h4
  rw[if_neg c1]
  by_cases c2:j<en
  ·rw[if_pos c2];exact hhi (j-(en-m)) (by omega) (by omega) (i+(m-start)) (by omega) (by omega)
  rw[if_neg c2];exact hs2 _ _ (by omega) (by omega) (by omega)
 have hout:∀t,t<a\/b<=t->gd r t=gd l t:=fun t ht=>by
  rw[hr t]
  congr 1
  unfold rot;(repeat' split)<;>omega
 have hinn:∀t,a<=t->t<b->∃s,a<=s/\s<b/\gd r t=gd l s:=fun t h1 h2=>⟨_,by unfold rot;(repeat' split)<;>omega,by unfold rot;(repeat' split)<;>omega,hr t⟩
 refine⟨hq.perm.trans (hp.perm.trans hrp),fun t ht=>?_,fun t h1 h2=>?_,?_⟩
 ·rw[hq.out t (by omega),hp.out t (by omega),hout t ht]
 ·have step2:∀t,a<=t->t<b->∃s,a<=s/\s<b/\gd p t=gd r s:=fun t h1 h2=>by
   by_cases c:t<mid
   ·obtain⟨s,s1,s2,e⟩:=hp.inn t h1 c;exact⟨s,s1,by omega,e⟩
   exact⟨t,h1,h2,hp.out t (by omega)⟩
  have step3:∃s,a<=s/\s<b/\gd q t=gd p s:=by
   by_cases c:t<mid
   ·exact⟨t,h1,h2,hq.out t (by omega)⟩
   obtain⟨s,s1,s2,e⟩:=hq.inn t (by omega) h2;exact⟨s,by omega,s2,e⟩
  obtain⟨s,s1,s2,e⟩:=step3;obtain⟨u,u1,u2,e'⟩:=step2 s s1 s2;obtain⟨v,v1,v2,e''⟩:=hinn u u1 u2;exact⟨v,v1,v2,by rw[e,e',e'']⟩
 refine Sd.join (m:=mid) (fun x y hx hxy hy=>?_) hq.so fun i j h1 h2 h3 h4=>?_
 ·rw[hq.out x (by omega),hq.out y (by omega)];exact hp.so x y hx hxy hy
 rw[hq.out i (by omega)];obtain⟨s,s1,s2,e⟩:=hq.inn j h3 h4;obtain⟨u,u1,u2,e'⟩:=hp.inn i h1 h2;rw[e,e',hp.out s (by omega)];exact cross u s u1 u2 s1 s2
end
end Cen
