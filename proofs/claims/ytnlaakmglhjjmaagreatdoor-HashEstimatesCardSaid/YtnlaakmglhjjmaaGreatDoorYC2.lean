/- Parts of the proofs of laws. Texts: Net, Base, Lit, Set0, Sets, Flat. -/
import Derived.Test.YtnlaakmglhjjmaaGreatDoorProg
import Derived.WalkSpells
import Derived.WalkLawsBesides
import Derived.BigQuiet
import Derived.Test.YtnlaakmglhjjmaaGreatDoorYC1
set_option maxHeartbeats 8000000
set_option maxRecDepth 100000
set_option linter.all false
namespace Cen
structure Nd where
 kind:Int
 lit:Int
 ins:List Int
instance:Inhabited Nd:=⟨⟨0,0,[]⟩⟩
instance:DecidableEq Nd:=fun a b=>
 decidable_of_iff (a.kind=b.kind/\a.lit=b.lit/\a.ins=b.ins) (by cases a;cases b;simp)
structure Nt where
 n:Int
 l:List Nd
def zac(l:Int):Int:=if 1<=l/\l<=128 then l else if l<=-1/\-128<=l then-l else 0
theorem zcd(l:Int):0<=zac l/\zac l<=128:=by unfold zac;(repeat' split)<;>omega
theorem zes{l:Int}(h:zac l≠0):(1<=l/\l<=128/\zac l=l)\/(l<=-1/\-128<=l/\zac l=-l):=by
 unfold zac at*
 by_cases h1:1<=l/\l<=128
 ·rw[if_pos h1]at*;omega
 rw[if_neg h1]at*
 by_cases h2:l<=-1/\-128<=l
 ·rw[if_pos h2]at*;omega
 rw[if_neg h2]at h;exact absurd rfl h
def zbn(l n:Int):Bool:=decide (zac l≠0)&&decide (zac l<=n)
def zeg(ins:List Int)(before:Int):Bool:=ins.all fun i=>decide (0<=i)&&decide (i<before)
def zch(x:Nd)(n:Int):Bool:=
 if x.kind=0\/x.kind=1 then decide (x.lit=0)&&decide (x.ins.length=0)
 else if x.kind=2 then zbn x.lit n&&decide (x.ins.length=0)
 else if x.kind=3\/x.kind=4 then decide (x.lit=0)
 else false
def ndOk(x:Nd)(n before:Int):Bool:=zeg x.ins before&&zch x n
def zds(l:List Nd)(n:Int)(k:Nat):Prop:=∀j,j<k->ndOk (l.getD j default) n j=true
instance(l:List Nd)(n:Int)(k:Nat):Decidable (zds l n k):=
 decidable_of_iff (∀j,j∈List.range k->ndOk (l.getD j default) n j=true) (by simp[zds])
def zf7(t:Nt):Bool:=decide (0<=t.n)&&decide (t.n<=128)&&decide (1<=t.l.length)&&decide (t.l.length<=65536)
def zcv(t:Nt):Bool:=zf7 t&&decide (zds t.l t.n t.l.length)
theorem zri{t:Nt}(h:zcv t=true){k:Nat}(hk:k<t.l.length):ndOk t.l[k] t.n k=true:=by
 simp[zcv]at h
 have:=h.2 k hk
 simpa[List.getD_eq_getElem?_getD,hk]using this
theorem zvi{t:Nt}(h:zcv t=true){k:Nat}(hk:k<t.l.length):∀i∈t.l[k].ins,0<=i/\i<k:=by
 have:=zri h hk
 simp[ndOk,zeg]at this
 exact this.1
theorem ze7{t:Nt}(h:zcv t=true):0<=t.n/\t.n<=128/\1<=t.l.length/\t.l.length<=65536:=by
 simp[zcv,zf7]at h;omega
def zcj(s:Int->Bool)(l:Int):Bool:=decide (zac l≠0)&&(s (zac l)==decide (0<l))
def evNd(s:Int->Bool)(f:Int->Bool)(x:Nd):Bool:=
 if x.kind=1 then true
 else if x.kind=2 then zcj s x.lit
 else if x.kind=3 then x.ins.all f
 else if x.kind=4 then x.ins.any f
 else false
def at'(vs:List Bool)(i:Int):Bool:=vs.getD i.toNat false
def evs(s:Int->Bool):List Nd->List Bool->List Bool
 |[],vs=>vs
 |x::l,vs=>evs s l (vs++[evNd s (at' vs) x])
def zhf(s:Int->Bool)(l:List Nd):List Bool:=evs s l []
def ev(s:Int->Bool)(t:Nt):Bool:=(zhf s t.l).getD (t.l.length-1) false
theorem zsh(s:Int->Bool)(l r:List Nd)(vs:List Bool):evs s (l++r) vs=evs s r (evs s l vs):=by
 induction l generalizing vs with
 |nil=>rfl
 |cons y l ih=>simp only[List.cons_append,evs];exact ih _
theorem zhx(s:Int->Bool)(l r:List Nd):zhf s (l++r)=evs s r (zhf s l):=zsh s l r []
theorem ztb(s:Int->Bool)(l:List Nd)(x:Nd):zhf s (l++[x])=zhf s l++[evNd s (at' (zhf s l)) x]:=zhx s l [x]
theorem zkz(s:Int->Bool)(l:List Nd)(vs:List Bool):∃us,evs s l vs=vs++us/\us.length=l.length:=by
 induction l generalizing vs with
 |nil=>exact⟨[],by simp[evs],rfl⟩
 |cons y l ih=>
   obtain⟨us,h,hl⟩:=ih (vs++[evNd s (at' vs) y]);exact⟨evNd s (at' vs) y::us,by simp[evs,h],by simp[hl]⟩
theorem zhy(s:Int->Bool)(l:List Nd):(zhf s l).length=l.length:=by
 obtain⟨us,h,hl⟩:=zkz s l []
 simp[zhf,h,hl]
def T(s:Int->Bool)(l:List Nd)(i:Int):Bool:=at' (zhf s l) i
theorem zwn(s:Int->Bool)(l r:List Nd)(i:Int)(h:i<l.length)(h0:0<=i):T s (l++r) i=T s l i:=by
 obtain⟨us,hu,_⟩:=zkz s r (zhf s l);unfold T at';rw[zhx,hu]
 have:i.toNat<(zhf s l).length:=by rw[zhy];omega
 simp[List.getD_eq_getElem?_getD,List.getElem?_append_left this]
theorem zy9(s:Int->Bool)(l:List Nd)(k:Nat)(i:Int)(h:i<k)(h0:0<=i)(hk:k<=l.length):T s l i=T s (l.take k) i:=by
 rw[<-zwn s (l.take k) (l.drop k) i (by simp;omega) h0,List.take_append_drop]
theorem zky(s:Int->Bool)(f g:Int->Bool)(x:Nd)(h:∀i∈x.ins,f i=g i):evNd s f x=evNd s g x:=by
 have h1:x.ins.all f=x.ins.all g:=by
  rw[Bool.eq_iff_iff,List.all_eq_true,List.all_eq_true];exact⟨fun a i hi=>by rw[<-h i hi];exact a i hi,fun a i hi=>by rw[h i hi];exact a i hi⟩
 have h2:x.ins.any f=x.ins.any g:=by
  rw[Bool.eq_iff_iff,List.any_eq_true,List.any_eq_true];exact⟨fun⟨i,hi,a⟩=>⟨i,hi,by rw[<-h i hi];exact a⟩,fun⟨i,hi,a⟩=>⟨i,hi,by rw[h i hi];exact a⟩⟩
 unfold evNd;rw[h1,h2]
theorem zer{ins:List Int}{b:Int}:zeg ins b=true↔∀i∈ins,0<=i/\i<b:=by simp[zeg]
theorem zy8(s:Int->Bool)(l:List Nd)(x:Nd):T s (l++[x]) l.length=evNd s (T s l) x:=by
 have h:(zhf s l).length=l.length:=zhy s l;unfold T at';rw[ztb,<-h]
 simp
 rfl
theorem T_eq(s:Int->Bool)(l:List Nd)(i:Nat)(hi:i<l.length)(hin:zeg (l.getD i default).ins i=true):T s l i=evNd s (T s l) (l.getD i default):=by
 rw[zer]at hin
 have e:l.getD i default=l[i]:=by simp[List.getD_eq_getElem?_getD,hi]
 rw[e]at hin⊢;rw[zy9 s l (i+1) i (by omega) (by omega) (by omega),List.take_succ_eq_append_getElem hi];have:=zy8 s (l.take i) l[i];rw[show((List.take i l).length:Int)=i by simp;omega]at this;rw[this]
 apply zky
 intro j hj;exact(zy9 s l i j (by have:=(hin j hj).2;omega) (hin j hj).1 (by omega)).symm
theorem yco(s:Int->Bool)(t:Nt)(_h:1<=t.l.length):ev s t=T s t.l (t.l.length-1:Nat):=rfl
end Cen
namespace Go.Proofs.YtnlaakmglhjjmaaGreatDoor
open Go.RowKit Cen
theorem zbu{k:IntKind}{a b:Int}(h:a=b):Ending.returned (.int k a)=.returned (.int k b):=by rw[h]
theorem zbg{a b:Bool}(h:a=b):Ending.returned (.bool a)=.returned (.bool b):=by rw[h]
theorem zab{w w':World}(h:Below w.heap.size w w'){p:Addr}{v:Value}(hc:w.cell? p=some v):w'.cell? p=some v:=by
 rw[h.cell ?_];exact hc
 rcases Nat.lt_or_ge p.block w.heap.size with h'|h'
 ·exact h'
 simp[World.cell?,Array.getElem?_eq_none h']at hc
theorem zai{w:World}{p:Addr}{v:Value}(hc:w.cell? p=some v):p.block<w.heap.size:=by
 rcases Nat.lt_or_ge p.block w.heap.size with h'|h'
 ·exact h'
 simp[World.cell?,Array.getElem?_eq_none h']at hc
def IntCells(w:World)(a:Option Addr)(xs:List Int):Prop:=
 ∀i,i<xs.length->∃b off,a=some ⟨b,off,none⟩/\w.cell? ⟨b,off+i,none⟩=some (.int .i64 (xs.getD i 0))
theorem IntCells.keep{w w':World}{a:Option Addr}{xs:List Int}(h:IntCells w a xs)(hb:Below w.heap.size w w'):IntCells w' a xs:=
 fun i hi=>let⟨b,off,e,hc⟩:=h i hi;⟨b,off,e,zab hb hc⟩
theorem IntCells.nil(w:World)(a:Option Addr):IntCells w a []:=fun _ h=>absurd h (Nat.not_lt_zero _)
def NdCell(w:World)(b o:Nat)(x:Nd):Prop:=
 w.cell? ⟨b,o,none⟩=some (.int .i64 x.kind)/\w.cell? ⟨b,o+1,none⟩=some (.int .i64 x.lit)/\
 ∃a cap,w.cell? ⟨b,o+2,none⟩=some (.slice a x.ins.length cap)/\IntCells w a x.ins/\x.ins.length<=1073741824
theorem NdCell.keep{w w':World}{b o:Nat}{x:Nd}(h:NdCell w b o x)(hb:Below w.heap.size w w'):NdCell w' b o x:=
 let⟨h1,h2,a,cap,h3,h4,h5⟩:=h;⟨zab hb h1,zab hb h2,a,cap,zab hb h3,h4.keep hb,h5⟩
def NdCells(w:World)(a:Option Addr)(l:List Nd):Prop:=
 ∀i,i<l.length->∃b off,a=some ⟨b,off,none⟩/\NdCell w b (off+i*3) (l.getD i default)
theorem NdCells.keep{w w':World}{a:Option Addr}{l:List Nd}(h:NdCells w a l)(hb:Below w.heap.size w w'):NdCells w' a l:=
 fun i hi=>let⟨b,off,e,hc⟩:=h i hi;⟨b,off,e,hc.keep hb⟩
def idx(p:Int->Bool)(xs:List Int):Int:=match xs.findIdx? p with|some i=>i|none=>-1
theorem zpt(p:Int->Bool)(xs:List Int)(k:Nat)(hk:k<xs.length)(hno:∀j,j<k->p (xs.getD j 0)=false)(h:p xs[k]=true):idx p xs=k:=by
 have:xs.findIdx? p=some k:=by
  rw[List.findIdx?_eq_some_iff_getElem];refine⟨hk,h,fun j hj=>?_⟩;have:=hno j hj
  have hj':j<xs.length:=by omega
  simp[List.getD_eq_getElem?_getD,hj']at this
  simp[this]
 simp[idx,this]
theorem zmi(p:Int->Bool)(xs:List Int)(hno:∀j,j<xs.length->p (xs.getD j 0)=false):idx p xs=-1:=by
 have:xs.findIdx? p=none:=by
  rw[List.findIdx?_eq_none_iff];intro x hx;obtain⟨j,hj,rfl⟩:=List.getElem_of_mem hx;have:=hno j hj
  simpa[List.getD_eq_getElem?_getD,hj]using this
 simp[idx,this]
theorem zps(p:Int->Bool)(xs:List Int):decide (0<=idx p xs)=xs.any p:=by
 unfold idx
 cases h:xs.findIdx? p with
 |none=>simp[List.findIdx?_eq_none_iff]at h⊢;intro x hx;simp[h x hx]
 |some i=>
   rw[List.findIdx?_eq_some_iff_getElem]at h;obtain⟨hi,hpi,_⟩:=h;have:xs.any p=true:=List.any_eq_true.2 ⟨_,List.getElem_mem hi,hpi⟩;rw[this];simp
theorem zbe(l:Int)(w:World):Calls Tryz.prog 73 #[.int .i64 l] w fun e w'=>e=.returned (.int .i64 (zac l))/\w=w':=by
 go_enter Tryz.func73,Tryz.ntmps73;go_wp2
 all_goals(go_ret;exact⟨zbu (by unfold zac;(try simp at*);(repeat' split)<;>omega),rfl⟩)
theorem zcs(l n:Int)(w:World):Calls Tryz.prog 57 #[.int .i64 l,.int .i64 n] w fun e w'=>e=.returned (.bool (zbn l n))/\w=w':=by
 have hb:=zcd l
 by_cases h0:zac l=0
 ·have h1:(zac l !=0)=false:=by simp[h0]
  have hr:zbn l n=false:=by simp[zbn,h0]
  rw[hr];clear hr h0;go_enter Tryz.func57,Tryz.ntmps57;go_wp2_with(go_at_call 73;refine(zbe _ _).mono ?_;rintro e w'⟨rfl,rfl⟩);go_ret;exact⟨rfl,rfl⟩
 have h1:(zac l !=0)=true:=by simp[h0]
 have hr:zbn l n=decide (zac l<=n):=by simp[zbn,h0]
 rw[hr];clear hr h0;go_enter Tryz.func57,Tryz.ntmps57;go_wp2_with(go_at_call 73;refine(zbe _ _).mono ?_;rintro e w'⟨rfl,rfl⟩);go_ret;exact⟨rfl,rfl⟩
def za8(g:FuncId):Prop:=∀(args:Array Value)(w:World),(callFunc g args).run Tryz.prog w=.ok (.enter g args) w
theorem zd7(a:Option Addr)(cap:Nat)(xs:List Int)(g:FuncId)(cs:Array Value)(p:Int->Bool)(w:World)(hl:xs.length<=1073741824)
 (hx:IntCells w a xs)(hp:∀x,x∈xs->Calls Tryz.prog g (#[.int .i64 x]++cs) w fun e w'=>e=.returned (.bool (p x))/\w=w')(hcf0:za8 g):
 Calls Tryz.prog 156 #[.slice a xs.length cap,.func (.func g) #[] cs] w fun e w'=>e=.returned (.int .i64 (idx p xs))/\w=w':=by
 have HX:=lh hx;have HP:=lh hp;have hcf:∀(args:Array Value)(w:World),(callFunc g args).run Tryz.prog w=.ok (.enter g args) w:=hcf0;clear hx hp hcf0;go_enter Tryz.func156,Tryz.ntmps156;go_wp2
 go_loop[5,8](fun v i=>∃k:Nat,k<=xs.length/\i=.int .i64 k/\(∀j,j<k->p (xs.getD j 0)=false))(fun _ i=>xs.length-(intOf i).toNat)
 case atStart=>exact⟨0,Nat.zero_le _,rfl,fun j h=>absurd h (Nat.not_lt_zero _)⟩
 obtain⟨k,hk,rfl,hno⟩:=hrel;have HN:=lh hno;clear hno
 by_cases hlt:k<xs.length
 ·obtain⟨b,off,rfl,hc⟩:=HX.o k hlt
  cases hpk:p xs[k]
  ·have HK:=lh hpk;clear hpk;go_wp2_with fail;refine(HP.o xs[k] (List.getElem_mem hlt)).mono ?_;rw[HK.o];rintro e w'⟨rfl,rfl⟩;go_wp2;go_round
   case rel=>exact⟨k+1,by omega,by go_num,fun j hj=>by
    by_cases e:j=k
    ·subst e;simpa[List.getD_eq_getElem?_getD,hlt]using HK.o
    exact HN.o j (by omega)⟩
   case measure=>simp[intOf];omega
  have HK:=lh hpk;clear hpk;go_wp2_with fail;refine(HP.o xs[k] (List.getElem_mem hlt)).mono ?_;rw[HK.o];rintro e w'⟨rfl,rfl⟩;go_wp2;go_ret;exact⟨zbu (zpt p xs k hlt HN.o HK.o).symm,rfl⟩
 have:k=xs.length:=by omega
 subst this;go_wp2;go_ret;exact⟨zbu (zmi p xs HN.o).symm,rfl⟩
theorem zcz(a:Option Addr)(cap:Nat)(xs:List Int)(g:FuncId)(cs:Array Value)(p:Int->Bool)(w:World)(hl:xs.length<=1073741824)
 (hx:IntCells w a xs)(hp:∀x,x∈xs->Calls Tryz.prog g (#[.int .i64 x]++cs) w fun e w'=>e=.returned (.bool (p x))/\w=w')(hcf0:za8 g):
 Calls Tryz.prog 141 #[.slice a xs.length cap,.func (.func g) #[] cs] w fun e w'=>e=.returned (.bool (xs.any p))/\w=w':=by
 have HX:=lh hx;have HP:=lh hp;have HC:=lh hcf0;clear hx hp hcf0;go_enter Tryz.func141,Tryz.ntmps141;go_wp2_with(go_at_call 156;refine(zd7 _ _ _ _ _ p _ hl HX.o HP.o HC.o).mono ?_;rintro e w'⟨rfl,rfl⟩);go_ret;exact⟨zbg (zps p xs),rfl⟩
theorem zpm(i before:Int)(a:Addr)(w:World)(h:w.cell? a=some (.int .i64 before)):
 Calls Tryz.prog 142 #[.int .i64 i,.pointer (some a)] w fun e w'=>e=.returned (.bool (decide (i<0)||decide (before<=i)))/\w=w':=by
 by_cases h0:i<0
 ·have h1:decide (i<0)=true:=by simp[h0]
  rw[h1];go_enter Tryz.func142,Tryz.ntmps142;go_wp2;go_ret;exact⟨rfl,rfl⟩
 have h1:decide (i<0)=false:=by simp[h0]
 rw[h1];go_enter Tryz.func142,Tryz.ntmps142;go_wp2;go_ret;exact⟨rfl,rfl⟩
theorem zh1:za8 142:=fun _ _=>by kernel_rfl
end Go.Proofs.YtnlaakmglhjjmaaGreatDoor
namespace Cen
structure St where
 a:Nat
 b:Nat
instance:Inhabited St:=⟨⟨0,0⟩⟩
instance:DecidableEq St:=fun x y=>decidable_of_iff (x.a=y.a/\x.b=y.b) (by cases x;cases y;simp)
def U64:Nat:=18446744073709551616
def St.ok(s:St):Prop:=s.a<U64/\s.b<U64
def St.zero:St:=⟨0,0⟩
def St.mem(s:St)(v:Int):Bool:=
 if 1<=v/\v<=64 then s.a.testBit (v-1).toNat else if 65<=v/\v<=128 then s.b.testBit (v-65).toNat else false
def St.add(s:St)(v:Int):St:=
 if 1<=v/\v<=64 then⟨s.a|||2^(v-1).toNat,s.b⟩else if 65<=v/\v<=128 then⟨s.a,s.b|||2^(v-65).toNat⟩else s
def St.union(s t:St):St:=⟨s.a|||t.a,s.b|||t.b⟩
def St.cut(s t:St):St:=⟨s.a&&&t.a,s.b&&&t.b⟩
theorem zek:U64=2^64:=rfl
theorem zd0{k:Nat}(h:k<64):2^k<U64:=by rw[zek];exact Nat.pow_lt_pow_right (by omega) h
theorem zgh{x y:Nat}(hx:x<U64)(hy:y<U64):x|||y<U64:=by rw[zek]at*;exact Nat.or_lt_two_pow hx hy
theorem zc7{x y:Nat}(hx:x<U64):x&&&y<U64:=Nat.lt_of_le_of_lt Nat.and_le_left hx
theorem St.zero_ok:St.zero.ok:=⟨by unfold U64;decide,by unfold U64;decide⟩
theorem St.union_ok{s t:St}(h:s.ok)(k:t.ok):(s.union t).ok:=⟨zgh h.1 k.1,zgh h.2 k.2⟩
theorem St.cut_ok{s t:St}(h:s.ok):(s.cut t).ok:=⟨zc7 h.1,zc7 h.2⟩
theorem St.add_ok{s:St}(h:s.ok)(v:Int):(s.add v).ok:=by
 unfold St.add
 (repeat' split)
 ·exact⟨zgh h.1 (zd0 (by omega)),h.2⟩
 ·exact⟨h.1,zgh h.2 (zd0 (by omega))⟩
 exact h
theorem St.mem_zero(v:Int):St.zero.mem v=false:=by unfold St.mem St.zero;(repeat' split)<;>simp
theorem St.mem_union(s t:St)(v:Int):(s.union t).mem v=(s.mem v||t.mem v):=by
 unfold St.mem St.union;(repeat' split)<;>simp
theorem St.mem_cut(s t:St)(v:Int):(s.cut t).mem v=(s.mem v&&t.mem v):=by
 unfold St.mem St.cut;(repeat' split)<;>simp
theorem St.mem_add(s:St)(u v:Int):(s.add u).mem v=(s.mem v||(decide (v=u)&&decide (1<=u)&&decide (u<=128))):=by
 unfold St.mem St.add
 by_cases h1:1<=u/\u<=64
 ·rw[if_pos h1]
  by_cases k1:1<=v/\v<=64
  ·rw[if_pos k1,if_pos k1,Nat.testBit_or,Nat.testBit_two_pow]
   congr 1;rw[Bool.eq_iff_iff];simp;omega
  rw[if_neg k1,if_neg k1]
  have:decide (v=u)=false:=by simp;omega
  simp[this]
 rw[if_neg h1]
 by_cases h2:65<=u/\u<=128
 ·rw[if_pos h2]
  by_cases k1:1<=v/\v<=64
  ·rw[if_pos k1,if_pos k1]
   have:decide (v=u)=false:=by simp;omega
   simp[this]
  rw[if_neg k1,if_neg k1]
  by_cases k2:65<=v/\v<=128
  ·rw[if_pos k2,if_pos k2,Nat.testBit_or,Nat.testBit_two_pow]
   congr 1;rw[Bool.eq_iff_iff];simp;omega
  rw[if_neg k2,if_neg k2]
  have:decide (v=u)=false:=by simp;omega
  simp[this]
 rw[if_neg h2]
 have:(decide (1<=u)&&decide (u<=128))=false:=by simp;omega
 rw[Bool.and_assoc,this];simp
theorem zgq{x y:Nat}(hx:x<U64)(hy:y<U64)(h:∀i,i<64->x.testBit i=y.testBit i):x=y:=by
 apply Nat.eq_of_testBit_eq
 intro i
 by_cases hi:i<64
 ·exact h i hi
 rw[zek]at*;have p:2^64<=2^i:=Nat.pow_le_pow_right (by omega) (by omega);rw[Nat.testBit_lt_two_pow (Nat.lt_of_lt_of_le hx p),Nat.testBit_lt_two_pow (Nat.lt_of_lt_of_le hy p)]
theorem St.ext{s t:St}(hs:s.ok)(ht:t.ok)(h:∀v,1<=v->v<=128->s.mem v=t.mem v):s=t:=by
 have h1:s.a=t.a:=zgq hs.1 ht.1 fun i hi=>by
  have:=h (i+1:Nat) (by omega) (by omega);unfold St.mem at this;rw[if_pos (by omega),if_pos (by omega)]at this;rw[show(((i+1:Nat):Int)-1).toNat=i by omega]at this;exact this
 have h2:s.b=t.b:=zgq hs.2 ht.2 fun i hi=>by
  have:=h (i+65:Nat) (by omega) (by omega);unfold St.mem at this
  have n1:¬(1<=((i+65:Nat):Int)/\((i+65:Nat):Int)<=64):=by omega
  have n2:(65<=((i+65:Nat):Int)/\((i+65:Nat):Int)<=128):=by omega
  rw[if_neg n1,if_neg n1,if_pos n2,if_pos n2]at this;rw[show(((i+65:Nat):Int)-65).toNat=i by omega]at this;exact this
 cases s;cases t;simp_all
end Cen
namespace Go.Proofs.YtnlaakmglhjjmaaGreatDoor
open Go.RowKit Cen
abbrev stv(s:St):Value:=.agg #[.int .u64 (s.a:Int),.int .u64 (s.b:Int)]
theorem or64{x y:Nat}(hx:x<U64)(hy:y<U64):bits .or .u64 (x:Int) (y:Int)=((x|||y:Nat):Int):=u64_or_nat x y hx hy
theorem ztt{x y:Nat}(hx:x<U64)(hy:y<U64):bits .and .u64 (x:Int) (y:Int)=((x&&&y:Nat):Int):=u64_and_nat x y hx hy
theorem zrp(v:Int)(w:World)(h:¬(1<=v/\v<=128)):
 Calls Tryz.prog 92 #[.int .i64 v] w fun e w'=>e=.returned (.tuple #[.int .i64 0,.int .u64 0,.bool false])/\w=w':=by
 by_cases h1:v<1
 ·have hd:decide (v<1)=true:=by simpa using h1
  go_enter Tryz.func92,Tryz.ntmps92;go_wp2;go_ret3;exact⟨rfl,rfl⟩
 have hd:decide (v<1)=false:=by simpa using h1
 have h2:128<v:=by omega
 have hd2:decide (128<v)=true:=by simpa using h2
 go_enter Tryz.func92,Tryz.ntmps92;go_wp2;go_ret3;exact⟨rfl,rfl⟩
theorem zr2{k:Nat}(h:k<64):IntKind.u64.wrap ((2:Int)^k)=((2^k:Nat):Int):=by
 rw[IntKind.wrap_u64,show((2:Int)^k)=((2^k:Nat):Int)from by norm_cast];have h1:=zd0 h;have h2:((2^k:Nat):Int)<((U64:Nat):Int):=Int.ofNat_lt.2 h1;exact Int.emod_eq_of_lt (Int.natCast_nonneg _) h2
def zgw(v:Int):Nat:=2^((v-1)%64).toNat
theorem zqp(v:Int):zgw v<U64:=zd0 (by omega)
theorem zro(v:Int)(w:World)(h:1<=v/\v<=64):
 Calls Tryz.prog 92 #[.int .i64 v] w fun e w'=>e=.returned (.tuple #[.int .i64 0,.int .u64 (zgw v:Int),.bool true])/\w=w':=by
 obtain⟨h1,h2⟩:=h
 have hd:decide (v<1)=false:=by simp;omega
 have hd2:decide (128<v)=false:=by simp;omega
 go_enter Tryz.func92,Tryz.ntmps92;go_wp2;go_ret3;refine⟨?_,rfl⟩;rw[zr2 (by omega),show(v-1)/64=0 by omega];rfl
theorem zrn(v:Int)(w:World)(h:65<=v/\v<=128):
 Calls Tryz.prog 92 #[.int .i64 v] w fun e w'=>e=.returned (.tuple #[.int .i64 1,.int .u64 (zgw v:Int),.bool true])/\w=w':=by
 obtain⟨h1,h2⟩:=h
 have hd:decide (v<1)=false:=by simp;omega
 have hd2:decide (128<v)=false:=by simp;omega
 go_enter Tryz.func92,Tryz.ntmps92;go_wp2;go_ret3;refine⟨?_,rfl⟩;rw[zr2 (by omega),show(v-1)/64=1 by omega];rfl
theorem zgs(s:St)(v:Int)(w:World)(hs:s.ok):
 Calls Tryz.prog 56 #[stv s,.int .i64 v] w fun e w'=>e=.returned (stv (s.add v))/\Below w.heap.size w w':=by
 have HB:Hid (∀o o':Obj,Below w.heap.size w ((w.alloc o).alloc o')):=fun o o'=>(ba _ _).alloc (by simp) _
 by_cases h:1<=v/\v<=64
 ·have e1:=or64 hs.1 (zqp v);have H:=lh (fun w=>zro v w h)
  have HE:Hid (s.add v=⟨s.a|||zgw v,s.b⟩):=by show _=_;unfold St.add zgw;rw[if_pos h,show(v-1)%64=v-1 by omega]
  clear h;go_enter Tryz.func56,Tryz.ntmps56;go_wp2_with(go_at_call 92;refine(H.o _).mono ?_;rintro e w'⟨rfl,rfl⟩);rw[HE.o];exact bodyPost_ret (v:=stv ⟨s.a|||zgw v,s.b⟩) (by simp[results,Tryz.results56,go_sem]) rfl ⟨rfl,HB.o _ _⟩
 by_cases h2:65<=v/\v<=128
 ·have e1:=or64 hs.2 (zqp v);have H:=lh (fun w=>zrn v w h2)
  have HE:Hid (s.add v=⟨s.a,s.b|||zgw v⟩):=by show _=_;unfold St.add zgw;rw[if_neg h,if_pos h2,show(v-1)%64=v-65 by omega]
  clear h h2;go_enter Tryz.func56,Tryz.ntmps56;go_wp2_with(go_at_call 92;refine(H.o _).mono ?_;rintro e w'⟨rfl,rfl⟩);rw[HE.o];exact bodyPost_ret (v:=stv ⟨s.a,s.b|||zgw v⟩) (by simp[results,Tryz.results56,go_sem]) rfl ⟨rfl,HB.o _ _⟩
 have H:=lh (fun w=>zrp v w (by omega))
 have HE:Hid (s.add v=s):=by show _=_;unfold St.add;rw[if_neg h,if_neg h2]
 clear h h2;go_enter Tryz.func56,Tryz.ntmps56;go_wp2_with(go_at_call 92;refine(H.o _).mono ?_;rintro e w'⟨rfl,rfl⟩);rw[HE.o];exact bodyPost_ret (v:=stv s) (by simp[results,Tryz.results56,go_sem]) rfl ⟨rfl,HB.o _ _⟩
theorem zou(s t:St)(w:World)(hs:s.ok)(ht:t.ok):
 Calls Tryz.prog 74 #[stv s,stv t] w fun e w'=>e=.returned (stv (s.union t))/\Below w.heap.size w w':=by
 have e1:=or64 hs.1 ht.1;have e2:=or64 hs.2 ht.2;go_enter Tryz.func74,Tryz.ntmps74;go_wp2
 exact bodyPost_ret (v:=stv (s.union t)) (by simp[results,Tryz.results74,go_sem,St.union]) rfl ⟨rfl,by
  exact(((ba _ _).alloc (by simp) _).alloc (by simp;omega) _)⟩
theorem zph(s t:St)(w:World)(hs:s.ok)(ht:t.ok):
 Calls Tryz.prog 107 #[stv s,stv t] w fun e w'=>e=.returned (stv (s.cut t))/\Below w.heap.size w w':=by
 have e1:=ztt hs.1 ht.1;have e2:=ztt hs.2 ht.2;go_enter Tryz.func107,Tryz.ntmps107;go_wp2
 exact bodyPost_ret (v:=stv (s.cut t)) (by simp[results,Tryz.results107,go_sem,St.cut]) rfl ⟨rfl,by
  exact(((ba _ _).alloc (by simp) _).alloc (by simp;omega) _)⟩
end Go.Proofs.YtnlaakmglhjjmaaGreatDoor
namespace Cen
variable{α β:Type}{enc:α->List β}{k:Nat}
theorem zbl(hk:∀x,(enc x).length=k)(l:List α):(l.flatMap enc).length=l.length*k:=by
 induction l with
 |nil=>simp
 |cons x l ih=>rw[List.flatMap_cons,List.length_append,ih,hk,List.length_cons,Nat.succ_mul];omega
theorem zmc(hk:∀x,(enc x).length=k)(l:List α)(i j:Nat)(hi:i<l.length)(hj:j<k):(l.flatMap enc)[i*k+j]?=(enc l[i])[j]?:=by
 induction l generalizing i with
 |nil=>simp at hi
 |cons x l ih=>
   rw[List.flatMap_cons]
   cases i with
   |zero=>rw[List.getElem?_append_left (by rw[hk];omega)];simp
   |succ i=>
     have e:(i+1)*k+j=(enc x).length+(i*k+j):=by rw[hk,Nat.succ_mul];omega
     rw[e,List.getElem?_append_right (by omega),Nat.add_sub_cancel_left,ih i (by simpa using hi)]
     simp
theorem zme(hk:∀x,(enc x).length=k)(l:List α)(i j:Nat)(y:β)(hi:i<l.length)(hj:j<k):
 (l.flatMap enc).set (i*k+j) y=(l.take i).flatMap enc++(enc l[i]).set j y++(l.drop (i+1)).flatMap enc:=by
 have h1:l=l.take i++l[i]::l.drop (i+1):=by simp
 conv=>lhs;rw[h1]
 rw[List.flatMap_append,List.flatMap_cons]
 have hl:((l.take i).flatMap enc).length=i*k:=by rw[zbl hk];simp;rw[Nat.min_eq_left (by omega)]
 rw[List.set_append_right _ _ (by rw[hl];omega),hl,Nat.add_sub_cancel_left,List.set_append_left _ _ (by rw[hk];exact hj),List.append_assoc]
theorem zmd(l:List α)(i:Nat)(y:α)(hi:i<l.length):(l.set i y).flatMap enc=(l.take i).flatMap enc++enc y++(l.drop (i+1)).flatMap enc:=by
 rw[List.set_eq_take_append_cons_drop,if_pos hi,List.flatMap_append,List.flatMap_cons,List.append_assoc]
theorem zur(hk:∀x,(enc x).length=1)(l:List α)(i:Nat)(y:α)(c:β)(hi:i<l.length)(hy:enc y=[c]):
 (l.flatMap enc).set i c=(l.set i y).flatMap enc:=by
 have:=zme hk l i 0 c hi (by omega);simp only[Nat.mul_one,Nat.add_zero]at this;rw[this,zmd l i y hi,hy];have h:=hk l[i]
 match h':enc l[i],h with
 |[d],_=>rfl
theorem zus(hk:∀x,(enc x).length=2)(l:List α)(i:Nat)(y:α)(c d:β)(hi:i<l.length)(hy:enc y=[c,d]):
 ((l.flatMap enc).set (i*2) c).set (i*2+1) d=(l.set i y).flatMap enc:=by
 have h0:=zme hk l i 0 c hi (by omega);simp only[Nat.add_zero]at h0;rw[h0,zmd l i y hi,hy]
 have hl:((l.take i).flatMap enc).length=i*2:=by rw[zbl hk];simp;rw[Nat.min_eq_left (by omega)]
 have h:=hk l[i]
 match h':enc l[i],h with
 |[d0,d1],_=>
   rw[List.append_assoc,List.set_append_right _ _ (by omega),hl,Nat.add_sub_cancel_left]
   simp
theorem zut(hk:∀x,(enc x).length=3)(l:List α)(i:Nat)(y:α)(c d f:β)(hi:i<l.length)(hy:enc y=[c,d,f]):
 (((l.flatMap enc).set (i*3) c).set (i*3+1) d).set (i*3+2) f=(l.set i y).flatMap enc:=by
 have h0:=zme hk l i 0 c hi (by omega);simp only[Nat.add_zero]at h0;rw[h0,zmd l i y hi,hy]
 have hl:((l.take i).flatMap enc).length=i*3:=by rw[zbl hk];simp;rw[Nat.min_eq_left (by omega)]
 have h:=hk l[i]
 match h':enc l[i],h with
 |[d0,d1,d2],_=>
   rw[List.append_assoc,List.set_append_right _ _ (by omega),hl,Nat.add_sub_cancel_left,List.set_append_right _ _ (by omega),hl];rw[show i*3+2-i*3=2 by omega]
   simp
theorem zkf(y:α)(n:Nat):(List.replicate n y).flatMap enc=(List.replicate n (enc y)).flatten:=by
 induction n with
 |zero=>rfl
 |succ n ih=>simp[List.replicate_succ,ih]
end Cen
