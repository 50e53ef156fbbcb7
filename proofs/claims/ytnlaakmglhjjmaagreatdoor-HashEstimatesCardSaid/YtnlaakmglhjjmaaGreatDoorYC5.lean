/- Parts of the proofs of laws. Texts: VarsOf, Decomp, VarsM, Shelf, Maps. -/
import Derived.Test.YtnlaakmglhjjmaaGreatDoorYC4
import Derived.Shelf.Small.Bits
import Derived.Shelf.Strings.BuilderK
import Derived.Shelf.Sort.Plain
import Derived.Shelf.Strconv.AppendIntPublic10
import Derived.Shelf.Slices.Equal
import Derived.Shelf.Slices.CompactI
set_option maxHeartbeats 8000000
set_option maxRecDepth 100000
set_option linter.all false
namespace Go.Proofs.YtnlaakmglhjjmaaGreatDoor
open Go.RowKit Cen
def stc(s:St):List Value:=[.int .u64 (s.a:Int),.int .u64 (s.b:Int)]
theorem zbi(s:St):(stc s).length=2:=rfl
theorem zue:Elem 81 29 2 16 (stv St.zero):=.mk Tryz.underlying81 (by kernel_rfl) rfl (by decide)
abbrev zil:=OwnL stc 29 2
theorem zob(n:Int)(a:Option Addr)(cap:Nat)(l:List Nd)(w:World)(hok:zcv ⟨n,l⟩=true)(hl:l.length<=65536)(hx:NdCells w a l):
 Calls Tryz.prog 31 #[.agg #[.int .i64 n,.slice a l.length cap]] w fun e w'=>∃g,e=.returned (.slice (some ⟨g,0,none⟩) l.length l.length)/\zil w' w.heap.size (.slice (some ⟨g,0,none⟩) l.length l.length) (zau l)/\Below w.heap.size w w':=by
 have HB0:=lh ((Below.refl w.heap.size w).alloc (Nat.le_refl _) (.cells #[.int .i64 n,.slice a l.length cap] 71));have HX0:=lh (hx.keep HB0.o);have HK:=lh hok
 have hl1:Hid (l.length<=1073741824):=by show l.length<=1073741824;omega
 have HCH:=lh (fun W(h:NdCells W a l)=>(zt1 n a cap l W hl1.out h).mono (R':=fun e w'=>e=.returned (.int .i64 0)/\Below W.heap.size W w') (fun e w'⟨h1,h2⟩=>⟨by rw[h1];simp[chk,HK.o],h2⟩));clear hx hok;go_enter Tryz.func31,Tryz.ntmps31;go_wp2_with fail;refine(HCH.o _ HX0.o).mono ?_;rintro e w1⟨rfl,hb1⟩;have hbx:=Blk.later (Blk.new w #[.int .i64 n,.slice a l.length cap] 71) hb1;have c0:w1.cell? ⟨w.heap.size,0,none⟩=some (.int .i64 n):=hbx.cell 0;have c1:w1.cell? ⟨w.heap.size,1,none⟩=some (.slice a l.length cap):=hbx.cell 1;have HBX:=lh hbx;have hz1:=hb1.size
 have HB1:=lh hb1
 have hs1:w.heap.size+1<=w1.heap.size:=by simpa using hz1
 clear hbx hb1 hz1
 have hm1:l.length<=maxLen:=by unfold maxLen;omega
 have HM1:=lh hm1;clear hm1;go_wp2_with(at_make;refine mk zue rfl _ _ rfl w1.heap.size .i64 .i64 _ _ l.length rfl rfl rfl rfl (by omega) HM1.o (Nat.le_refl _) stc St.zero rfl ?_);intro w2 hown2 hgrow2;have HO2:=lh hown2;have HB2:=lh ((Below.refl w1.heap.size w1).grown hgrow2 (Nat.le_refl _) (by simp));have c0':=zab HB2.o c0;have c1':=zab HB2.o c1;have HX2:=lh ((HX0.o.keep HB1.o).keep HB2.o);clear hown2 hgrow2 c0 c1;go_wp2
 go_loopw[18](fun i wr=>∃k:Nat,k<=l.length/\i=.int .i64 k/\zil wr w1.heap.size (.slice (some ⟨w1.heap.size,0,none⟩) l.length l.length) (zau (l.take k)++List.replicate (l.length-k) St.zero)/\Below w1.heap.size w1 wr)(fun i _=>l.length-(intOf i).toNat)
 case atStart=>exact⟨0,Nat.zero_le _,rfl,by simpa[zau,zcn]using HO2.o,HB2.o⟩
 obtain⟨k,hk,rfl,hown,hbel⟩:=hrel;have HO:=lh hown;have HB:=lh hbel;clear hown hbel
 by_cases hlt:k<l.length
 ·obtain⟨b,off,rfl,hc0⟩:=(HX0.o.keep HB1.o) k hlt;generalize hxe:l.getD k default=x at hc0
  have HXE:Hid (l[k]=x):=by show _=_;rw[<-hxe];simp[List.getD_eq_getElem?_getD,hlt]
  clear hxe;obtain⟨r1,r2,a',cap',r3,pi,pl⟩:=hc0;have p1:=zab HB.o r1;have p2:=zab HB.o r2;have p3:=zab HB.o r3;clear r1 r2 r3;have hin:=zvi HK.o hlt;rw[HXE.o]at hin;have HIN:=lh hin;clear hin;have HPI:=lh pi;clear pi;have hbz:b<wr.heap.size:=zai p1;have HSZ:=lh HB.o.size;go_wp2_with fail;refine(zbe _ _).mono ?_;rintro e w'⟨rfl,rfl⟩;go_wp2_with fail;refine(zoo (some ⟨wr.heap.size+1,0,none⟩) 1 [zac x.lit] _ (by simp) ?_).mono ?_
  ·intro i hi
   have:i=0:=by simpa using hi
   subst this;exact⟨_,_,rfl,by rw[World.cell?_alloc_at _ _ _ _ (by simp)];rfl⟩
  rintro e w3⟨rfl,hb3⟩;have hb:Below wr.heap.size wr w3:=((ba _ _).alloc (by simp) _).trans (hb3.mono (by simp;omega));have hbx3:Blk w3 wr.heap.size #[.int .i64 x.kind,.int .i64 x.lit,.slice a' x.ins.length cap'] 134:=((Blk.new wr _ _).alloc _).later hb3;have HLT:=lh hlt
  have HVL:Hid (k=(zau (l.take k)).length):=by show _=_;rw[zba,List.length_take];omega
  have HVO:=lh (zfe (l.take k))
  have hrep:List.replicate (l.length-k) St.zero=St.zero::List.replicate (l.length-k-1) St.zero:=by
   rw[<-List.replicate_succ];congr 1;omega
  have HVS:Hid (zau (l.take (k+1))=zau (l.take k)++[insU (zau (l.take k)) (ofL [zac x.lit]) x.ins]):=by
   show _=_;rw[List.take_succ_eq_append_getElem hlt,zhh,HXE.o]
  have HN:Hid (∀c:St,l.length=(zau (l.take k)++c::List.replicate (l.length-k-1) St.zero).length):=fun c=>by
   simp[zba];omega
  have ho3:=HO.o;have hgz:w1.heap.size<wr.heap.size:=ho3.lt.1;rw[hrep]at ho3;clear hrep;generalize zau (l.take k)=vs at*;generalize hzs:List.replicate (l.length-k-1) St.zero=zs at*;have HREP:=lh hzs;clear hzs;have ho3':=ho3.later hb;have m0:w3.cell? ⟨w1.heap.size,k*2,none⟩=some (.int .u64 ((St.zero).a:Int)):=ho3'.mid HVL.o (HN.o _) zbi 0 (by omega);have m1:w3.cell? ⟨w1.heap.size,k*2+1,none⟩=some (.int .u64 ((St.zero).b:Int)):=ho3'.mid HVL.o (HN.o _) zbi 1 (by omega);have f0:=ho3'.fr (HN.o _) (k*2);have f1:=ho3'.fr (HN.o _) (k*2+1);have HO3:=lh ho3'
  have HB3:=lh hb;have n2:w3.cell? ⟨wr.heap.size,2,none⟩=some (.slice a' x.ins.length cap'):=hbx3.cell 2;have hwz:wr.heap.size<w3.heap.size:=zai n2;clear ho3 ho3' hb hbx3 hb3 p1 p2 p3;go_wp2;generalize hcu:ofL [zac x.lit]=cu at*;have HCU:=lh hcu
  have HCO:Hid cu.ok:=by show cu.ok;rw[<-hcu];exact zvm _
  clear hcu
  obtain⟨wo,rfl⟩:∃wo:World,wo=wr:=⟨_,rfl⟩
  go_loopw[34](fun i wi=>∃m:Nat,m<=x.ins.length/\i=.int .i64 m/\zil wi w1.heap.size (.slice (some ⟨w1.heap.size,0,none⟩) l.length l.length) (vs++insU vs cu (x.ins.take m)::zs)/\Below w1.heap.size w1 wi)(fun i _=>x.ins.length-(intOf i).toNat)
  case atStart=>
   refine⟨0,Nat.zero_le _,rfl,?_,?_⟩
   ·exact HO3.o.midput2 HVL.o (HN.o _) zbi cu _ _ rfl
   exact((HB.o.trans (HB3.o.mono HSZ.o)).setCell (Nat.le_refl _) _).setCell (Nat.le_refl _) _
  obtain⟨wi,rfl⟩:∃wi:World,wi=wr:=⟨_,rfl⟩
  obtain⟨m,hm,rfl,hown,hbel⟩:=hrel;have HBi:=lh hbel
  by_cases hlm:m<x.ins.length
  ·obtain⟨b2,off2,rfl,hi0⟩:=HPI.o m hlm;have hi1:=zab HBi.o hi0;have hq:=HIN.o (x.ins.getD m 0) (by simp[List.getD_eq_getElem?_getD,hlm]);generalize hye:x.ins.getD m 0=y at hi1 hq
   have HYE:Hid (x.ins[m]=y):=by show _=_;rw[<-hye];simp[List.getD_eq_getElem?_getD,hlm]
   clear hi0 hye;obtain⟨hq0,hq1⟩:=hq;obtain⟨q,rfl⟩:=Int.eq_ofNat_of_zero_le hq0
   have hqk:q<vs.length:=by have:=HVL.o;omega
   have m0:wi.cell? ⟨w1.heap.size,k*2,none⟩=some (.int .u64 ((insU vs cu (x.ins.take m)).a:Int)):=hown.mid HVL.o (HN.o _) zbi 0 (by omega);have m1:wi.cell? ⟨w1.heap.size,k*2+1,none⟩=some (.int .u64 ((insU vs cu (x.ins.take m)).b:Int)):=hown.mid HVL.o (HN.o _) zbi 1 (by omega);have q0:wi.cell? ⟨w1.heap.size,q*2,none⟩=some (.int .u64 (vs[q].a:Int)):=hown.left hqk (HN.o _) zbi 0 (by omega);have q1:wi.cell? ⟨w1.heap.size,q*2+1,none⟩=some (.int .u64 (vs[q].b:Int)):=hown.left hqk (HN.o _) zbi 1 (by omega);have f0:=hown.fr (HN.o _) (k*2);have f1:=hown.fr (HN.o _) (k*2+1)
   have HO4:=lh hown;have HTO:Hid (vs[q].ok):=HVO.o _ (List.getElem_mem hqk);have HCO2:Hid ((insU vs cu (x.ins.take m)).ok):=zu2 HVO.o _ HCO.o
   have HST:Hid (insU vs cu (x.ins.take (m+1))=(insU vs cu (x.ins.take m)).union vs[q]):=by
    show _=_;rw[List.take_succ_eq_append_getElem hlm,zu3,HYE.o];simp[List.getD_eq_getElem?_getD,hqk]
   generalize insU vs cu (x.ins.take m)=cur at*;generalize vs[q]=tq at*;clear hown hbel;go_wp2_with fail
   have HF:Hid (∀W w5:World,W.heap=wi.heap->Below W.heap.size W w5->w5.cell? ⟨w1.heap.size,k*2,none⟩=some (.int .u64 (cur.a:Int))/\w5.cell? ⟨w1.heap.size,k*2+1,none⟩=some (.int .u64 (cur.b:Int))/\
    w5.frozen? ⟨w1.heap.size,k*2,none⟩=false/\w5.frozen? ⟨w1.heap.size,k*2+1,none⟩=false):=fun W w5 hw hb5=>by
    have e1:∀p v,wi.cell? p=some v->W.cell? p=some v:=fun p v h=>by simp only[World.cell?,hw];exact h
    have e2:∀p,W.frozen? p=wi.frozen? p:=fun p=>by simp only[World.frozen?,hw]
    refine⟨zab hb5 (e1 _ _ m0),zab hb5 (e1 _ _ m1),?_,?_⟩
    ·rw[hb5.frozen (p:=⟨w1.heap.size,k*2,none⟩) (zai (e1 _ _ m0)),e2];exact f0
    rw[hb5.frozen (p:=⟨w1.heap.size,k*2+1,none⟩) (zai (e1 _ _ m1)),e2];exact f1
   go_region_with(go_at_call 74;refine(zou cur tq _ HCO2.o HTO.o).mono ?_;rintro e w5⟨rfl,hb5⟩;go_loud(obtain⟨z0,z1,z2,z3⟩:=HF.o wi.drew w5 rfl hb5))
   all_goals
    have HB5:Hid (Below wi.heap.size wi w5):=(Below.refl wi.heap.size wi).drew.trans (hb5.mono (Nat.le_refl wi.heap.size));have HSI:=lh HBi.o.size;clear z0 z1 z2 z3 hb5;go_wp2;go_roundw
    case rel=>
     refine⟨m+1,by omega,by go_num,?_,((HBi.o.trans (HB5.o.mono HSI.o)).setCell (Nat.le_refl _) _).setCell (Nat.le_refl _) _⟩;rw[HST.o];exact(HO4.o.later HB5.o).midput2 HVL.o (HN.o _) zbi _ _ _ rfl
    case measure=>simp[intOf];omega
  have:m=x.ins.length:=by omega
  subst this;go_wp2;go_roundw
  case rel=>
   refine⟨k+1,by omega,by go_num,?_,HBi.o⟩;rw[HVS.o,List.append_assoc,show l.length-(k+1)=l.length-k-1 by omega,HREP.o];rw[List.take_length]at hown;exact hown
  case measure=>simp[intOf];omega
 have:k=l.length:=by omega
 subst this;go_wp2;go_ret;refine⟨_,rfl,?_,HB0.o.trans ((HB1.o.mono (by simp)).trans (HB.o.mono (by omega)))⟩;have:=HO.o;simp only[Nat.sub_self,List.replicate_zero,List.append_nil,List.take_length]at this;exact this.lower (by omega)
theorem zcf(d:Nat)(a b c e:Int)(w:World):
 (Op.equalIn (d+2) 29 (.agg #[.int .u64 a,.int .u64 b]) (.agg #[.int .u64 c,.int .u64 e])).run Tryz.prog w=.ok (a==c&&b==e) w:=by
 have hsz:∀w,(sizeOf 27).run Tryz.prog w=.ok 1 w:=fun w=>by kernel_rfl
 have hp0:∀(x y:Value)w,(part 27 #[x,y] 0).run Tryz.prog w=.ok x w:=fun x y w=>by kernel_rfl
 have hp1:∀(x y:Value)w,(part 27 #[x,y] 1).run Tryz.prog w=.ok y w:=fun x y w=>by kernel_rfl
 rw[Op.equalIn.eq_def];simp only[Sem.run_bind,run_underlying Tryz.underlying29,Result.andThen_ok,hsz]
 simp[List.range']
 simp[hp0,hp1,run_equalIn_int _ _ _ _ _ _ _ Tryz.underlying27]
 by_cases h1:a=c<;>by_cases h2:b=e<;>simp[h1,h2]
def eqSt(s t:St):Bool:=decide (s=t)
theorem zq4(s t:St):((s.a:Int)==(t.a:Int)&&(s.b:Int)==(t.b:Int))=eqSt s t:=by
 unfold eqSt;rw[Bool.eq_iff_iff]
 cases s;cases t;simp;omega
theorem zjw(s t:St)(w:World):(binOp .neq 29 (stv s) (stv t)).run Tryz.prog w=.ok (.bool !(eqSt s t)) w:=by
 rw[run_neq_struct,zcf 9998]
 simp[Result.andThen_ok,<-zq4]
theorem zqb(s t:St)(w:World):(binOp .eql 29 (stv s) (stv t)).run Tryz.prog w=.ok (.bool (eqSt s t)) w:=by
 rw[run_eql_struct,zcf 9998]
 simp[Result.andThen_ok,<-zq4]
theorem zfp:Tryz.prog.eqGuardType Tryz.prog.depth 29=false:=by kernel_rfl
theorem ycr(s:St)(v:Int)(w:World)(h:¬(1<=v/\v<=128)):Calls Tryz.prog 68 #[stv s,.int .i64 v] w fun e w'=>e=.returned (.bool (s.mem v))/\Below w.heap.size w w':=by
 have HB:Hid (Below w.heap.size w (w.alloc (.cells #[.int .u64 (s.a:Int),.int .u64 (s.b:Int)] 29))):=ba _ _
 have HR:Hid (s.mem v=false):=by show _=_;unfold St.mem;rw[if_neg (by omega),if_neg (by omega)]
 have HP:=lh (fun V=>zrp v V h);clear h;go_enter Tryz.func68,Tryz.ntmps68;go_wp2_with fail;refine(HP.o _).mono ?_;rintro e w'⟨rfl,rfl⟩;go_wp2;go_ret;exact⟨zbg HR.o.symm,HB.o⟩
theorem ztu{a k:Nat}(ha:a<U64)(hk:k<64):(bits .and .u64 (a:Int) ((2^k:Nat):Int)!=0)=a.testBit k:=by
 rw[ztt ha (zd0 hk)]
 have h:a&&&2^k=(a.testBit k).toNat*2^k:=by
  apply Nat.eq_of_testBit_eq
  intro i;rw[Nat.testBit_and,Nat.testBit_two_pow]
  cases hb:a.testBit k with
  |true=>
    simp only[Bool.toNat_true,Nat.one_mul,Nat.testBit_two_pow]
    by_cases e:k=i
    ·subst e;simp[hb]
    simp[e]
  |false=>
    simp only[Bool.toNat_false,Nat.zero_mul,Nat.zero_testBit]
    by_cases e:k=i
    ·subst e;simp[hb]
    simp[e]
 rw[h]
 cases a.testBit k with
 |false=>simp
 |true=>
   have:0<2^k:=Nat.pow_pos (by omega);simp only[Bool.toNat_true,Nat.one_mul];rw[bne_iff_ne];intro h0;have:=Int.ofNat_eq_zero.1 h0;omega
theorem zpq(s:St)(v:Int)(w:World)(hs:s.ok):Calls Tryz.prog 68 #[stv s,.int .i64 v] w fun e w'=>e=.returned (.bool (s.mem v))/\Below w.heap.size w w':=by
 by_cases h:1<=v/\v<=64
 ·have HB:Hid (Below w.heap.size w (w.alloc (.cells #[.int .u64 (s.a:Int),.int .u64 (s.b:Int)] 29))):=ba _ _
  have hr:(bits .and .u64 (s.a:Int) (zgw v:Int)!=0)=s.mem v:=by
   unfold zgw;rw[ztu hs.1 (by omega)];unfold St.mem;rw[if_pos h];congr 1;omega
  have HP:=lh (fun V=>zro v V h);clear h;go_enter Tryz.func68,Tryz.ntmps68;go_wp2_with fail;refine(HP.o _).mono ?_;rintro e w'⟨rfl,rfl⟩;go_wp2;go_ret;exact⟨rfl,HB.o⟩
 by_cases h2:65<=v/\v<=128
 ·have HB:Hid (Below w.heap.size w (w.alloc (.cells #[.int .u64 (s.a:Int),.int .u64 (s.b:Int)] 29))):=ba _ _
  have hr:(bits .and .u64 (s.b:Int) (zgw v:Int)!=0)=s.mem v:=by
   unfold zgw;rw[ztu hs.2 (by omega)];unfold St.mem;rw[if_neg h,if_pos h2];congr 1;omega
  have HP:=lh (fun V=>zrn v V h2);clear h h2;go_enter Tryz.func68,Tryz.ntmps68;go_wp2_with fail;refine(HP.o _).mono ?_;rintro e w'⟨rfl,rfl⟩;go_wp2;go_ret;exact⟨rfl,HB.o⟩
 exact ycr s v w (by omega)
def St.minus(s t:St):St:=⟨s.a&&&(18446744073709551615-t.a),s.b&&&(18446744073709551615-t.b)⟩
theorem St.minus_ok{s t:St}(h:s.ok):(St.minus s t).ok:=⟨zc7 h.1,zc7 h.2⟩
theorem zj5{b i:Nat}(hb:b<U64)(hi:i<64):(18446744073709551615-b).testBit i=!b.testBit i:=by
 have h:=Nat.testBit_two_pow_sub_succ (n:=64) (x:=b) (by rw[<-zek];exact hb) i;rw[show 2^64-(b+1)=18446744073709551615-b by unfold U64 at hb;omega,decide_eq_true hi]at h
 simpa using h
theorem St.mem_minus{s t:St}(ht:t.ok)(v:Int):(St.minus s t).mem v=(s.mem v&&!t.mem v):=by
 unfold St.mem St.minus
 by_cases h:1<=v/\v<=64
 ·rw[if_pos h,if_pos h,if_pos h,Nat.testBit_and,zj5 ht.1 (by omega)]
 rw[if_neg h,if_neg h,if_neg h]
 by_cases h2:65<=v/\v<=128
 ·rw[if_pos h2,if_pos h2,if_pos h2,Nat.testBit_and,zj5 ht.2 (by omega)]
 rw[if_neg h2,if_neg h2,if_neg h2];rfl
theorem zjl(s t:St)(w:World)(hs:s.ok)(ht:t.ok):
 Calls Tryz.prog 59 #[stv s,stv t] w fun e w'=>e=.returned (stv (St.minus s t))/\Below w.heap.size w w':=by
 have e1:bits .andNot .u64 (s.a:Int) (t.a:Int)=(((St.minus s t).a:Nat):Int):=u64_andNot_nat s.a t.a hs.1 ht.1;have e2:bits .andNot .u64 (s.b:Int) (t.b:Int)=(((St.minus s t).b:Nat):Int):=u64_andNot_nat s.b t.b hs.2 ht.2;generalize St.minus s t=d at*;have HB:Hid (Below w.heap.size w (((w.alloc (.cells #[.int .u64 (s.a:Int),.int .u64 (s.b:Int)] 29)).alloc (.cells #[.int .u64 (t.a:Int),.int .u64 (t.b:Int)] 29)).alloc (.cells #[.int .u64 (d.a:Int),.int .u64 (d.b:Int)] 29))):=((ba _ _).alloc (by simp) _).alloc (by simp;omega) _;go_enter Tryz.func59,Tryz.ntmps59
 go_wp2;exact bodyPost_ret (v:=stv d) (by simp[results,Tryz.results59,go_sem]) rfl ⟨rfl,HB.o⟩
theorem zpj(d:St)(w:World):(Op.equalIn 10000 29 (.agg #[.int .u64 (d.a:Int),.int .u64 (d.b:Int)]) (.agg #[.int .u64 0,.int .u64 0])).run Tryz.prog w=.ok (decide (d=St.zero)) w:=by
 rw[zcf 9998]
 congr 1
 rw[Bool.eq_iff_iff]
 cases d
 simp only[Bool.and_eq_true,beq_iff_eq,decide_eq_true_eq,St.zero,St.mk.injEq];omega
theorem zv6(s t:St)(w:World)(hs:s.ok)(ht:t.ok):
 Calls Tryz.prog 27 #[stv s,stv t] w fun e w'=>e=.returned (.bool (decide (St.minus s t=St.zero)))/\Below w.heap.size w w':=by
 have HB0:Hid (Below w.heap.size w ((w.alloc (.cells #[.int .u64 (s.a:Int),.int .u64 (s.b:Int)] 29)).alloc (.cells #[.int .u64 (t.a:Int),.int .u64 (t.b:Int)] 29))):=(ba _ _).alloc (by simp) _;have HM:=lh (fun V=>zjl s t V hs ht);generalize St.minus s t=d at*;have heq:=zpj d;go_enter Tryz.func27,Tryz.ntmps27;go_wp2_with fail;refine(HM.o _).mono ?_;rintro e w1⟨rfl,hb1⟩;have HB1:=bt HB0 hb1;clear hb1;go_wp2;go_ret;exact⟨rfl,HB1.o⟩
theorem zjz{f:Nat->Bool}{k:Nat}:∀m,k<=m->(∀j,k<j->j<=m->f j=false)->setB f m=setB f k
 |0,h,_=>by rw[show k=0 by omega]
 |m+1,h,hf=>by
   by_cases e:k=m+1
   ·rw[e]
   have ih:=zjz m (by omega) (fun j h1 h2=>hf j h1 (by omega))
   show(if f (m+1)then(setB f m).add ((m:Int)+1)else setB f m)=_
   rw[hf (m+1) (by omega) (Nat.le_refl _),ih];rfl
theorem zlw(n:Int)(w:World):Calls Tryz.prog 28 #[.int .i64 n] w fun e w'=>e=.returned (stv (zbq n))/\Below w.heap.size w w':=by
 have HB0:Hid (Below w.heap.size w ((w.alloc (.cells #[.int .u64 0,.int .u64 0] 29)).alloc (.cells #[.int .u64 0,.int .u64 0] 29))):=(ba _ _).alloc (by simp) _;go_enter Tryz.func28,Tryz.ntmps28;go_wp2
 go_loopw[4](fun i wr=>∃v:Int,1<=v/\v<=129/\(1<v->v<=n+1)/\i=.int .i64 v/\Blk wr (w.heap.size+1) (sts (setB (fun j:Nat=>decide ((j:Int)<=n)) (v.toNat-1))) 29/\Blk wr w.heap.size (sts St.zero) 29/\Below w.heap.size w wr)(fun i _=>129-(intOf i).toNat)
 case atStart=>exact⟨1,by omega,by omega,fun h=>by omega,rfl,Blk.new' (w.alloc _) (by simp) (sts St.zero) 29,(Blk.new w _ _).alloc _,HB0.o⟩
 obtain⟨v,hv1,hv2,hvn,rfl,hs,hz,hbel⟩:=hrel;obtain⟨c0,c1,f0,f1⟩:=hs.sc;obtain⟨d0,d1,g0,g1⟩:=hz.sc;have HS:=lh hs;have HZ:=lh hz;have HB:=lh hbel;have HVN:=lh hvn;have HOK:=lh (zfw (fun j:Nat=>decide ((j:Int)<=n)) (v.toNat-1));have hzz:w.heap.size+1<wr.heap.size:=hs.lt;clear hs hz hbel hvn
 by_cases hn:128<n
 ·by_cases hgo:v<=128/\v<=n
  ·obtain⟨h1,h2⟩:=hgo
   have HSB:Hid (setB (fun j:Nat=>decide ((j:Int)<=n)) v.toNat=(setB (fun j:Nat=>decide ((j:Int)<=n)) (v.toNat-1)).add v):=by
    have h:=zon (fun j:Nat=>decide ((j:Int)<=n)) hv1;rw[decide_eq_true (show((v.toNat:Nat):Int)<=n by omega),if_pos rfl]at h;exact h
   generalize setB (fun j:Nat=>decide ((j:Int)<=n)) (v.toNat-1)=s at*;have HWI:=lh (fun V=>zgs s v V HOK.o);obtain⟨d,hd⟩:=nm (s.add v);rw[<-hd]at HWI HSB;clear hd;go_wp2_with fail;refine(HWI.o _).mono ?_;rintro e w1⟨rfl,hb1⟩;have hs1:=HS.o.later hb1;obtain⟨c0',c1',f0',f1'⟩:=hs1.sc;have HZ1:=lh (HZ.o.later hb1);have HB1:=bt HB hb1;have HS1:=lh hs1;have hz1:w.heap.size+1<w1.heap.size:=hs1.lt;clear hb1 c0 c1 f0 f1 d0 d1 g0 g1 hs1;go_wp2;go_roundw
   case rel=>exact⟨v+1,by omega,by omega,fun _=>by omega,rfl,by rw[show(v+1).toNat-1=v.toNat by omega,HSB.o];exact HS1.o.putSet d,(HZ1.o.other _ _ (by simp)).other _ _ (by simp),(HB1.o.setCell (by simp) _).setCell (by simp) _⟩
   case measure=>simp[intOf];omega
  have hgo2:¬v<=128\/¬v<=n:=by omega
  have HE:Hid (setB (fun j:Nat=>decide ((j:Int)<=n)) (v.toNat-1)=zbq n):=by
   show _=_
   unfold zbq;refine(zjz 128 (by omega) fun j h1 h2=>?_).symm;rw[decide_eq_false_iff_not];have:=HVN.o;omega
  generalize setB (fun j:Nat=>decide ((j:Int)<=n)) (v.toNat-1)=s at*;go_wp2;exact bodyPost_ret (v:=stv s) (by simp[results,Tryz.results28,go_sem,d0,d1]) rfl ⟨by rw[HE.o],(HB.o.setCell (Nat.le_refl _) _).setCell (Nat.le_refl _) _⟩
 have hn2:n<=128:=by omega
 by_cases hgo:v<=128/\v<=n
 ·obtain⟨h1,h2⟩:=hgo
  have HSB:Hid (setB (fun j:Nat=>decide ((j:Int)<=n)) v.toNat=(setB (fun j:Nat=>decide ((j:Int)<=n)) (v.toNat-1)).add v):=by
   have h:=zon (fun j:Nat=>decide ((j:Int)<=n)) hv1;rw[decide_eq_true (show((v.toNat:Nat):Int)<=n by omega),if_pos rfl]at h;exact h
  generalize setB (fun j:Nat=>decide ((j:Int)<=n)) (v.toNat-1)=s at*;have HWI:=lh (fun V=>zgs s v V HOK.o);obtain⟨d,hd⟩:=nm (s.add v);rw[<-hd]at HWI HSB;clear hd;go_wp2_with fail;refine(HWI.o _).mono ?_;rintro e w1⟨rfl,hb1⟩;have hs1:=HS.o.later hb1;obtain⟨c0',c1',f0',f1'⟩:=hs1.sc;have HZ1:=lh (HZ.o.later hb1);have HB1:=bt HB hb1;have HS1:=lh hs1;have hz1:w.heap.size+1<w1.heap.size:=hs1.lt;clear hb1 c0 c1 f0 f1 d0 d1 g0 g1 hs1;go_wp2;go_roundw
  case rel=>exact⟨v+1,by omega,by omega,fun _=>by omega,rfl,by rw[show(v+1).toNat-1=v.toNat by omega,HSB.o];exact HS1.o.putSet d,(HZ1.o.other _ _ (by simp)).other _ _ (by simp),(HB1.o.setCell (by simp) _).setCell (by simp) _⟩
  case measure=>simp[intOf];omega
 have hgo2:¬v<=128\/¬v<=n:=by omega
 have HE:Hid (setB (fun j:Nat=>decide ((j:Int)<=n)) (v.toNat-1)=zbq n):=by
  show _=_
  unfold zbq;refine(zjz 128 (by omega) fun j h1 h2=>?_).symm;rw[decide_eq_false_iff_not];have:=HVN.o;omega
 generalize setB (fun j:Nat=>decide ((j:Int)<=n)) (v.toNat-1)=s at*;go_wp2;exact bodyPost_ret (v:=stv s) (by simp[results,Tryz.results28,go_sem,d0,d1]) rfl ⟨by rw[HE.o],(HB.o.setCell (Nat.le_refl _) _).setCell (Nat.le_refl _) _⟩
end Go.Proofs.YtnlaakmglhjjmaaGreatDoor
namespace Go.Proofs
open Go.Shelf
def Tryz.lays169_ren:Go.Shelf.Ren:=⟨fun|169=>46|n=>n,fun|70=>100|9=>9|0=>0|72=>102|37=>50|127=>153|3=>3|5=>5|n=>n,fun|n=>n⟩
theorem Tryz.lays169:Go.Proofs.Lays.n169 Tryz.prog Tryz.lays169_ren:={
 mixed:=by kernel_rfl
 f169:=Tryz.func46.trans (congrArg some (by kernel_rfl))
 t0:=Tryz.underlying0
 a0:=Tryz.isAgg0
 z0:=Tryz.sizeOf0
 v0:=Tryz.zeroValue0
 t3:=Tryz.underlying3
 a3:=Tryz.isAgg3
 z3:=Tryz.sizeOf3
 v3:=Tryz.zeroValue3
 t9:=Tryz.underlying9
 a9:=Tryz.isAgg9
 z9:=Tryz.sizeOf9
 v9:=Tryz.zeroValue9
 t37:=Tryz.underlying50
 a37:=Tryz.isAgg50
 z37:=Tryz.sizeOf50
 v37:=Tryz.zeroValue50
 t70:=Tryz.underlying100
 a70:=Tryz.isAgg100
 z70:=Tryz.sizeOf100
 v70:=Tryz.zeroValue100
 t72:=Tryz.underlying102
 a72:=Tryz.isAgg102
 z72:=Tryz.sizeOf102
 v72:=Tryz.zeroValue102
 t127:=Tryz.underlying153
 a127:=Tryz.isAgg153
 z127:=Tryz.sizeOf153
 v127:=Tryz.zeroValue153}
theorem Tryz.Builder_Extra_169:Builder.Extra Tryz.prog Tryz.lays169_ren:={
 sizeBuilder:=by kernel_rfl
 liesBuilder:=by kernel_rfl
 t5:=Tryz.underlying5
 a5:=Tryz.isAgg5
 z5:=Tryz.sizeOf5
 v5:=Tryz.zeroValue5
 infoByte:=by kernel_rfl
 cellsByte:=by kernel_rfl
 sizeByte:=by kernel_rfl
 neB5:=by decide}
open Go.RowKit in
open Go.RowKit in
open Go.RowKit in
theorem Tryz.Builder_String_any(B b:Nat)(l:List UInt8)(w:World)(h:Lib.IsBuilder 102 5 B b (Lib.byteCells l) w)(hBw:B<=w.heap.size):
 Calls Tryz.prog 46 #[.pointer (some ⟨b,0,none⟩)] w fun e w'=>e=.returned (.string ⟨l.toArray⟩)/\Below B w w':=Any.Builder_String_any Tryz.lays169 Tryz.Builder_Extra_169 B b l w h hBw
def Tryz.lays125_ren:Go.Shelf.Ren:=⟨fun|125=>91|128=>108|129=>121|n=>n,fun|46=>32|3=>3|51=>62|53=>27|4=>4|5=>5|9=>9|n=>n,fun|n=>n⟩
theorem Tryz.lays125:Go.Proofs.Lays.n125 Tryz.prog Tryz.lays125_ren:={
 mixed:=by kernel_rfl
 f125:=Tryz.func91.trans (congrArg some (by kernel_rfl))
 f128:=Tryz.func108.trans (congrArg some (by kernel_rfl))
 f129:=Tryz.func121.trans (congrArg some (by kernel_rfl))
 t3:=Tryz.underlying3
 a3:=Tryz.isAgg3
 z3:=Tryz.sizeOf3
 v3:=Tryz.zeroValue3
 t4:=Tryz.underlying4
 a4:=Tryz.isAgg4
 z4:=Tryz.sizeOf4
 v4:=Tryz.zeroValue4
 t5:=Tryz.underlying5
 a5:=Tryz.isAgg5
 z5:=Tryz.sizeOf5
 v5:=Tryz.zeroValue5
 t9:=Tryz.underlying9
 a9:=Tryz.isAgg9
 z9:=Tryz.sizeOf9
 v9:=Tryz.zeroValue9
 t46:=Tryz.underlying32
 a46:=Tryz.isAgg32
 z46:=Tryz.sizeOf32
 v46:=Tryz.zeroValue32
 t51:=Tryz.underlying62
 a51:=Tryz.isAgg62
 z51:=Tryz.sizeOf62
 v51:=Tryz.zeroValue62
 t53:=Tryz.underlying27
 a53:=Tryz.isAgg27
 z53:=Tryz.sizeOf27
 v53:=Tryz.zeroValue27}
theorem Tryz.bits_Len(x:Int)(w:World)(h0:0<=x)(h1:x<=18446744073709551615):
 Calls Tryz.prog 91 #[.int .u64 x] w fun e w'=>e=.returned (.int .i64 (Lib.bitLen x.toNat))/\w'=w:=Any.bits_Len Tryz.lays125 x w h0 h1
open Go.RowKit in
open Go.RowKit in
open Go.RowKit in
open Go.RowKit in
open Go.RowKit in
open Go.RowKit in
open Go.Lib in
open Go.Lib in
open Go.Lib in
open Go.Lib in
open Go.RowKit Go.Sort Go.Lib in
def Tryz.lays189_ren:Go.Shelf.Ren:=⟨fun|189=>103|125=>91|257=>138|128=>108|129=>121|294=>159|295=>160|296=>161|297=>162|298=>163|299=>164|216=>165|300=>166|301=>167|328=>174|329=>145|330=>146|331=>175|332=>176|215=>177|343=>190|n=>n,fun|28=>75|3=>3|46=>32|0=>0|51=>62|53=>27|4=>4|183=>183|182=>182|131=>187|5=>5|9=>9|218=>203|222=>207|228=>221|229=>222|n=>n,fun|n=>n⟩
theorem Tryz.lays189:Go.Proofs.Lays.n189 Tryz.prog Tryz.lays189_ren:={
 mixed:=by kernel_rfl
 f125:=Tryz.func91.trans (congrArg some (by kernel_rfl))
 f128:=Tryz.func108.trans (congrArg some (by kernel_rfl))
 f129:=Tryz.func121.trans (congrArg some (by kernel_rfl))
 f189:=Tryz.func103.trans (congrArg some (by kernel_rfl))
 f215:=Tryz.func177.trans (congrArg some (by kernel_rfl))
 f216:=Tryz.func165.trans (congrArg some (by kernel_rfl))
 f257:=Tryz.func138.trans (congrArg some (by kernel_rfl))
 f294:=Tryz.func159.trans (congrArg some (by kernel_rfl))
 f295:=Tryz.func160.trans (congrArg some (by kernel_rfl))
 f296:=Tryz.func161.trans (congrArg some (by kernel_rfl))
 f297:=Tryz.func162.trans (congrArg some (by kernel_rfl))
 f298:=Tryz.func163.trans (congrArg some (by kernel_rfl))
 f299:=Tryz.func164.trans (congrArg some (by kernel_rfl))
 f300:=Tryz.func166.trans (congrArg some (by kernel_rfl))
 f301:=Tryz.func167.trans (congrArg some (by kernel_rfl))
 f328:=Tryz.func174.trans (congrArg some (by kernel_rfl))
 f329:=Tryz.func145.trans (congrArg some (by kernel_rfl))
 f330:=Tryz.func146.trans (congrArg some (by kernel_rfl))
 f331:=Tryz.func175.trans (congrArg some (by kernel_rfl))
 f332:=Tryz.func176.trans (congrArg some (by kernel_rfl))
 f343:=Tryz.func190.trans (congrArg some (by kernel_rfl))
 t0:=Tryz.underlying0
 a0:=Tryz.isAgg0
 z0:=Tryz.sizeOf0
 v0:=Tryz.zeroValue0
 t3:=Tryz.underlying3
 a3:=Tryz.isAgg3
 z3:=Tryz.sizeOf3
 v3:=Tryz.zeroValue3
 t4:=Tryz.underlying4
 a4:=Tryz.isAgg4
 z4:=Tryz.sizeOf4
 v4:=Tryz.zeroValue4
 t5:=Tryz.underlying5
 a5:=Tryz.isAgg5
 z5:=Tryz.sizeOf5
 v5:=Tryz.zeroValue5
 t9:=Tryz.underlying9
 a9:=Tryz.isAgg9
 z9:=Tryz.sizeOf9
 v9:=Tryz.zeroValue9
 t28:=Tryz.underlying75
 a28:=Tryz.isAgg75
 z28:=Tryz.sizeOf75
 v28:=Tryz.zeroValue75
 t46:=Tryz.underlying32
 a46:=Tryz.isAgg32
 z46:=Tryz.sizeOf32
 v46:=Tryz.zeroValue32
 t51:=Tryz.underlying62
 a51:=Tryz.isAgg62
 z51:=Tryz.sizeOf62
 v51:=Tryz.zeroValue62
 t53:=Tryz.underlying27
 a53:=Tryz.isAgg27
 z53:=Tryz.sizeOf27
 v53:=Tryz.zeroValue27
 t131:=Tryz.underlying187
 a131:=Tryz.isAgg187
 z131:=Tryz.sizeOf187
 v131:=Tryz.zeroValue187
 t182:=Tryz.underlying182
 a182:=Tryz.isAgg182
 z182:=Tryz.sizeOf182
 v182:=Tryz.zeroValue182
 t183:=Tryz.underlying183
 a183:=Tryz.isAgg183
 z183:=Tryz.sizeOf183
 v183:=Tryz.zeroValue183
 t218:=Tryz.underlying203
 a218:=Tryz.isAgg203
 z218:=Tryz.sizeOf203
 v218:=Tryz.zeroValue203
 t222:=Tryz.underlying207
 a222:=Tryz.isAgg207
 z222:=Tryz.sizeOf207
 v222:=Tryz.zeroValue207
 t228:=Tryz.underlying221
 a228:=Tryz.isAgg221
 z228:=Tryz.sizeOf221
 v228:=Tryz.zeroValue221
 t229:=Tryz.underlying222
 a229:=Tryz.isAgg222
 z229:=Tryz.sizeOf222
 v229:=Tryz.zeroValue222}
open Go.Sort Go.RowKit in
theorem Tryz.slices_Sort_int(blk off cap:Nat)(zs:List Int)(w:World)(hH:Holds (Value.int .i64) w blk off zs.toArray)(hblk:blk<w.heap.size)(hsz:zs.length<4611686018427387904):
 Calls Tryz.prog 103 #[.slice (some ⟨blk,off,none⟩) zs.length cap] w fun e w'=>
  e=.returned (.tuple #[])/\∃n os,w'=grow (putRow (Value.int .i64) (Sort.ahead w n) blk off (zs.mergeSort fun x y=>decide (x<=y)).toArray) os:=Any.slices_Sort_int Tryz.lays189 blk off cap zs w hH hblk hsz
def Tryz.laysM288_ren:Go.Shelf.Ren:=⟨fun|288=>187|283=>195|284=>196|285=>197|286=>198|129=>121|317=>204|318=>205|319=>206|320=>207|337=>209|338=>140|n=>n,fun|37=>50|53=>27|3=>3|4=>4|9=>9|171=>246|0=>0|173=>248|212=>257|51=>62|5=>5|20=>20|213=>258|46=>32|232=>260|233=>220|n=>n,fun|17=>1|18=>2|19=>0|n=>n⟩
open Go.RowKit Go.Sort Go.Lib in
open Go.RowKit Go.Sort Go.Lib in
open Go.RowKit Go.Sort Go.Lib in
def Tryz.laysM249_ren:Go.Shelf.Ren:=⟨fun|249=>172|288=>187|283=>195|284=>196|285=>197|286=>198|129=>121|317=>204|318=>205|319=>206|320=>207|337=>209|338=>140|n=>n,fun|37=>50|2=>2|3=>3|53=>27|4=>4|9=>9|171=>246|0=>0|173=>248|212=>257|51=>62|5=>5|20=>20|213=>258|46=>32|232=>260|233=>220|n=>n,fun|17=>1|18=>2|19=>0|n=>n⟩
open Go.RowKit Go.Sort Go.Lib in
def Tryz.laysM176_ren:Go.Shelf.Ren:=⟨fun|176=>157|249=>172|288=>187|283=>195|284=>196|285=>197|286=>198|129=>121|317=>204|318=>205|319=>206|320=>207|337=>209|338=>140|n=>n,fun|37=>50|2=>2|3=>3|53=>27|4=>4|9=>9|171=>246|0=>0|173=>248|212=>257|51=>62|5=>5|20=>20|213=>258|46=>32|232=>260|233=>220|n=>n,fun|17=>1|18=>2|19=>0|n=>n⟩
theorem Tryz.laysM176:Go.Proofs.LaysM.n176 Tryz.prog Tryz.laysM176_ren:={
 mixed:=by kernel_rfl
 f129:=Tryz.func121.trans (congrArg some (by kernel_rfl))
 f176:=Tryz.func157.trans (congrArg some (by kernel_rfl))
 f249:=Tryz.func172.trans (congrArg some (by kernel_rfl))
 f283:=Tryz.func195.trans (congrArg some (by kernel_rfl))
 f284:=Tryz.func196.trans (congrArg some (by kernel_rfl))
 f285:=Tryz.func197.trans (congrArg some (by kernel_rfl))
 f286:=Tryz.func198.trans (congrArg some (by kernel_rfl))
 f288:=Tryz.func187.trans (congrArg some (by kernel_rfl))
 f317:=Tryz.func204.trans (congrArg some (by kernel_rfl))
 f318:=Tryz.func205.trans (congrArg some (by kernel_rfl))
 f319:=Tryz.func206.trans (congrArg some (by kernel_rfl))
 f320:=Tryz.func207.trans (congrArg some (by kernel_rfl))
 f337:=Tryz.func209.trans (congrArg some (by kernel_rfl))
 f338:=Tryz.func140.trans (congrArg some (by kernel_rfl))
 t0:=Tryz.underlying0
 a0:=Tryz.isAgg0
 z0:=Tryz.sizeOf0
 v0:=Tryz.zeroValue0
 t2:=Tryz.underlying2
 a2:=Tryz.isAgg2
 z2:=Tryz.sizeOf2
 v2:=Tryz.zeroValue2
 t3:=Tryz.underlying3
 a3:=Tryz.isAgg3
 z3:=Tryz.sizeOf3
 v3:=Tryz.zeroValue3
 t4:=Tryz.underlying4
 a4:=Tryz.isAgg4
 z4:=Tryz.sizeOf4
 v4:=Tryz.zeroValue4
 t5:=Tryz.underlying5
 a5:=Tryz.isAgg5
 z5:=Tryz.sizeOf5
 v5:=Tryz.zeroValue5
 t9:=Tryz.underlying9
 a9:=Tryz.isAgg9
 z9:=Tryz.sizeOf9
 v9:=Tryz.zeroValue9
 t20:=Tryz.underlying20
 a20:=Tryz.isAgg20
 z20:=Tryz.sizeOf20
 v20:=Tryz.zeroValue20
 t37:=Tryz.underlying50
 a37:=Tryz.isAgg50
 z37:=Tryz.sizeOf50
 v37:=Tryz.zeroValue50
 t46:=Tryz.underlying32
 a46:=Tryz.isAgg32
 z46:=Tryz.sizeOf32
 v46:=Tryz.zeroValue32
 t51:=Tryz.underlying62
 a51:=Tryz.isAgg62
 z51:=Tryz.sizeOf62
 v51:=Tryz.zeroValue62
 t53:=Tryz.underlying27
 a53:=Tryz.isAgg27
 z53:=Tryz.sizeOf27
 v53:=Tryz.zeroValue27
 t171:=Tryz.underlying246
 a171:=Tryz.isAgg246
 z171:=Tryz.sizeOf246
 v171:=Tryz.zeroValue246
 t173:=Tryz.underlying248
 a173:=Tryz.isAgg248
 z173:=Tryz.sizeOf248
 v173:=Tryz.zeroValue248
 t212:=Tryz.underlying257
 a212:=Tryz.isAgg257
 z212:=Tryz.sizeOf257
 v212:=Tryz.zeroValue257
 t213:=Tryz.underlying258
 a213:=Tryz.isAgg258
 z213:=Tryz.sizeOf258
 t232:=Tryz.underlying260
 a232:=Tryz.isAgg260
 z232:=Tryz.sizeOf260
 v232:=Tryz.zeroValue260
 t233:=Tryz.underlying220
 a233:=Tryz.isAgg220
 z233:=Tryz.sizeOf220
 v233:=Tryz.zeroValue220
 g17:=by kernel_rfl
 g18:=by kernel_rfl
 g19:=by kernel_rfl
 i0:=by kernel_rfl
 i2:=by kernel_rfl
 i3:=by kernel_rfl
 i4:=by kernel_rfl
 i5:=by kernel_rfl
 i9:=by kernel_rfl
 i20:=by kernel_rfl
 i37:=by kernel_rfl
 i46:=by kernel_rfl
 i51:=by kernel_rfl
 i53:=by kernel_rfl
 i171:=by kernel_rfl
 i173:=by kernel_rfl
 i212:=by kernel_rfl
 i232:=by kernel_rfl
 i233:=by kernel_rfl
 m17:=by kernel_rfl
 m18:=by kernel_rfl
 m19:=by kernel_rfl}
open Go.RowKit Go.Sort Go.Lib in
theorem Tryz.strconv_AppendInt_10(B n:Nat)(i:Int)(h0:-9223372036854775808<=i)(h1:i<=9223372036854775807)(sv:Value)(xs:List Value)(w:World)(hown:w.ownsRow B 5 1 sv n xs)(hBw:B<=w.heap.size)(hlim:n+21<=140737488355328)(htab:Lib.TabBelow Tryz.prog B w "internal/strconv.uint64pow10" .u64 Lib.pow10Tab):
 Calls Tryz.prog 157 #[sv,.int .i64 i,.int .i64 10] w fun e w'=>∃v',e=.returned v'/\w'.ownsRow B 5 1 v' (n+(Lib.itoa i).length) (xs++Lib.byteCells (Lib.itoa i))/\Below B w w'/\Lib.OthersKept 5 none w w':=Any.strconv_AppendInt_10 Tryz.laysM176 B n i h0 h1 sv xs w hown hBw hlim htab
open Go.RowKit Go.Lib in
open Go.RowKit Go.Lib in
def Tryz.laysNm220_ren:Go.Shelf.Ren:=⟨fun|20=>153|n=>n,fun|22=>75|3=>3|4=>4|0=>0|n=>n,fun|n=>n⟩
theorem Tryz.laysNm220:Go.Proofs.Lays2.n20 Tryz.prog Tryz.laysNm220_ren:={
 mixed:=by kernel_rfl
 f20:=Tryz.func153.trans (congrArg some (by kernel_rfl))
 t0:=Tryz.underlying0
 a0:=Tryz.isAgg0
 z0:=Tryz.sizeOf0
 v0:=Tryz.zeroValue0
 t3:=Tryz.underlying3
 a3:=Tryz.isAgg3
 z3:=Tryz.sizeOf3
 v3:=Tryz.zeroValue3
 t4:=Tryz.underlying4
 a4:=Tryz.isAgg4
 z4:=Tryz.sizeOf4
 v4:=Tryz.zeroValue4
 t22:=Tryz.underlying75
 a22:=Tryz.isAgg75
 z22:=Tryz.sizeOf75
 v22:=Tryz.zeroValue75
 i3:=by kernel_rfl}
open Go.RowKit Go.Lib Go.Sort in
open Go.RowKit Go.Lib Go.Sort in
theorem Tryz.slices_Compact_int(blk off cap:Nat)(zs:List Int)(w:World)(hH:Holds (Value.int .i64) w blk off zs.toArray)(hsz:zs.length<=9223372036854775807)(hcap:zs.length<=cap):
 Calls Tryz.prog 153 #[.slice (some ⟨blk,off,none⟩) zs.length cap] w fun e w'=>e=.returned (.slice (some ⟨blk,off,none⟩) (Lib.compact zs).length cap)/\∃q,w'=putRow (Value.int .i64) (Sort.ahead w q) blk off (Lib.compact zs++List.replicate (zs.length-(Lib.compact zs).length) 0).toArray:=Any.slices_Compact_int Tryz.laysNm220 blk off cap zs w hH hsz hcap
open Go.RowKit Go.Lib Go.Sort in
theorem Tryz.slices_Compact_int_empty(a:Option Addr)(cap:Nat)(w:World):
 Calls Tryz.prog 153 #[.slice a 0 cap] w fun e w'=>e=.returned (.slice a 0 cap)/\w'=w:=Any.slices_Compact_int_empty Tryz.laysNm220 a cap w
end Go.Proofs
namespace Go.Proofs.YtnlaakmglhjjmaaGreatDoor
open Go.RowKit Cen
open Go.Maps(Keyed string_keyed int_keyed)
def MapL(k e:TypeId)(w:World)(b n:Nat)(f:Lit->Option Lit):Prop:=
 ∃D:DataW Unit,w.ownsMap Tryz.prog k (plainElem Tryz.prog e) b n D/\(∀x,Maps.has D x=(f x).isSome)/\∀x y,f x=some y->∀z,D.atKey x z=.lit y
section
variable{k e:TypeId}{w:World}{b n:Nat}{f:Lit->Option Lit}
theorem MapL.made(w:World):MapL k e (w.alloc (.map #[] 0)) w.heap.size 0 (fun _=>none):=
 ⟨.map [],World.ownsMap_made w _ _ _,fun _=>rfl,fun _ _ h=>by simp at h⟩
theorem MapL.lt(h:MapL k e w b n f):b<w.heap.size:=let⟨_,h1,_⟩:=h;h1.lt
theorem MapL.kept{M:Nat->Prop}{w':World}(h:MapL k e w b n f)(hk:Kp M w w')(hm:¬M b):MapL k e w' b n f:=by
 obtain⟨D,⟨es,clock,h1,h2⟩,h3,h4⟩:=h;exact⟨D,⟨es,clock,hk.heap h1 hm,h2⟩,h3,h4⟩
theorem MapL.later{w':World}(h:MapL k e w b n f)(hb:Below w.heap.size w w'):MapL k e w' b n f:=h.kept (Kp.below (M:=fun _=>False) hb) id
theorem zhs{x:Lit}(h:WideAt.IsKeyLit x):x.sameKey x=true:=by cases x<;>simp[Lit.sameKey,WideAt.IsKeyLit]at*
theorem MapL.put{w':World}(D:DataW Unit)(h:w.ownsMap Tryz.prog k (plainElem Tryz.prog e) b n D)(h3:∀x,Maps.has D x=(f x).isSome)(h4:∀x y,f x=some y->∀z,D.atKey x z=.lit y)
 {x y:Lit}(hx:WideAt.IsKeyLit x)(hw:w'.ownsMap Tryz.prog k (plainElem Tryz.prog e) b (n+1) (D.put x (.lit y))):MapL k e w' b (n+1) (fun x'=>if x'.sameKey x then some y else f x'):=by
 refine⟨_,hw,fun x'=>?_,fun x' y' hy z=>?_⟩
 ·by_cases e:x'=x
  ·subst e;simp[Maps.has_put_same h.isMap hx,zhs hx]
  rw[Maps.has_put_other e,h3];simp[Maps.sameKey_ne e]
 by_cases e:x'=x
 ·subst e;simp[zhs hx]at hy;subst hy;exact Maps.atKey_put_same h.isMap hx _ _
 simp[Maps.sameKey_ne e]at hy;rw[Maps.atKey_put_other e];exact h4 _ _ hy z
end
section
variable{ops:Array Oper}{rest:List Oper}{o:Oper}{a:Act}{Q:Exit->Act->World->Prop}{w:World}{b n:Nat}{f:Lit->Option Lit}{t k e:TypeId}
def zzo:Option Lit->Int|some (.int _ c)=>c|_=>0
theorem ze4(hg:o.guard=none)(m x:Operand)(hop:o.op=Op.lookup t m x true)(K:Keyed Tryz.prog k)(ht:Tryz.prog.underlying t=some (.map k e))(he:Tryz.prog.underlying e=some (.int .i64))(hz:∀w,(zeroValue e).run Tryz.prog w=.ok (.int .i64 0) w)
 (hm:a.eval m=.map (some b))(hown:MapL k e w b n f)(key:Value)(kl:Lit)(hx:a.eval x=key)(hkey:keyOf Tryz.prog k key=some kl)
 (hK:wpList Tryz.prog ops Q rest (a.put o.dst (.tuple #[.int .i64 (zzo (f kl)),.bool (f kl).isSome])) w):wpList Tryz.prog ops Q (o::rest) a w:=by
 obtain⟨D,h1,h3,h4⟩:=hown
 refine wpList_lookup_own_ok_int w hg m x t hop k e .i64 K ht he (hz w) b n D hm h1 key kl hx hkey fun c hc _=>?_
 have e2:c=zzo (f kl):=by
  cases hf:f kl with
  |none=>
    have:=Maps.atKey_of_not_has (D:=D) (k:=kl) (by rw[h3,hf];rfl) (.lit (.int .i64 0));rw[this]at hc;simp at hc;rw[<-hc];rfl
  |some y=>
    rw[h4 _ _ hf]at hc;simp at hc;rw[hc];rfl
 rw[h3,e2];exact hK
theorem zor(hg:o.guard=none)(m x v:Operand)(hop:o.op=Op.mapUpdate t m x v)(K:Keyed Tryz.prog k)(ht:Tryz.prog.underlying t=some (.map k e))
 (hm:a.eval m=.map (some b))(hown:MapL k e w b n f)(hn:n<=1073741824)(key val:Value)(kl y:Lit)(hx:a.eval x=key)(hv:a.eval v=val)(hkey:keyOf Tryz.prog k key=some kl)(hi:WideAt.IsKeyLit kl)
 (hval:plainElem (H:=Unit) Tryz.prog e val=some (.lit y,[]))
 (hK:∀w',MapL k e w' b (n+1) (fun x'=>if x'.sameKey kl then some y else f x')->w.grownBy w' (some b)->wpList Tryz.prog ops Q rest (a.put o.dst undef) w'):wpList Tryz.prog ops Q (o::rest) a w:=by
 obtain⟨D,h1,h3,h4⟩:=hown
 exact wpList_mapUpdate_own w hg m x v t hop k e K ht _ b n D hm h1 (by unfold maxLen;omega) key val kl hx hv hkey (.lit y) [] hval
  fun w' h5 h6=>hK w' (MapL.put D h1 h3 h4 hi h5) h6
end
end Go.Proofs.YtnlaakmglhjjmaaGreatDoor
