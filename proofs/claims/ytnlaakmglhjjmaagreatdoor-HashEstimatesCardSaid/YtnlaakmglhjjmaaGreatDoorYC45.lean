/- Parts of the proofs of laws. Texts: Hu, Hr, Hv, Jl. -/
import Derived.Test.YtnlaakmglhjjmaaGreatDoorYC44
set_option maxHeartbeats 8000000
set_option maxRecDepth 100000
set_option linter.all false
namespace Go.Proofs.YtnlaakmglhjjmaaGreatDoor
open Go.RowKit Cen
structure EstOk(n:Nat)(t:List Cl)(m:Nat)(bs:List Nat)(q:Nat):Prop where
 bl:bs.length<=1073741824
 h8:m*(n+1)<=8*bs.length
 inn:(zbr bs n m).any (outP n)=false
 cl:zfl n (nds (zad (chF [] false n) false n t)) (zbr bs n m)=some q
 q8:q<=256
theorem med_gen(n:Int)(ta:Option Addr)(tc:Nat)(t:List Cl)(sa:Option Addr)(sc:Nat)(S:List (List Nat))(m:Int)(ok:Nat->Bool)(xs:List Nat)(w:World)(hx:LsCells w ta t)(h40:t.length<=1073741824)(htl:∀c∈t,c.length<=1073741824)(hct:chkT n t=0)(hs:SdCells w sa S)
 (h0:1<=S.length)(h12:S.length<=12)(hxl:xs.length=S.length)(hbn:bN xs)(hes:∀V,Below w.heap.size w V->∀k,k<S.length->∀ka kc,U8Cells V ka (S.getD k [])->Calls Tryz.prog 17 #[.agg #[.int .i64 n,.slice ta t.length tc],.slice ka (S.getD k []).length kc,.int .i64 m] V (zls (gd xs k) (okE (ok k)) V)):
 Calls Tryz.prog 19 #[.agg #[.int .i64 n,.slice ta t.length tc],.slice sa S.length sc,.int .i64 m] w (MePost S.length ok xs w):=by
 obtain⟨w0,hw0⟩:=nm ((w.alloc (.cells #[.int .i64 n,.slice ta t.length tc] 26)).alloc (.cells #[.string ⟨#[]⟩] 36))
 have hb0:Below w.heap.size w w0:=by rw[hw0];exact(ba _ _).alloc (by simp) _
 have q0:Blk w0 w.heap.size #[.int .i64 n,.slice ta t.length tc] 26:=by rw[hw0];exact(Blk.new _ _ _).alloc _
 have q1:Blk w0 (w.heap.size+1) #[.string ⟨#[]⟩] 36:=by rw[hw0];exact Blk.new' _ (by simp) _ _
 have HCK:=lh (fun V(hV:Below w.heap.size w V)=>zbj n ta tc t V h40 htl (hx.keep hV));rw[hct]at HCK;have HES:=lh hes;have HSD:=lh (fun V(hV:Below w.heap.size w V)=>hs.keep hV);have HXL:=lh hxl;have HBN:=lh hbn;obtain⟨N,hN⟩:=nm S.length;rw[<-hN]at h0 h12 HXL HES⊢;have HNL:=lh hN
 have hS1:¬((N:Int)=0):=by omega
 have HB0:=lh hb0;have HQ0:=lh q0;have HQ1:=lh q1;have k0:=q0.cell 0;have k1:=q0.cell 1;have kz:=q0.lt;clear hb0 q0 q1 hx htl hct h40 hs hes hxl hbn hN;go_enter Tryz.func19,Tryz.ntmps19;go_wp2_with fail;rw[<-hw0];clear hw0;refine(HCK.o _ HB0.o).mono ?_;rintro e w1⟨rfl,hb1⟩;have HB1:=bt HB0 hb1;have HT1:=lh (HQ0.o.later hb1);have HA1:=lh (HQ1.o.later hb1);clear hb1 k0 k1 kz HCK;go_wp2_with fail;rw[show((N:Int)==0)=false by simpa using hS1]
 go_loopw[9,26](fun v i wr=>∃(k:Nat)(oa:Option Addr)(oc:Nat),k<=N/\i=.int .i64 k/\v=.slice oa k oc/\Hid (∀j,j<k->ok j=true)/\zby wr (w.heap.size+1+1) (.slice oa k oc) (xs.take k)/\Blk wr w.heap.size #[.int .i64 n,.slice ta t.length tc] 26/\Blk wr (w.heap.size+1) #[.string ⟨#[]⟩] 36/\Below w.heap.size w wr)(fun _ i _=>N-(intOf i).toNat)
 case atStart=>exact⟨0,none,0,Nat.zero_le _,rfl,rfl,fun j hj=>absurd hj (Nat.not_lt_zero _),OwnL.nil _ _,HT1.o,HA1.o,HB1.o⟩
 obtain⟨k,oa,oc,hk,rfl,rfl,HOK,ho,ht,ha,hb⟩:=hrel;have HO:=lh ho;have HT:=lh ht;have HA:=lh ha;have HB:=lh hb;have k0:=ht.cell 0;have k1:=ht.cell 1;have kz:=ht.lt;clear ho ht ha hb
 by_cases hlt:k<N
 ·have hki:(k:Int)<(N:Int):=by omega
  obtain⟨b,off,ka,kc,rfl,c0,hu⟩:=HSD.o _ HB.o k (by have:=HNL.o;omega);have cz:=zai c0;have HEK:=lh (HES.o wr HB.o k hlt ka kc hu)
  have hkx:k<xs.length:=by rw[HXL.o];exact hlt
  have HTK:Hid (xs.take (k+1)=xs.take k++[gd xs k]):=by show _=_;rw[zar hkx];exact List.take_succ_eq_append_getElem hkx
  have HLN:Hid ((xs.take k).length=k):=by show _=_;rw[List.length_take];omega
  have HKM:Hid (k<=1073741824):=by show k<=_;omega
  have HLT:Hid (k<N):=hlt;generalize gd xs k=x at*;generalize(S.getD k []).length=sl at*;clear hu hkx hk hlt
  cases hok:ok k with
  |false=>
    rw[hok,show okE false=1 from rfl]at HEK;have HOF:=lh hok;clear hok HOK;go_wp2_with fail;refine HEK.o.mono ?_;rintro e w2⟨rfl,hb2⟩;obtain⟨w3,hw3⟩:=nm (w2.alloc (.cells #[.string (natB x)] 36))
    have hb3:Below w2.heap.size w2 w3:=by rw[hw3];exact ba _ _
    have hb23:=hb2.trans (hb3.mono hb2.size);have HA3:=lh (HA.o.later hb23);have HB3:=bt HB hb23;clear hb2 hb23 hb3 HO HT HA HB k0 k1 kz c0 cz HEK
    go_upto_region 12 with fail
    rw[<-hw3];clear hw3;have a0:=HA3.o.cell 0;have af:=HA3.o.fr 0;have al:=HA3.o.lt;go_wp2_with fail;have g0:=(HA3.o.set 0 (.string ⟨#[]⟩)).cell 0;exact bodyPost_ret (v:=.tuple #[.agg #[.string ⟨#[]⟩],.int .i64 1]) (by simp[results,Tryz.results19,go_sem,g0]) rfl (.inl ⟨k,HLT.o,HOF.o,rfl,HB3.o.setCell (show w.heap.size<=w.heap.size+1 by omega) _⟩)
  |true=>
    rw[hok,show okE true=0 from rfl]at HEK
    have HOK2:Hid (∀j,j<k+1->ok j=true):=fun j hj=>by
     by_cases e:j=k
     ·rw[e];exact hok
     exact HOK.o j (by omega)
    clear hok HOK;go_wp2_with fail;refine HEK.o.mono ?_;rintro e w2⟨rfl,hb2⟩;obtain⟨B,hB⟩:=nm w2.heap.size;obtain⟨w3,hw3⟩:=nm (w2.alloc (.cells #[.string (natB x)] 36))
    have hb3:Below w2.heap.size w2 w3:=by rw[hw3];exact ba _ _
    have q3:Blk w3 B #[.string (natB x)] 36:=by rw[hw3,hB];exact Blk.new _ _ _
    have hb23:=hb2.trans (hb3.mono hb2.size);have HO3:=lh (HO.o.later hb23);have HT3:=lh (HT.o.later hb23);have HA3:=lh (HA.o.later hb23);have HB3:=bt HB hb23;have x0:=q3.cell 0;have xz:=q3.lt;clear hb2 q3 hb23 hb3 HO HT HA HB k0 k1 kz c0 cz HEK
    go_upto_region 13 with fail
    rw[<-hw3,<-hB];clear hw3 hB
    have hwz:w.heap.size+1+1<=w3.heap.size:=by have:=HA3.o.lt;omega
    have HO4:Hid (zby w3 (w.heap.size+1+1) (.slice oa (xs.take k).length oc) (xs.take k)):=by show zby _ _ _ _;rw[HLN.o];exact HO3.o
    have HLN3:Hid ((xs.take k).length<=1073741824):=by show _<=_;rw[HLN.o];exact HKM.o
    obtain⟨l0,hl0⟩:=nm (xs.take k);rw[<-hl0]at HO3 HO4 HLN HLN3 HTK;clear hl0;go_wp2_with(at_builtin;go_loud(refine zlx (C:=#[.string (natB x)]) yau rfl _ _ rfl (w.heap.size+1+1) (.slice oa k oc) l0 x rfl HO3.o rfl rfl rfl (by intro u hu;simp[natc]at hu;subst hu;rfl) HLN3.o (by decide) hwz ?_));intro g5 cap5 w5 ho5 hg5 hgn5
    have hkp:Kp (fun y=>(Value.slice oa k oc).ownBlock=some y) w3 w5:=Kp.grown hg5 fun k h=>h
    have hge:∀y,(Value.slice oa k oc).ownBlock=some y->w.heap.size+1+1<=y:=fun y hy=>(World.ownsRow.lt HO3.o y hy).1
    have HT5:=lh (HT3.o.kept hkp fun h=>by have:=hge _ h;omega);have HA5:=lh (HA3.o.kept hkp fun h=>by have:=hge _ h;omega);have HB5:Hid (Below w.heap.size w w5):=HB3.o.grown hg5 (by omega) (fun q hq=>by have:=hge q hq;omega);rw[HLN.o]at ho5⊢;rw[<-HTK.o]at ho5;have HO5:=lh ho5;clear ho5 hg5 hgn5 hkp hge HO3 HO4 HT3 HA3 HB3 x0 xz hwz;go_wp2;go_roundw
    case rel=>exact⟨k+1,_,_,HLT.o,by go_num,rfl,HOK2,HO5.o,HT5.o,HA5.o,HB5.o⟩
    case measure=>have:=HLT.o;simp[intOf];omega
 obtain rfl:k=N:=by omega
 have hkk:¬((k:Int)<(k:Int)):=by omega
 have hxt:xs.take k=xs:=by rw[<-HXL.o];exact List.take_length
 have hoo:=HO.o;rw[hxt]at hoo
 obtain⟨g,gc,hsh⟩:∃g gc,(Value.slice oa xs.length oc)=.slice (some ⟨g,0,none⟩) xs.length gc:=by
  have ho2:zby wr (w.heap.size+1+1) (.slice oa xs.length oc) xs:=by rw[HXL.o];exact hoo
  rcases ho2.shape with⟨_,h2⟩|⟨g,gc,h1,_⟩
  ·have:=HXL.o;rw[h2]at this;simp at this;omega
  exact⟨g,gc,h1⟩
 simp only[Value.slice.injEq,true_and]at hsh;obtain⟨rfl,rfl⟩:=hsh;have hso:Calls Tryz.prog 51 #[.slice (some ⟨g,0,none⟩) xs.length oc,FNN] wr (zh6 g oc (w.heap.size+1+1) xs wr):=zm1 g oc (w.heap.size+1+1) xs wr (by rw[HXL.o];exact hoo) HBN.o (by rw[HXL.o];exact h12);rw[HXL.o]at hso;have HSO:=lh hso
 have HGZ:Hid (w.heap.size+1+1<=g):=by show _<=g;have:=hoo.lt;omega
 clear hxt hoo hso HO hk hlt;go_wp2_with fail;refine HSO.o.mono ?_;rintro e w2⟨l',hpm,hsd,rfl,ho2,hkp⟩;have HPM:=lh hpm;have HSD2:=lh hsd
 have hll:l'.length=k:=by rw[hpm.length_eq,HXL.o]
 have hMl:(k-1)/2<l'.length:=by omega
 have hgz:=HGZ.o;have c0:=OwnN.c0 ho2 (by rw[HXL.o,hll]) hMl;have gl:=ho2.lt.1;have HA2:=lh (HA.o.kept hkp (by omega));have HB2:Hid (Below w.heap.size w w2):=HB.o.trans (hkp.toBelow HB.o.size (by intro y hy e;omega));have a0:=HA2.o.cell 0;have af:=HA2.o.fr 0;have al:=HA2.o.lt;have HLL:=lh hll;clear hpm hsd ho2 hkp k0 k1 kz HA HT HSO hll hMl hgz;go_wp2_with fail;have g0:=(HA2.o.set 0 (.string (natB (gd l' ((k-1)/2))))).cell 0;exact bodyPost_ret (v:=.tuple #[.agg #[.string (natB (gd l' ((k-1)/2)))],.int .i64 0]) (by simp[results,Tryz.results19,go_sem,g0]) rfl (.inr ⟨HOK.o,l',HPM.o,by rw[HXL.o];rw[HXL.o]at HSD2;exact HSD2.o,by rw[HXL.o],HB2.o.setCell (show w.heap.size<=w.heap.size+1 by omega) _⟩)
theorem zsq(n:Nat)(ta:Option Addr)(tc:Nat)(t:List Cl)(sa:Option Addr)(sc:Nat)(S:List (List Nat))(m:Nat)(qs:List Nat)(w:World)(hg:Gdt n t [])(hx:LsCells w ta t)(hs:SdCells w sa S)(hm8:m<=16)
 (h0:1<=S.length)(h12:S.length<=12)(hq:qs.length=S.length)(hes:∀i,i<S.length->EstOk n t m (S.getD i []) (qs.getD i 0))(htab:Tab w)(hdt:Dtab w):
 Calls Tryz.prog 19 #[.agg #[.int .i64 (n:Int),.slice ta t.length tc],.slice sa S.length sc,.int .i64 (m:Int)] w (zy6 (qs.map fun q=>q*2^m) w):=by
 have h2m:2^m<=65536:=Nat.le_trans (Nat.pow_le_pow_right (by omega) hm8) (by decide:2^16<=65536)
 have hgq:∀k,k<S.length->gd (qs.map fun q=>q*2^m) k=qs.getD k 0*2^m:=fun k hk=>by
  rw[zar (by rw[List.length_map];omega)]
  simp[List.getD_eq_getElem?_getD,List.getElem?_eq_getElem (show k<qs.length by omega)]
 refine(med_gen n ta tc t sa sc S m (fun _=>true) (qs.map fun q=>q*2^m) w hx (by have:=hg.tl;omega) (fun c hc=>by have:=hg.cl c hc;omega) hg.ct hs h0 h12 (by rw[List.length_map,hq]) (fun x hx=>?_) fun V hV k hk ka kc hc=>?_).mono fun e w' h=>?_
 ·obtain⟨k,hk,rfl⟩:=List.getElem_of_mem hx;rw[List.length_map]at hk;have:=(hes k (by omega)).q8;rw[List.getElem_map]
  have e:qs.getD k 0=qs[k]:=by simp[List.getD_eq_getElem?_getD,hk]
  rw[e]at this;exact Nat.mul_le_mul this h2m
 ·have h:=hes k hk;rw[hgq k hk];exact zuf n ta tc t ka kc (S.getD k []) m (qs.getD k 0) V hg (hx.keep hV) hc h.bl hm8 h.h8 h.inn h.cl (Nat.le_trans h.q8 (by omega)) (htab.keep hV) (hdt.keep hV)
 rcases h with⟨k,_,h,_⟩|⟨_,h⟩
 ·simp at h
 exact h
def yb8(w:World)(e:Ending)(w':World):Prop:=∃a cap,e=.returned (.agg #[.int .i64 3,.slice a 2 cap])/\LsCells w' a samT/\Below w.heap.size w w'
theorem zs3(w:World):Calls Tryz.prog 22 #[] w (yb8 w):=by
 obtain⟨W,hW⟩:∃W,W=(((w.alloc (.cells #[.int .i64 3,.slice (some ⟨w.heap.size+1+1+1,0,none⟩) 2 2] 26)).alloc (.cells #[.int .i64 1,.int .i64 2] 3)).alloc (.cells #[.int .i64 (-1),.int .i64 3] 3)).alloc
  (.cells #[.slice (some ⟨w.heap.size+1,0,none⟩) 2 2,.slice (some ⟨w.heap.size+1+1,0,none⟩) 2 2] 75):=⟨_,rfl⟩
 have b0:Blk W w.heap.size #[.int .i64 3,.slice (some ⟨w.heap.size+1+1+1,0,none⟩) 2 2] 26:=by rw[hW];exact(((Blk.new w _ _).alloc _).alloc _).alloc _
 have b1:Blk W (w.heap.size+1) #[.int .i64 1,.int .i64 2] 3:=by rw[hW];exact((Blk.new' _ (by simp) _ _).alloc _).alloc _
 have b2:Blk W (w.heap.size+1+1) #[.int .i64 (-1),.int .i64 3] 3:=by rw[hW];exact(Blk.new' _ (by simp) _ _).alloc _
 have b3:Blk W (w.heap.size+1+1+1) #[.slice (some ⟨w.heap.size+1,0,none⟩) 2 2,.slice (some ⟨w.heap.size+1+1,0,none⟩) 2 2] 75:=by rw[hW];exact Blk.new' _ (by simp) _ _
 have hb:Below w.heap.size w W:=by rw[hW];exact(((ba _ _).alloc (by simp) _).alloc (by simp;omega) _).alloc (by simp;omega) _
 have hl:LsCells W (some ⟨w.heap.size+1+1+1,0,none⟩) samT:=by
  intro i hi
  have:i=0\/i=1:=by simp[samT]at hi;omega
  rcases this with rfl|rfl
  ·refine⟨_,_,_,_,rfl,b3.cell 0,fun j hj=>?_⟩
   have:j=0\/j=1:=by simp[samT]at hj;omega
   rcases this with rfl|rfl
   ·exact⟨_,_,rfl,b1.cell 0⟩
   exact⟨_,_,rfl,b1.cell 1⟩
  refine⟨_,_,_,_,rfl,b3.cell 1,fun j hj=>?_⟩
  have:j=0\/j=1:=by simp[samT]at hj;omega
  rcases this with rfl|rfl
  ·exact⟨_,_,rfl,b2.cell 0⟩
  exact⟨_,_,rfl,b2.cell 1⟩
 have c0:=b0.cell 0;have c1:=b0.cell 1;go_enter Tryz.func22,Tryz.ntmps22;go_wp2;rw[<-hW];exact bodyPost_ret (v:=.agg #[.int .i64 3,.slice (some ⟨w.heap.size+1+1+1,0,none⟩) 2 2]) (by simp[results,Tryz.results22,go_sem,c0,c1]) rfl ⟨_,_,rfl,hl,hb⟩
theorem zqa(x y:ByteArray)(w:World):(binOp .eql 36 (.agg #[.string x]) (.agg #[.string y])).run Tryz.prog w=.ok (.bool (x.toList==y.toList)) w:=by
 have hp0:∀(x:Value)w,(part 9 #[x] 0).run Tryz.prog w=.ok x w:=fun x w=>by kernel_rfl
 rw[run_eql_struct,run_equalIn_struct w 9999 _ _ _ (by kernel_rfl) (by kernel_rfl)];rw[show(Tryz.prog.fieldsOf 36).toList=[{name:= "b",type:=9,offset:=0,embedded:=false,tag:= "",pkgPath:= "census/nat",byteOffset:=0}]by kernel_rfl];simp only[Op.eqFields,Sem.run_bind,Sem.run_ite,hp0,Result.andThen_ok,run_equalIn_string w 9998 9 x y Tryz.underlying9]
 cases(x.toList==y.toList)<;>simp
theorem zpi:Tryz.prog.eqGuardType Tryz.prog.depth 36=false:=by kernel_rfl
theorem zot{w:World}{b x:Nat}(h:Blk w b #[.int .u8 (x:Int)] 5)(hx:x<256):U8Cells w (some ⟨b,0,none⟩) [x]:=by
 intro i hi
 obtain rfl:i=0:=by simpa using hi
 exact⟨b,0,rfl,h.cell 0,hx⟩
theorem zqc(bs:List Nat)(h:(zbr bs 3 1).any (outP 3)=false)(q:Nat)(hc:zfl 3 samN (zbr bs 3 1)=some q)(hl:bs.length=1)(hq:q*2^1<=255):EstOk 3 samT 1 bs q:=⟨by omega,by omega,h,hc,by omega⟩
theorem yde:(zbr [192] 3 1).any (outP 3)=false:=by decide+kernel
theorem ydf:(zbr [208] 3 1).any (outP 3)=false:=by decide+kernel
theorem ydg:(zbr [16] 3 1).any (outP 3)=false:=by decide+kernel
theorem ydh:([⟨⟨3,0⟩,true⟩,⟨⟨4,0⟩,true⟩]:List Pr).any (outP 3)=false:=by decide+kernel
theorem med3{l':List Nat}(hp:l'.Perm [2,6,0])(hs:Sd leN l' 0 3):gd l' 1=2:=by
 have hl:=hp.length_eq
 match l',hl with
 |[a,b,c],_=>
   have h1:=hs 0 1 (by omega) (by omega) (by omega);have h2:=hs 1 2 (by omega) (by omega) (by omega);have m0:a∈[2,6,0]:=hp.mem_iff.1 (by simp);have m1:b∈[2,6,0]:=hp.mem_iff.1 (by simp);have m2:c∈[2,6,0]:=hp.mem_iff.1 (by simp);have hsum:=hp.sum_nat
   simp[gd,leN]at*
   omega
theorem yc9{w:World}{b:Nat}(h:Blk w b #[.int .u64 3,.int .u64 0,.bool true,.int .u64 4,.int .u64 0,.bool true] 31):PrCells w (some ⟨b,0,none⟩) [⟨⟨3,0⟩,true⟩,⟨⟨4,0⟩,true⟩]:=by
 intro i hi
 have:i=0\/i=1:=by simp at hi;omega
 rcases this with rfl|rfl
 ·exact⟨b,0,rfl,h.cell 0,h.cell 1,h.cell 2⟩
 exact⟨b,0,rfl,h.cell 3,h.cell 4,h.cell 5⟩
theorem zyj{w:World}{a b c d:Nat}(ha:Blk w a #[.int .u8 192] 5)(hb:Blk w b #[.int .u8 208] 5)(hc:Blk w c #[.int .u8 16] 5)
 (hd:Blk w d #[.slice (some ⟨a,0,none⟩) 1 1,.slice (some ⟨b,0,none⟩) 1 1,.slice (some ⟨c,0,none⟩) 1 1] 50):SdCells w (some ⟨d,0,none⟩) [[192],[208],[16]]:=by
 intro i hi
 have:i=0\/i=1\/i=2:=by simp at hi;omega
 rcases this with rfl|rfl|rfl
 ·exact⟨d,0,_,_,rfl,hd.cell 0,zot ha (by decide)⟩
 ·exact⟨d,0,_,_,rfl,hd.cell 1,zot hb (by decide)⟩
 exact⟨d,0,_,_,rfl,hd.cell 2,zot hc (by decide)⟩
theorem zfz(w:World)(htab:Tab w)(hdt:Dtab w):Calls Tryz.prog 7 #[] w fun e w'=>e=.returned (.bool true)/\Below w.heap.size w w':=by
 have HPR:Hid (∀V b,Blk V b #[.int .u8 193] 5->Calls Tryz.prog 21 #[.slice (some ⟨b,0,none⟩) 1 1,.int .i64 3,.int .i64 2] V fun e w'=>∃g,e=.returned (.tuple #[.slice (some ⟨g,0,none⟩) 2 2,.int .i64 0])/\OwnP w' V.heap.size (.slice (some ⟨g,0,none⟩) 2 2) (zbr [193] 3 2)/\Below V.heap.size V w'):=
  fun V b hb=>zrm (some ⟨b,0,none⟩) 1 [193] 3 2 V (by decide) (zot hb (by decide)) (by omega) (by omega) (by decide)
 have HSM:=lh (fun V=>zs3 V)
 have HCE:Hid (∀V,Below w.heap.size w V->∀a cap la,LsCells V a samT->PrCells V la [⟨⟨3,0⟩,true⟩,⟨⟨4,0⟩,true⟩]->Calls Tryz.prog 12 #[.agg #[.int .i64 3,.slice a 2 cap],.slice la 2 2] V (zls 2 0 V)):=
  fun V hV a cap la hx hp=>zqs 3 a cap samT la 2 [⟨⟨3,0⟩,true⟩,⟨⟨4,0⟩,true⟩] 2 V zzs hx (by decide) hp (by intro p hp;simp at hp;rcases hp with rfl|rfl<;>exact⟨by decide,by decide⟩) ydh sam_w (htab.keep hV) (hdt.keep hV)
 have HMD:Hid (∀V,Below w.heap.size w V->∀a cap sa,LsCells V a samT->SdCells V sa [[192],[208],[16]]->Calls Tryz.prog 19 #[.agg #[.int .i64 3,.slice a 2 cap],.slice sa 3 3,.int .i64 1] V (zy6 [2,6,0] V)):=
  fun V hV a cap sa hx hp=>zsq 3 a cap samT sa 3 [[192],[208],[16]] 1 [1,3,0] V zzs hx hp (by decide) (by decide) (by decide) rfl (fun i hi=>by
   have:i=0\/i=1\/i=2:=by simp at hi;omega
   rcases this with rfl|rfl|rfl
   ·exact zqc _ yde _ ydb rfl (by decide)
   ·exact zqc _ ydf _ ydc rfl (by decide)
   exact zqc _ ydg _ ydd rfl (by decide)) (htab.keep hV) (hdt.keep hV)
 have HOF:Hid (∀V:World,Calls Tryz.prog 11 #[.int .u64 2] V fun e w'=>e=.returned (.agg #[.string (natB 2)])/\Below V.heap.size V w'):=fun V=>zvn 2 (by decide) V
 clear htab hdt;go_enter Tryz.func7,Tryz.ntmps7;go_wp2_with fail;have HB1:Hid (Below w.heap.size w (w.alloc (.cells #[.int .u8 193] 5))):=ba _ _;refine(HPR.o _ _ (Blk.new _ _ _)).mono ?_;rintro e w2⟨g,rfl,hown,hb2⟩;rw[sam_p]at hown;have HB2:=bt HB1 hb2;have HO2:=lh hown;clear hb2 hown HPR HB1;go_wp2_with fail;refine(HSM.o _).mono ?_;rintro e w3⟨a3,c3,rfl,hl3,hb3⟩;have HB3:=bt HB2 hb3;have HO3:=lh (HO2.o.later hb3);have HL3:=lh hl3;clear hb3 hl3 HO2;go_wp2_with fail;have hb4:Below w3.heap.size w3 (w3.alloc (.cells #[.int .u64 3,.int .u64 0,.bool true,.int .u64 4,.int .u64 0,.bool true] 31)):=ba _ _
 have HB4:=bt HB3 hb4;refine(HCE.o _ HB4.o _ _ _ (HL3.o.keep hb4) (yc9 (Blk.new _ _ _))).mono ?_;rintro e w5⟨rfl,hb5⟩;have HO5:=lh ((HO3.o.later hb4).later hb5);have HB5:=bt HB4 hb5;clear hb4 hb5 HO3 HL3;go_wp2_with fail;obtain⟨t3,ht3⟩:=nm w5.heap.size;obtain⟨w6,hw6⟩:=nm (w5.alloc (.cells #[.string (natB 2)] 36))
 have hb6:Below w5.heap.size w5 w6:=by rw[hw6];exact ba _ _
 have q6:Blk w6 t3 #[.string (natB 2)] 36:=by rw[hw6,ht3];exact Blk.new _ _ _
 have HB6:=bt HB5 hb6;have HO6:=lh (HO5.o.later hb6);have HQ6:=lh q6;rw[<-hw6,<-ht3];clear hb6 q6 hw6 ht3 HO5;refine(HSM.o _).mono ?_;rintro e w7⟨a7,c7,rfl,hl7,hb7⟩;have HB7:=bt HB6 hb7;have HO7:=lh (HO6.o.later hb7);have HQ7:=lh (HQ6.o.later hb7);have HL7:=lh hl7;clear hb7 hl7 HO6 HQ6;go_wp2_with fail;obtain⟨B,hB⟩:=nm w7.heap.size;obtain⟨w8,hw8⟩:=nm ((((w7.alloc (.cells #[.int .u8 192] 5)).alloc (.cells #[.int .u8 208] 5)).alloc (.cells #[.int .u8 16] 5)).alloc (.cells #[.slice (some ⟨B,0,none⟩) 1 1,.slice (some ⟨B+1,0,none⟩) 1 1,.slice (some ⟨B+1+1,0,none⟩) 1 1] 50))
 have hb8:Below w7.heap.size w7 w8:=by rw[hw8];exact(((ba _ _).alloc (by simp) _).alloc (by simp;omega) _).alloc (by simp;omega) _
 have s1:Blk w8 B #[.int .u8 192] 5:=by rw[hw8,hB];exact(((Blk.new _ _ _).alloc _).alloc _).alloc _
 have s2:Blk w8 (B+1) #[.int .u8 208] 5:=by rw[hw8,hB];exact((Blk.new' _ (by simp) _ _).alloc _).alloc _
 have s3:Blk w8 (B+1+1) #[.int .u8 16] 5:=by rw[hw8,hB];exact(Blk.new' _ (by simp) _ _).alloc _
 have s4:Blk w8 (B+1+1+1) #[.slice (some ⟨B,0,none⟩) 1 1,.slice (some ⟨B+1,0,none⟩) 1 1,.slice (some ⟨B+1+1,0,none⟩) 1 1] 50:=by rw[hw8,hB];exact Blk.new' _ (by simp) _ _
 have HB8:=bt HB7 hb8;have HO8:=lh (HO7.o.later hb8);have HQ8:=lh (HQ7.o.later hb8);have HL8:=lh (HL7.o.keep hb8);have HSD:=lh (zyj s1 s2 s3 s4);rw[<-hB,<-hw8];clear hb8 s1 s2 s3 s4 hw8 hB HO7 HQ7 HL7;refine(HMD.o _ HB8.o _ _ _ HL8.o HSD.o).mono ?_;rintro e w9⟨l',hpm,hsd,rfl,hb9⟩;have hm2:gd l' 1=2:=med3 hpm hsd;have HB9:=bt HB8 hb9;have HO9:=lh (HO8.o.later hb9);have HQ9:=lh (HQ8.o.later hb9);rw[show(([2,6,0]:List Nat).length-1)/2=1 from rfl,hm2];clear hpm hsd hm2 hb9 HO8 HQ8 HSD HL8;obtain⟨t5,ht5⟩:=nm w9.heap.size;obtain⟨wx,hwx⟩:=nm (w9.alloc (.cells #[.string (natB 2)] 36))
 have hbx:Below w9.heap.size w9 wx:=by rw[hwx];exact ba _ _
 have qx:Blk wx t5 #[.string (natB 2)] 36:=by rw[hwx,ht5];exact Blk.new _ _ _
 have HBX:=bt HB9 hbx;have hox:=HO9.o.later hbx;have qy:=HQ9.o.later hbx;have c0:=hox.cell rfl zax 0 0 (by simp) (by omega);have c1:=hox.cell rfl zax 0 1 (by simp) (by omega);have c2:=hox.cell rfl zax 0 2 (by simp) (by omega);have c3:=hox.cell rfl zax 1 0 (by simp) (by omega);have c4:=hox.cell rfl zax 1 1 (by simp) (by omega);have c5:=hox.cell rfl zax 1 2 (by simp) (by omega);simp only[prc,List.getElem_cons_zero,List.getElem_cons_succ,List.getElem?_cons_zero,List.getElem?_cons_succ,Nat.zero_mul,Nat.one_mul,Nat.zero_add,Nat.add_zero]at c0 c1 c2 c3 c4 c5;have x3:=qy.cell 0
 have x5:=qx.cell 0;have gz:=hox.lt.1;have z3:=qy.lt;have z5:=qx.lt
 have HKS:Hid (∀w':World,Below wx.heap.size wx w'->(fun w'=>w'.cell? ⟨g,0,none⟩=some (.int .u64 3)/\w'.cell? ⟨g,1,none⟩=some (.int .u64 0)/\w'.cell? ⟨g,2,none⟩=some (.bool false)/\w'.cell? ⟨g,3,none⟩=some (.int .u64 0)/\w'.cell? ⟨g,4,none⟩=some (.int .u64 0)/\w'.cell? ⟨g,5,none⟩=some (.bool true)/\w'.cell? ⟨t3,0,none⟩=some (.string (natB 2))/\w'.cell? ⟨t5,0,none⟩=some (.string (natB 2))) w'):=fun w' hb=>⟨zab hb c0,zab hb c1,zab hb c2,zab hb c3,zab hb c4,zab hb c5,zab hb x3,zab hb x5⟩
 have hE1:=zqa (natB 2) (natB 2);rw[show((natB 2).toList==(natB 2).toList)=true by simp]at hE1
 have hE2:∀w,(binOp .eql 31 (.agg #[.int .u64 3,.int .u64 0,.bool false]) (.agg #[.int .u64 3,.int .u64 0,.bool false])).run Tryz.prog w=.ok (.bool true) w:=fun w=>zlk ⟨⟨3,0⟩,false⟩ ⟨⟨3,0⟩,false⟩ w
 have hE3:∀w,(binOp .eql 31 (.agg #[.int .u64 0,.int .u64 0,.bool true]) (.agg #[.int .u64 0,.int .u64 0,.bool true])).run Tryz.prog w=.ok (.bool true) w:=fun w=>zlk ⟨⟨0,0⟩,true⟩ ⟨⟨0,0⟩,true⟩ w
 have hgp:=zkx;have hgn:=zpi
 go_upto_region 4 with fail
 rw[<-hwx,<-ht5];clear hbx qx hox qy hwx ht5 HO9 HQ9 HCE HMD HSM
 refine wp_region_held_drew (S:=(fun w'=>w'.cell? ⟨g,0,none⟩=some (.int .u64 3)/\w'.cell? ⟨g,1,none⟩=some (.int .u64 0)/\w'.cell? ⟨g,2,none⟩=some (.bool false)/\w'.cell? ⟨g,3,none⟩=some (.int .u64 0)/\w'.cell? ⟨g,4,none⟩=some (.int .u64 0)/\w'.cell? ⟨g,5,none⟩=some (.bool true)/\w'.cell? ⟨t3,0,none⟩=some (.string (natB 2))/\w'.cell? ⟨t5,0,none⟩=some (.string (natB 2)))) (by kernel_rfl) (by exact HKS.o _ (Below.refl wx.heap.size wx).drew) fun hH=>?_
 refine tkV 0 31 rfl rfl ?_;try simp only[tkS]
 refine tkV 1 32 rfl rfl ?_;try simp only[tkS]
 refine tkV 2 33 rfl rfl ?_;try simp only[tkS]
 refine tkV 3 34 rfl rfl ?_;try simp only[tkS]
 refine tkV 4 35 rfl rfl ?_;try simp only[tkS]
 refine tkV 5 36 rfl rfl ?_;try simp only[tkS]
 refine tkV 6 37 rfl rfl ?_;try simp only[tkS]
 refine tkV 7 38 rfl rfl ?_;try simp only[tkS]
 refine tkV 8 39 rfl rfl ?_;try simp only[tkS]
 refine tkV 9 40 rfl rfl ?_;try simp only[tkS]
 refine tkV 10 41 rfl rfl ?_;try simp only[tkS]
 refine tkV 11 42 rfl rfl ?_;try simp only[tkS]
 refine tkV 12 43 rfl rfl ?_;try simp only[tkS]
 refine tkV 13 44 rfl rfl ?_;try simp only[tkS]
 refine tkV 14 45 rfl rfl ?_;try simp only[tkS]
 refine tkV 15 46 rfl rfl ?_;try simp only[tkS]
 refine tkV 16 47 rfl rfl ?_;try simp only[tkS]
 refine tkV 17 48 rfl rfl ?_;try simp only[tkS]
 refine tkV 18 49 rfl rfl ?_;try simp only[tkS]
 refine tkV 19 50 rfl rfl ?_;try simp only[tkS]
 refine tkV 20 51 rfl rfl ?_;try simp only[tkS]
 refine tkV 21 52 rfl rfl ?_;try simp only[tkS]
 refine tkV 22 53 rfl rfl ?_;try simp only[tkS]
 refine tkV 23 54 rfl rfl ?_;try simp only[tkS]
 refine tkR 24 (.cons rfl (fun K hK=>?_) .nil);go_simp;go_at_call 11;refine Calls.mono (HOF.o _) ?_;rintro e V20⟨rfl,hb20⟩;have hv20:Below wx.heap.size wx V20:=Below.trans (Below.refl wx.heap.size wx).drew (Below.mono hb20 (Below.size (Below.refl wx.heap.size wx).drew));clear hb20;go_wp2_with fail
 refine hK.out _ _ (by exact HKS.o _ hv20) fun hH=>?_
 clear hK K
 try simp only[tkS]
 refine tkV 25 56 rfl rfl ?_;try simp only[tkS]
 refine tkV 26 57 rfl rfl ?_;try simp only[tkS]
 refine tkV 27 58 rfl rfl ?_;try simp only[tkS]
 refine tkV 28 59 rfl rfl ?_;try simp only[tkS]
 refine tkV 29 60 rfl rfl ?_;try simp only[tkS]
 refine tkV 30 61 rfl rfl ?_;try simp only[tkS]
 refine tkV 31 62 rfl rfl ?_;try simp only[tkS]
 refine tkV 32 63 rfl rfl ?_;try simp only[tkS]
 refine tkR 33 (.cons rfl (fun K hK=>?_) .nil);go_simp;go_at_call 11;refine Calls.mono (HOF.o _) ?_;rintro e V21⟨rfl,hb21⟩;have hv21:Below wx.heap.size wx V21:=Below.trans hv20 (Below.mono hb21 (Below.size hv20));clear hb21;go_wp2_with fail
 refine hK.out _ _ (by exact HKS.o _ hv21) fun hH=>?_
 clear hK K
 try simp only[tkS]
 refine tkV 34 65 rfl rfl ?_;try simp only[tkS]
 refine tkV 35 66 rfl rfl ?_;try simp only[tkS]
 refine tkV 36 67 rfl rfl ?_;try simp only[tkS]
 refine tkV 37 68 rfl rfl ?_;try simp only[tkS]
 refine tkV 38 69 rfl rfl ?_;try simp only[tkS]
 refine tkV 39 70 rfl rfl ?_;try simp only[tkS]
 refine tkV 40 0 rfl rfl ?_;try simp only[tkS]
 refine wpAnyH_done (by kernel_rfl) ?_ _;go_wp2;go_ret;exact⟨rfl,HBX.o.trans (hv21.mono HBX.o.size)⟩
def zdz(t:List Cl):Bool:=(t.all fun c=>decide (c.length<=140))&&decide (t.length<=60)
theorem zla(z:Int)(a:Option Addr)(cap:Nat)(t:List Cl)(w:World)(hl:t.length<=9223372036854775807)(hx:LsCells w a t):
 Calls Tryz.prog 37 #[.agg #[.int .i64 z,.slice a t.length cap]] w fun e w'=>e=.returned (.bool (zdz t))/\Below w.heap.size w w':=by
 obtain⟨w0,hw0⟩:=nm (w.alloc (.cells #[.int .i64 z,.slice a t.length cap] 26))
 have hb0:Below w.heap.size w w0:=by rw[hw0];exact ba _ _
 have q0:Blk w0 w.heap.size #[.int .i64 z,.slice a t.length cap] 26:=by rw[hw0];exact Blk.new _ _ _
 have HB0:=lh hb0;have HQ0:=lh q0;have HX:=lh (hx.keep hb0);have k1:=q0.cell 1;have kz:=q0.lt;clear hb0 q0 hx;go_enter Tryz.func37,Tryz.ntmps37;go_wp2_with fail;rw[<-hw0];clear hw0 k1 kz
 go_loopw[8](fun i wr=>∃k:Nat,k<=t.length/\i=.int .i64 k/\((t.take k).all fun c=>decide (c.length<=140))=true/\wr=w0)(fun i _=>t.length-(intOf i).toNat)
 case atStart=>exact⟨0,Nat.zero_le _,rfl,rfl,rfl⟩
 obtain⟨k,hk,rfl,hall,rfl⟩:=hrel;have HAL:=lh hall;clear hall
 by_cases hlt:k<t.length
 ·have hki:(k:Int)<(t.length:Int):=by omega
  obtain⟨b,off,ai,ci,rfl,e0,hci⟩:=HX.o k hlt;have ez:=zai e0
  have HGD:Hid (t.getD k []=t[k]):=by show _=_;simp[List.getD_eq_getElem?_getD,hlt]
  have HNX:Hid (((t.take (k+1)).all fun c=>decide (c.length<=140))=decide ((t.getD k []).length<=140)):=by
   show _=_
   rw[List.take_succ_eq_append_getElem hlt,List.all_append,HAL.o,HGD.o];simp
  have HMM:Hid (t.getD k []∈t):=by show _∈_;rw[HGD.o];exact List.getElem_mem hlt
  generalize t.getD k []=c at*;clear hci
  by_cases hc:140<c.length
  ·have hci:(140:Int)<(c.length:Int):=by omega
   have HR:Hid (zdz t=false):=by
    show _=_
    unfold zdz;rw[Bool.and_eq_false_iff]
    left
    rw[List.all_eq_false];exact⟨c,HMM.o,by simp;omega⟩
   clear hc;go_wp2;go_ret;exact⟨by rw[HR.o];rfl,HB0.o⟩
  have hci:¬(140:Int)<(c.length:Int):=by omega
  go_wp2_with fail;go_roundw
  case rel=>exact⟨k+1,by omega,by go_num,by rw[HNX.o];simpa using hc,by first|rfl|trivial⟩
  case measure=>simp[intOf];omega
 obtain rfl:k=t.length:=by omega
 have hkn:¬((t.length:Int)<(t.length:Int)):=by omega
 have k1:=HQ0.o.cell 1;have kz:=HQ0.o.lt
 have HR:Hid (zdz t=decide ((t.length:Int)<=60)):=by
  have h:=HAL.o;rw[List.take_length]at h
  show _=_
  unfold zdz;rw[h,Bool.true_and];exact decide_eq_decide.2 (by omega)
 go_wp2;go_ret;exact⟨by rw[HR.o];rfl,HB0.o⟩
end Go.Proofs.YtnlaakmglhjjmaaGreatDoor
