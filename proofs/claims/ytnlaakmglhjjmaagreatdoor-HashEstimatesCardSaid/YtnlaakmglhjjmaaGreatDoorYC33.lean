/- Parts of the proofs of laws. Texts: NatO, NatD, NatC. -/
import Derived.Test.YtnlaakmglhjjmaaGreatDoorYC32
import Derived.Laws.CopyOwn
set_option maxHeartbeats 8000000
set_option maxRecDepth 100000
set_option linter.all false
namespace Go.Proofs.YtnlaakmglhjjmaaGreatDoor
open Go.RowKit Cen
theorem wd_two{w:World}{g x:Nat}(hx:x<W32*W32)(h:Blk w g #[.int .u32 ((x%W32:Nat):Int),.int .u32 ((x/W32:Nat):Int)] 62):Wd w g 2 x:=fun k hk=>by
 have hk2:k=0\/k=1:=by omega
 rcases hk2 with rfl|rfl
 ·rw[h.cell 0];simp
 have h2:x/W32<W32:=by rw[Nat.div_lt_iff_lt_mul (by decide)];exact hx
 rw[h.cell 1,Nat.pow_one,Nat.mod_eq_of_lt h2];rfl
theorem gof_any(x:Nat)(hx:x<18446744073709551616)(w:World):Calls Tryz.prog 11 #[.int .u64 (x:Int)] w fun e w'=>e=.returned (natG x)/\Below w.heap.size w w':=by
 have e1:(x:Int)%4294967296=((x%W32:Nat):Int):=by show _=((x%4294967296:Nat):Int);omega
 have e2:(x:Int)/4294967296=((x/W32:Nat):Int):=by show _=((x/4294967296:Nat):Int);omega
 have e3:((x/W32:Nat):Int)%4294967296=((x/W32:Nat):Int):=by show((x/4294967296:Nat):Int)%_=((x/4294967296:Nat):Int);omega
 have HX2:Hid (x<W32*W32):=hx;have HX3:Hid (x<W32^2):=hx;unfold natG;generalize hA:x%W32=A at*;generalize hB:x/W32=B at*;have HA:=lh hA;have HBQ:=lh hB;clear hA hB hx;go_enter Tryz.func11,Tryz.ntmps11;go_wp2_with fail;refine(gfrom_any (w.heap.size+1) 2 2 x _ (by decide) HX3.o (wd_two HX2.o (by rw[HA.o,HBQ.o];exact Blk.new' _ (by simp) _ _))).mono ?_;rintro e w1⟨rfl,hb1⟩;have k:Blk w1 w.heap.size #[.string ⟨#[]⟩] 36:=((Blk.new w _ _).alloc _).later hb1;have HK:=lh k;have hc:=k.cell 0;have hf:=k.fr 0;have hl:=k.lt;have HB:=lh hb1;clear k hb1
 unfold natG;go_wp2;have e0:(w1.setCell ⟨w.heap.size,0,none⟩ (.string (bytesG x))).cell? ⟨w.heap.size,0,none⟩=some (.string (bytesG x)):=(HK.o.set 0 _).cell 0;exact bodyPost_ret (v:=.agg #[.string (bytesG x)]) (by simp[results,Tryz.results11,go_sem,e0]) rfl ⟨rfl,((((Below.refl w.heap.size w).alloc (Nat.le_refl _) _).alloc (by simp) _).trans (HB.o.mono (by simp;omega))).setCell (show w.heap.size<=(⟨w.heap.size,0,none⟩:Addr).block from Nat.le_refl _) _⟩
theorem pow_set(n:Nat):setD W32 0 (n/32) (2^(n%32))=2^n:=by
 unfold setD;rw[Nat.zero_mod,Nat.zero_div,Nat.zero_mul,Nat.zero_add,Nat.add_zero,show(W32:Nat)=2^32 from rfl,<-Nat.pow_mul,<-Nat.pow_add]
 congr 1;omega
theorem gpow2_any(n:Nat)(hn:n<=4096)(w:World):Calls Tryz.prog 10 #[.int .i64 (n:Int)] w fun e w'=>e=.returned (natG (2^n))/\Below w.heap.size w w':=by
 obtain⟨w0,hw0⟩:=nm (w.alloc (.cells #[.string ⟨#[]⟩] 36))
 have hb0:Below w.heap.size w w0:=by rw[hw0];exact ba _ _
 have q0:Blk w0 w.heap.size #[.string ⟨#[]⟩] 36:=by rw[hw0];exact Blk.new _ _ _
 obtain⟨j,hj⟩:=nm (n/32);obtain⟨r,hr⟩:=nm (n%32);obtain⟨L,hL⟩:=nm (j+1)
 have e1:(n:Int)/32=(j:Int):=by omega
 have e2:(n:Int)%32=(r:Int):=by omega
 have HLI:Hid ((j:Int)+1=(L:Int)):=by show _=_;omega
 have hjL:j<L:=by omega
 have hjl:(j:Int)<(L:Int):=by omega
 have hj128:j<=128:=by omega
 have hr32:(r:Int)<32:=by omega
 have HML:Hid (L<=maxLen):=by show _<=_;unfold maxLen;omega
 have HZ:Hid (w.heap.size<=w0.heap.size):=hb0.size
 have hpw:2^r<W32:=by rw[show(W32:Nat)=2^32 from rfl];exact Nat.pow_lt_pow_right (by decide) (by omega)
 have HPW:=lh hpw
 have HPS:Hid (setD W32 0 j (2^r)=2^n):=by show _=_;rw[hj,hr];exact pow_set n
 have HPL:Hid (2^n<W32^L):=by
  show _<_
  rw[show(W32:Nat)=2^32 from rfl,<-Nat.pow_mul];exact Nat.pow_lt_pow_right (by decide) (by omega)
 have HPI:Hid ((2:Int)^r%4294967296=((2^r:Nat):Int)):=by
  show _=_
  have:(2:Int)^r=((2^r:Nat):Int):=by push_cast;rfl
  rw[this];have h:2^r<4294967296:=hpw;generalize 2^r=P at h⊢;omega
 have HL:=lh hL;have HB0:=lh hb0;have HQ0:=lh q0;clear hb0 q0 hL hj hr hpw;go_enter Tryz.func10,Tryz.ntmps10;go_wp2_with(at_make;go_loud(refine mk elem32 rfl _ _ rfl w.heap.size .i64 .i64 _ _ L rfl rfl HLI.o HLI.o (by have:=HL.o;omega) HML.o (by rw[<-hw0];exact HZ.o) Q32 0 rfl ?_));intro w1 ho1 hg1;rw[<-hw0]at hg1;have hb1:Below w0.heap.size w0 w1:=(Below.refl _ _).grown hg1 (Nat.le_refl _) (by simp);obtain⟨g,hg⟩:=nm w0.heap.size
 have hgw:g=w.heap.size+1:=by rw[hg,hw0,World.size_alloc]
 have HO1:Hid (OwnW w1 w.heap.size g L 0):=by
  show OwnL _ _ _ _ _ _ _
  rw[digP_zero,hgw];exact ho1
 have HQ1:=lh (HQ0.o.later hb1);have HB1:=bt HB0 hb1
 have HGZ:Hid (w.heap.size<g):=by show _<_;rw[hg];exact HQ0.o.lt
 rw[<-hgw];have v0:=HO1.o.cell hjL;have vf:=HO1.o.fr j;have vz:=HO1.o.lt.1;clear ho1 hg1 hb1 HB0 HQ0 hw0 hg hgw
 go_upto_region 5 with fail
 rw[HPI.o]
 have HO2:Hid (OwnW (w1.setCell ⟨g,j,none⟩ (.int .u32 ((2^r:Nat):Int))) w.heap.size g L (2^n)):=by
  have h:=HO1.o.set hjL HPW.o;rw[HPS.o]at h;exact h
 have HB2:Hid (Below w.heap.size w (w1.setCell ⟨g,j,none⟩ (.int .u32 ((2^r:Nat):Int)))):=HB1.o.setCell (by have:=HGZ.o;dsimp only;omega) _;have HQ2:Hid (Blk (w1.setCell ⟨g,j,none⟩ (.int .u32 ((2^r:Nat):Int))) w.heap.size #[.string ⟨#[]⟩] 36):=HQ1.o.other _ _ (by have:=HGZ.o;dsimp only;omega);generalize(w1.setCell ⟨g,j,none⟩ (.int .u32 ((2^r:Nat):Int)))=w2 at*;clear v0 vf vz;have hfr:=gfrom_any g L L (2^n) w2 (by have:=HL.o;omega) HPL.o HO2.o.wd;unfold natG at hfr;have HFR:=lh hfr;clear hfr;go_wp2_with fail;refine HFR.o.mono ?_;rintro e w5⟨rfl,hb5⟩
 have hr5:=HQ2.o.later hb5;have HBF:=bt HB2 hb5;have r0:=hr5.cell 0;have rf:=hr5.fr 0;have rz:=hr5.lt;clear hb5;go_wp2_with fail;have g0:=(hr5.set 0 (.string (bytesG (2^n)))).cell 0;exact bodyPost_ret (v:=.agg #[.string (bytesG (2^n))]) (by simp[results,Tryz.results10,go_sem,g0]) rfl ⟨rfl,HBF.o.setCell (Nat.le_refl _) _⟩
structure AddS(B x y i V c:Nat):Prop where
 eq:V%B^i+c*B^i=x%B^i+y%B^i
 hi:V/B^i=y/B^i
 c1:c<=1
theorem AddS.start(B x y:Nat):AddS B x y 0 y 0:=⟨by simp[Nat.mod_one],rfl,by omega⟩
theorem setD_mod{B V k d:Nat}(hB:0<B)(hd:d<B):setD B V k d%B^(k+1)=V%B^k+d*B^k:=by
 unfold setD;rw[Nat.mul_comm (V/B^(k+1)),Nat.add_mul_mod_self_left,Nat.mod_eq_of_lt (low_lt hB hd)]
theorem AddS.dig{B x y i V c:Nat}(h:AddS B x y i V c):V/B^i%B=y/B^i%B:=by rw[h.hi]
theorem AddS.step{B x y i V c T:Nat}(hB:2<=B)(h:AddS B x y i V c)(hT:T=c+(V/B^i%B+x/B^i%B)):AddS B x y (i+1) (setD B V i (T%B)) (T/B)/\T<2*B:=by
 have h1:V/B^i%B<B:=Nat.mod_lt _ (by omega);have h2:x/B^i%B<B:=Nat.mod_lt _ (by omega);have hc:=h.c1
 have hT2:T<2*B:=by omega
 refine⟨⟨?_,?_,?_⟩,hT2⟩
 ·rw[setD_mod (by omega) (Nat.mod_lt _ (by omega)),mod_pow_succ' B x i,mod_pow_succ' B y i,<-h.dig];have e1:=h.eq
  have e2:T/B*B^(i+1)+T%B*B^i=T*B^i:=by rw[Nat.pow_succ,Nat.mul_comm (B^i) B,<-Nat.mul_assoc,<-Nat.add_mul,Nat.mul_comm (T/B),Nat.div_add_mod]
  have e3:T*B^i=c*B^i+V/B^i%B*B^i+x/B^i%B*B^i:=by rw[hT,Nat.add_mul,Nat.add_mul,Nat.add_assoc]
  generalize T/B*B^(i+1)=a1 at*;generalize T%B*B^i=a2 at*;generalize T*B^i=a3 at*;generalize c*B^i=a4 at*;generalize V/B^i%B*B^i=a5 at*;generalize x/B^i%B*B^i=a6 at*;omega
 ·rw[setD_high (by omega) (Nat.mod_lt _ (by omega)) (Nat.lt_succ_self i),Nat.pow_succ,<-Nat.div_div_eq_div_mul,<-Nat.div_div_eq_div_mul,h.hi]
 have:T/B<2:=by rw[Nat.div_lt_iff_lt_mul (by omega)];omega
 omega
theorem AddS.close{B x y i V c:Nat}(hB:2<=B)(h:AddS B x y i V c)(hx:x<B^i)(hy:y<B^i):setD B V i c=x+y:=by
 have e0:V/B^i=0:=by rw[h.hi,Nat.div_eq_of_lt hy]
 have e1:=setD_add B V i c;have e2:=h.eq;rw[Nat.mod_eq_of_lt hx,Nat.mod_eq_of_lt hy]at e2
 have e3:V%B^i=V:=by
  have:=Nat.div_add_mod V (B^i);rw[e0,Nat.mul_zero,Nat.zero_add]at this;exact this
 rw[e0,Nat.zero_mod,Nat.zero_mul,Nat.add_zero]at e1;rw[e1,<-e3,e2]
theorem flat32(l:List Nat):l.flatMap Q32=l.map fun d:Nat=>Value.int .u32 (d:Int):=by
 induction l with
 |nil=>rfl
 |cons x l ih=>rw[List.flatMap_cons,ih];rfl
theorem OwnW.blk{w:World}{base g L x:Nat}(h:OwnW w base g L x):w.heap[g]?=some (.cells ((digP W32 L x).flatMap Q32).toArray 62 (0,0))/\L<=maxLen:=by
 rcases h.2 with⟨h1,_⟩|⟨g',cap,cur,hv,_,hh,h2,h3,h4,h5⟩
 ·simp at h1
 simp only[Value.slice.injEq,Option.some.injEq,Addr.mk.injEq,and_true]at hv;obtain⟨rfl,_,rfl⟩:=hv;refine⟨?_,h3⟩;rw[hh,<-h5]
 congr 2
 apply Array.toList_inj.1
 rw[digP_len,List.take_of_length_le (by simp[h4])]
theorem OwnW.of{w:World}{base g L x:Nat}(hg:base<=g)(hL:L<=maxLen)(h:w.heap[g]?=some (.cells ((digP W32 L x).flatMap Q32).toArray 62 (0,0))):OwnW w base g L x:=by
 have hl:((digP W32 L x).flatMap Q32).length=L:=by rw[flat32,List.length_map,digP_len]
 refine⟨by rw[hl,digP_len,Nat.mul_one],.inr ⟨g,L,_,by rw[digP_len],hg,h,by rw[digP_len];exact Nat.le_refl _,hL,by simp[hl],?_⟩⟩;rw[digP_len,Nat.mul_one];exact List.take_of_length_le (by simp[hl])
theorem digP_pad{B n m x:Nat}(hx:x<B^m)(hm:m<=n)(hB:0<B):digP B n x=digP B m x++List.replicate (n-m) 0:=by
 refine List.ext_getElem? fun k=>?_
 by_cases hk:k<n
 ·rw[digP_get B x hk]
  by_cases hkm:k<m
  ·rw[List.getElem?_append_left (by rw[digP_len];exact hkm),digP_get B x hkm]
  rw[List.getElem?_append_right (by rw[digP_len];omega),digP_len,List.getElem?_replicate,if_pos (by omega),dig_high (Nat.lt_of_lt_of_le hx (Nat.pow_le_pow_right hB (by omega)))]
 rw[List.getElem?_eq_none (by rw[digP_len];omega),List.getElem?_eq_none (by rw[List.length_append,digP_len,List.length_replicate];omega)]
theorem copy_words{N L y:Nat}(hy:y<W32^L)(hL:L<=N):splice ((digP W32 N 0).flatMap Q32) 0 ((digP W32 L y).flatMap Q32)=(digP W32 N y).flatMap Q32:=by
 unfold splice;rw[digP_pad hy hL (by decide),digP_zero,flat32,flat32,flat32]
 simp[digP_len]
theorem Wd.src{w:World}{g L x:Nat}(h:Wd w g L x)(j:Nat)(v:Value)(hj:((digP W32 L x).flatMap Q32)[j]?=some v):w.cell? ((⟨g,0,none⟩:Addr).add j)=some v:=by
 rw[flat32,List.getElem?_map]at hj
 by_cases hjl:j<L
 ·rw[digP_get _ _ hjl]at hj;simp only[Option.map_some,Option.some.injEq]at hj;have e:=h j hjl;rw[<-hj]
  have e2:(⟨g,0,none⟩:Addr).add j=⟨g,j,none⟩:=by
   unfold Addr.add
   split
   ·next h0=>rw[h0]
   simp
  rw[e2];exact e
 rw[List.getElem?_eq_none (by rw[digP_len];omega)]at hj;simp at hj
theorem add_term{q d e T:Nat}(hd:d<4294967296)(he:e<4294967296)(hT:T=q+(d+e))(h:T<18446744073709551616):IntKind.u64.wrap ((q:Int)+IntKind.u64.wrap (IntKind.u64.wrap (d:Int)+IntKind.u64.wrap (e:Int)))=(T:Int):=by
 rw[u64w (x:=d) (by omega),u64w (x:=e) (by omega),show(d:Int)+(e:Int)=((d+e:Nat):Int)by omega,u64w (by omega),show(q:Int)+((d+e:Nat):Int)=(T:Int)by omega,u64w h]
theorem gadd_any(x y:Nat)(hx:nB x<=1000000)(hy:nB y<=1000000)(w:World):Calls Tryz.prog 34 #[natG x,natG y] w fun e w'=>e=.returned (natG (x+y))/\Below w.heap.size w w':=by
 obtain⟨S,hS⟩:=nm (x+y);rw[<-hS];have HS:=lh hS;clear hS
 have hwx:=fun V=>gwords_any x hx V
 have hwy:=fun V=>gwords_any y hy V
 have hlx:=nW_lt x;have hly:=nW_lt y;have hLx:=nW_le hx;have hLy:=nW_le hy;unfold natG WPost at hwx hwy;rw[show natG x=.agg #[.string (bytesG x)]from rfl,show natG y=.agg #[.string (bytesG y)]from rfl];generalize bytesG x=s at*;generalize bytesG y=t at*;generalize nW x=Lx at*;generalize nW y=Ly at*;have HWX:=lh hwx;have HWY:=lh hwy;have HLX:=lh hlx;have HLY:=lh hly;clear hwx hwy hx hy hlx hly;go_enter Tryz.func34,Tryz.ntmps34;go_wp2_with fail
 have k0:=(((Blk.new w #[.string s] 36).alloc (.cells #[.string t] 36)).alloc (.cells #[.string ⟨#[]⟩] 36))
 have k1:=((Blk.new' (w.alloc (.cells #[.string s] 36)) (b:=w.heap.size+1) (by simp) #[.string t] 36).alloc (.cells #[.string ⟨#[]⟩] 36))
 have k2:=Blk.new' ((w.alloc (.cells #[.string s] 36)).alloc (.cells #[.string t] 36)) (b:=w.heap.size+1+1) (by simp) #[.string ⟨#[]⟩] 36;have hb:Below w.heap.size w (((w.alloc (.cells #[.string s] 36)).alloc (.cells #[.string t] 36)).alloc (.cells #[.string ⟨#[]⟩] 36)):=(((Below.refl _ w).alloc (Nat.le_refl _) _).alloc (by simp) _).alloc (by simp;omega) _;generalize(((w.alloc (.cells #[.string s] 36)).alloc (.cells #[.string t] 36)).alloc (.cells #[.string ⟨#[]⟩] 36))=W at*;have HK2:=lh k2;have HB:=lh hb;have c0:W.cell? ⟨w.heap.size,0,none⟩=some (.string s):=k0.cell 0
 have c1:W.cell? ⟨w.heap.size+1,0,none⟩=some (.string t):=k1.cell 0
 have HKS:Hid (∀w':World,Below W.heap.size W w'->w'.cell? ⟨w.heap.size,0,none⟩=some (.string s)/\w'.cell? ⟨w.heap.size+1,0,none⟩=some (.string t)/\Below W.heap.size W w'):=lh fun w' hb=>⟨zab hb c0,zab hb c1,hb⟩
 clear k0 k1 k2 hb
 go_upto_region 1 with fail
 go_cut[5,6](fun sx sy wx=>WXY W Lx Ly x y sx sy wx)
 case first=>
  go_region_with (go_at_call 43
                  first
                   | (with_reducible refine Calls.mono (HWX.o W.drew) ?_
                      rintro e v5⟨gx,rfl,hk5,hb5⟩;have hv5:Below W.heap.size W v5:=(Below.refl W.heap.size W).drew.trans (hb5.mono (Nat.le_refl _));have d0:=zab hv5 c0
                      have d1:=zab hv5 c1)
                   | (with_reducible refine Calls.mono (HWY.o _) ?_
                      rintro e v6⟨gy,rfl,hk6,hb6⟩))
  all_goals(go_wp2_with fail;go_meet;exact⟨gx,gy,rfl,rfl,hk5.later hb6,OwnL.lower hk6 hv5.size,by have:=hk5.lt.1;have:=hk6.lt.2;omega,hv5.trans (hb6.mono hv5.size)⟩)
 obtain⟨gx,gy,rfl,rfl,hX,hY,hne,hbw⟩:=hcut
 rename World=>wx
 have HX:=lh hX.wd;have HY:=lh hY.wd;have HXZ:=lh hX.lt.1;have HYZ:=lh hY.lt.1;have HR:=lh (HK2.o.later hbw);have HBW:=bt HB hbw;clear hX hY hne hbw HKS c0 c1 HWX HWY HK2 HB
 by_cases hsw:Lx<Ly
 case' pos=>
  have hswi:(Lx:Int)<(Ly:Int):=by omega
  go_upto_region 4 with fail
  obtain⟨La,rfl⟩:=nm Ly;obtain⟨Lb,rfl⟩:=nm Lx;obtain⟨a,rfl⟩:=nm y;obtain⟨b,rfl⟩:=nm x;obtain⟨ga,rfl⟩:=nm gy;obtain⟨gb,rfl⟩:=nm gx;have KA:=HY;have KB:=HX;have KAZ:=HYZ;have KBZ:=HXZ
  have KS:Hid (S=a+b):=by show _=_;rw[HS.o,Nat.add_comm]
  have KLA:=HLY;have KLB:=HLX;have hLa:=hLy;have hLb:=hLx
  have hba:Lb<=La:=by omega
  clear HS hsw hswi HX HY HXZ HYZ HLX HLY hLx hLy
 case' neg=>
  have hswi:¬(Lx:Int)<(Ly:Int):=by omega
  go_upto_region 4 with fail
  obtain⟨La,rfl⟩:=nm Lx;obtain⟨Lb,rfl⟩:=nm Ly;obtain⟨a,rfl⟩:=nm x;obtain⟨b,rfl⟩:=nm y;obtain⟨ga,rfl⟩:=nm gx;obtain⟨gb,rfl⟩:=nm gy;have KA:=HX;have KB:=HY;have KAZ:=HXZ;have KBZ:=HYZ;have KS:Hid (S=a+b):=HS;have KLA:=HLX;have KLB:=HLY;have hLa:=hLx;have hLb:=hLy
  have hba:Lb<=La:=by omega
  clear HS hsw hswi HX HY HXZ HYZ HLX HLY hLx hLy
 all_goals
  obtain⟨N,hN⟩:=nm (La+1)
  have HNI:Hid ((La:Int)+1=(N:Int)):=by show _=_;omega
  have HML:Hid (N<=maxLen):=by show _<=_;unfold maxLen;omega
  have HN:=lh hN;have HBA:=lh hba
  have hN5:N<=250001:=by omega
  clear hN hba;go_wp2_with(at_make;go_loud(refine mk elem32 rfl _ _ rfl wx.heap.size .i64 .i64 _ _ N rfl rfl HNI.o HNI.o (by omega) HML.o (Nat.le_refl _) Q32 0 rfl ?_));intro w1 ho1 hg1;have hb1:Below wx.heap.size wx w1:=(Below.refl _ _).grown hg1 (Nat.le_refl _) (by simp);obtain⟨g,hg⟩:=nm wx.heap.size
  have HO1:Hid (OwnW w1 wx.heap.size g N 0):=by
   show OwnL _ _ _ _ _ _ _
   rw[digP_zero,hg];exact ho1
  have HB1:=lh hb1;rw[<-hg];have HG:=lh hg;clear ho1 hg1 hb1 hg;obtain⟨cs,hcs⟩:=nm ((digP W32 Lb b).flatMap Q32)
  have hcl:cs.length=Lb:=by rw[hcs,flat32,List.length_map,digP_len]
  have HC1:Hid (∀v∈cs,v.oneCell'=true):=by show∀v∈cs,_;rw[hcs,flat32];simp[Value.oneCell']
  have HSRC:Hid (∀j v,cs[j]?=some v->w1.cell? ((⟨gb,0,none⟩:Addr).add j)=some v):=by show∀j v,_->_;rw[hcs];exact(KB.o.keep HB1.o).src
  have HCS:=lh hcs
  have HMI:Hid (cs.length=Nat.min Lb N):=by show _=_;rw[hcl];have h1:=HBA.o;have h2:=HN.o;exact(Nat.min_eq_left (by omega)).symm
  have HFT:Hid (0+cs.length<=((digP W32 N 0).flatMap Q32).length):=by show _<=_;rw[hcl,flat32,List.length_map,digP_len];have h1:=HBA.o;have h2:=HN.o;omega
  clear hcs;go_wp2_with(go_loud(refine wpList_copy_splice (o:=⟨some 27,_,_,_,_,_⟩) rfl _ _ _ _ rfl _ Tryz.underlying61 (by kernel_rfl) _ _ _ _ _ _ rfl rfl g 0 ((digP W32 N 0).flatMap Q32) 62 HO1.o.blk.1 cs HMI.o (fun _=>⟨rfl,_,rfl,HSRC.o⟩) HFT.o HC1.o wx.heap.size wx HB1.o (by have:=HG.o;omega) ?_));intro w2 hh2 hb2
  have HO2:Hid (OwnW w2 wx.heap.size g N b):=by
   refine OwnW.of (by have:=HG.o;omega) HML.o ?_;have h:=hh2.out;rw[HCS.o,copy_words KLB.o (by have h1:=HBA.o;have h2:=HN.o;omega)]at h;exact h
  have HB2:=lh hb2;clear hh2 hb2 HSRC HC1 HCS HMI HFT HO1 HB1 hcl;have HKB:Hid (b<W32^La):=Nat.lt_of_lt_of_le KLB.o (Nat.pow_le_pow_right (by decide) HBA.o);go_wp2_with fail
  go_loopw[8,30](fun c v wi=>∃(k V q:Nat),k<=La/\v=.int .i64 k/\c=.int .u64 q/\AddS W32 a b k V q/\OwnW wi wx.heap.size g N V/\Below wx.heap.size wx wi)(fun _ v _=>La-(intOf v).toNat)
  case atStart=>exact⟨0,b,0,Nat.zero_le _,rfl,rfl,AddS.start _ _ _,HO2.o,HB2.o⟩
  rename World=>wi
  obtain⟨k,V,q,hk,rfl,rfl,hS,ho,hb⟩:=hrel;have HS:=lh hS;have HOI:=lh ho;have HBI:=lh hb;have hq:q<=1:=hS.c1;clear hS ho hb
  by_cases hkt:k<La
  ·have hki:(k:Int)<(La:Int):=by omega
   have hik:k<N:=by have:=HN.o;omega
   have hiki:(k:Int)<(N:Int):=by omega
   have y0:=KA.o.keep HBI.o k hkt;have yz:=zai y0;have v0:=HOI.o.cell hik;have vf:=HOI.o.fr k;have vz:=HOI.o.lt.1;obtain⟨T,hT⟩:=nm (q+(V/W32^k%W32+a/W32^k%W32));have HST:=lh (HS.o.step (T:=T) (by decide) hT);have hd:V/W32^k%W32<4294967296:=Nat.mod_lt _ (by decide);have he:a/W32^k%W32<4294967296:=Nat.mod_lt _ (by decide);generalize V/W32^k%W32=d at*;generalize a/W32^k%W32=e at*;have HT:Hid (IntKind.u64.wrap ((q:Int)+IntKind.u64.wrap (IntKind.u64.wrap (d:Int)+IntKind.u64.wrap (e:Int)))=(T:Int)):=add_term hd he hT (by omega)
   have HTM:Hid (T%W32<W32):=Nat.mod_lt _ (by decide)
   have e32:(T:Int)%4294967296=((T%W32:Nat):Int):=by simp[W32]
   have e33:(T:Int)/4294967296=((T/W32:Nat):Int):=by simp[W32]
   have E32:=lh e32;have E33:=lh e33;generalize T%W32=Tm at*;generalize T/W32=Td at*;clear hT hd he hq e32 e33
   go_upto_region 10 with fail
   go_quiet(fail)
   rw[HT.o];obtain⟨w3,hw3⟩:=nm (wi.drewN nq)
   have HO3:Hid (OwnW w3 wx.heap.size g N V):=by rw[hw3];exact HOI.o
   have HB3:Hid (Below wx.heap.size wx w3):=by show Below _ _ _;rw[hw3];exact HBI.o.trans (drewN_w _ _)
   rw[<-hw3];clear v0 vf vz y0 yz hw3;have v0:=HO3.o.cell hik;have vf:=HO3.o.fr k;have vz:=HO3.o.lt.1
   go_upto_region 13 with fail
   rw[E32.o,E33.o];have HO4:=lh (HO3.o.set hik HTM.o);have HB4:Hid (Below wx.heap.size wx (w3.setCell ⟨g,k,none⟩ (.int .u32 (Tm:Int)))):=HB3.o.setCell (by have:=HG.o;dsimp only;omega) _;generalize(w3.setCell ⟨g,k,none⟩ (.int .u32 (Tm:Int)))=w4 at*;clear v0 vf vz;go_wp2_with fail;go_roundw
   case rel=>exact⟨k+1,_,Td,by omega,by go_num,rfl,HST.o.1,HO4.o,HB4.o⟩
   case measure=>simp[intOf];omega
  obtain rfl:k=La:=by omega
  have hkn:¬((k:Int)<(k:Int)):=by omega
  have hik:k<N:=by have:=HN.o;omega
  have hiki:(k:Int)<(N:Int):=by omega
  have v0:=HOI.o.cell hik;have vf:=HOI.o.fr k;have vz:=HOI.o.lt.1
  have HO5:Hid (OwnW (wi.setCell ⟨g,k,none⟩ (.int .u32 (q:Int))) wx.heap.size g N S):=by
   have h:=HOI.o.set hik (d:=q) (Nat.lt_of_le_of_lt hq (by decide));rw[HS.o.close (by decide) KLA.o HKB.o,<-KS.o]at h;exact h
  have HB5:Hid (Below wx.heap.size wx (wi.setCell ⟨g,k,none⟩ (.int .u32 (q:Int)))):=HBI.o.setCell (by have:=HG.o;dsimp only;omega) _
  have eq32:(q:Int)%4294967296=(q:Int):=by omega
  have HXY:Hid (S<W32^N):=by
   show _<_
   rw[HN.o,KS.o,Nat.pow_succ];have h1:=KLA.o;have h2:=HKB.o;generalize W32^k=z at*
   show _<z*4294967296
   omega
  have hfr:=fun V(h:OwnW V wx.heap.size g N S)=>gfrom_any g N N S V (by omega) HXY.o h.wd
  have HFR:=lh hfr;unfold natG at HFR;clear hfr;have HRR:=lh (HR.o.later HB5.o);clear hq
  go_upto_region 15 with fail
  generalize(wi.setCell ⟨g,k,none⟩ (.int .u32 (q:Int)))=w4 at*;clear v0 vf vz;go_wp2_with fail;refine(HFR.o _ HO5.o).mono ?_;rintro e w5⟨rfl,hb5⟩;have hr5:=HRR.o.later hb5;have HBF:=lh (HBW.o.trans ((HB5.o.trans (hb5.mono HB5.o.size)).mono HBW.o.size));have r0:=hr5.cell 0;have rf:=hr5.fr 0;have rz:=hr5.lt;clear hb5;go_wp2_with fail;have g0:=(hr5.set 0 (.string (bytesG S))).cell 0;exact bodyPost_ret (v:=.agg #[.string (bytesG S)]) (by simp[results,Tryz.results34,go_sem,g0]) rfl ⟨rfl,HBF.o.setCell (by dsimp only;omega) _⟩
theorem ycc(s:ByteArray)(w:World):Calls Tryz.prog 52 #[.agg #[.string s],.agg #[.string s]] w fun e w'=>e=.returned (.int .i64 0)/\Below w.heap.size w w':=by
 go_enter Tryz.func52,Tryz.ntmps52;go_wp2;go_ret;exact⟨rfl,((Below.refl _ w).alloc (Nat.le_refl _) _).alloc (by simp) _⟩
theorem ycd(s t:ByteArray)(h:s.size≠t.size)(w:World):Calls Tryz.prog 52 #[.agg #[.string s],.agg #[.string t]] w fun e w'=>e=.returned (.int .i64 (if s.size<t.size then-1 else 1))/\Below w.heap.size w w':=by
 have h1:(s.toList==t.toList)=false:=by
  rw[beq_eq_false_iff_ne];intro h2;rw[ByteArray.toList_eq,ByteArray.toList_eq]at h2;have h3:=congrArg List.length h2;rw[Array.length_toList,Array.length_toList]at h3;exact h h3
 have h3:((s.size:Int)!=(t.size:Int))=true:=by rw[bne_iff_ne];omega
 clear h;go_enter Tryz.func52,Tryz.ntmps52;go_wp2
 ·go_ret;exact⟨rfl,((Below.refl _ w).alloc (Nat.le_refl _) _).alloc (by simp) _⟩
 go_ret;exact⟨rfl,((Below.refl _ w).alloc (Nat.le_refl _) _).alloc (by simp) _⟩
theorem nB_mono{x y:Nat}(h:nB x<nB y):x<y:=Nat.lt_of_not_le fun hle=>by
 have h1:=(digs_ndg (B:=256) (by decide) x).2.1;have h2:=ndg_le (B:=256) (by decide) (Nat.lt_of_le_of_lt hle h1);unfold nB at h;omega
theorem div_step(x c:Nat):x/256^c=x/256^(c+1)*256+x/256^c%256:=by
 rw[Nat.pow_succ,<-Nat.div_div_eq_div_mul,Nat.mul_comm];exact(Nat.div_add_mod _ _).symm
theorem div_lt_of{x y c:Nat}(h:x/256^(c+1)=y/256^(c+1))(hd:x/256^c%256<y/256^c%256):x<y:=Nat.lt_of_not_le fun hle=>by
 have h1:y/256^c<=x/256^c:=Nat.div_le_div_right hle;rw[div_step x c,div_step y c,h]at h1;omega
theorem cmp_loop(x y:Nat)(hn:nB x=nB y)(hne:x≠y)(hx:nB x<=1000000)(w:World):Calls Tryz.prog 52 #[natG x,natG y] w fun e w'=>e=.returned (.int .i64 (if x<y then-1 else 1))/\Below w.heap.size w w':=by
 have HSX:=lh (bytesG_size x);have HSY:=lh (bytesG_size y);have HGX:=lh (fun k(h:k<(bytesG x).size)=>bytesG_get x h);have HGY:=lh (fun k(h:k<(bytesG y).size)=>bytesG_get y h);have HXB:Hid (x<256^nB x):=(digs_ndg (B:=256) (by decide) x).2.1
 have HYB:Hid (y<256^nB x):=by show _<_;rw[hn];exact(digs_ndg (B:=256) (by decide) y).2.1
 have hbs:((bytesG x).toList==(bytesG y).toList)=false:=by
  rw[beq_eq_false_iff_ne];intro h2;rw[ByteArray.toList_eq,ByteArray.toList_eq]at h2
  have h3:(bytesG x)=(bytesG y):=by
   cases hs:bytesG x with
   |mk d=>cases ht:bytesG y with
     |mk d2=>rw[hs,ht]at h2;congr 1;exact Array.toList_inj.1 h2
  refine hne ?_
  have key:∀c,c<=nB x->x/256^(nB x-c)=y/256^(nB x-c):=by
   intro c
   induction c with
   |zero=>intro _;rw[Nat.sub_zero,Nat.div_eq_of_lt HXB.o,Nat.div_eq_of_lt HYB.o]
   |succ c ih=>
     intro hc;obtain⟨k,hk⟩:=nm (nB x-(c+1));have h4:=ih (by omega);rw[show nB x-c=k+1 by omega]at h4;have g1:=bytesG_get x (k:=k) (by rw[bytesG_size];omega);have g2:=bytesG_get y (k:=k) (by rw[bytesG_size,<-hn];omega)
     have g3:((bytesG x)[k]'(by rw[bytesG_size];omega))=((bytesG y)[k]'(by rw[bytesG_size,<-hn];omega)):=by congr 1
     rw[<-hk,div_step x k,div_step y k,h4,<-g1,<-g2,g3]
  have:=key (nB x) (Nat.le_refl _);rw[Nat.sub_self,Nat.pow_zero,Nat.div_one,Nat.div_one]at this;exact this
 have HNE:=lh hne;rw[show natG x=.agg #[.string (bytesG x)]from rfl,show natG y=.agg #[.string (bytesG y)]from rfl]
 have hst:(bytesG x).size=(bytesG y).size:=by rw[HSX.o,HSY.o,hn]
 obtain⟨w0,hw0⟩:=nm ((w.alloc (.cells #[.string (bytesG x)] 36)).alloc (.cells #[.string (bytesG y)] 36))
 have hb0:Below w.heap.size w w0:=by rw[hw0];exact(ba _ _).alloc (by simp) _
 have q0:Blk w0 w.heap.size #[.string (bytesG x)] 36:=by rw[hw0];exact(Blk.new _ _ _).alloc _
 have q1:Blk w0 (w.heap.size+1) #[.string (bytesG y)] 36:=by rw[hw0];exact Blk.new' _ (by simp) _ _
 generalize bytesG x=s at*;generalize bytesG y=t at*
 have hs6:s.size<=1000000:=by rw[HSX.o];exact hx
 have hszi:((s.size:Int)!=(t.size:Int))=false:=by rw[hst];simp
 have HST:=lh hst;have HB0:=lh hb0;have HQ0:=lh q0;have HQ1:=lh q1;have k0:=q0.cell 0;have k1:=q1.cell 0;have kz:=q0.lt;have kz1:=q1.lt;clear hb0 q0 q1 hn hne hx hst;go_enter Tryz.func52,Tryz.ntmps52;go_wp2_with fail;rw[<-hw0];clear hw0;clear hbs hszi k0 k1 kz kz1
 have hm1:(-1:Int)<1:=by decide
 go_loopw[5](fun v wr=>∃c:Nat,c<=s.size/\v=.int .i64 ((c:Int)-1)/\x/256^c=y/256^c/\Below w0.heap.size w0 wr)(fun v _=>((intOf v)+1).toNat)
 case atStart=>exact⟨s.size,Nat.le_refl _,rfl,by rw[HSX.o,Nat.div_eq_of_lt HXB.o,Nat.div_eq_of_lt HYB.o],Below.refl _ _⟩
 obtain⟨c,hc,rfl,he,hb⟩:=hrel;have HE:=lh he;have HB:=lh hb;have HQA:=lh (HQ0.o.later hb);have HQB:=lh (HQ1.o.later hb);have HBW:=bt HB0 hb;clear he hb
 cases c with
 |zero=>
   refine absurd ?_ HNE.o;have h:=HE.o;rw[Nat.pow_zero,Nat.div_one,Nat.div_one]at h;exact h
 |succ c=>
   have hcs:c<s.size:=by omega
   have hct:c<t.size:=by rw[<-HST.o];exact hcs
   have hci:(c:Int)<(s.size:Int):=by omega
   have hcj:(c:Int)<(t.size:Int):=by omega
   have hcc:((c+1:Nat):Int)-1=(c:Int):=by omega
   have g1:=HGX.o c hcs;have g2:=HGY.o c hct;have k0:=HQA.o.cell 0;have k1:=HQB.o.cell 0;have kz:=HQA.o.lt;have kz1:=HQB.o.lt
   by_cases hlt:(s[c]).toNat<(t[c]).toNat
   ·have HXY:Hid (x<y):=div_lt_of HE.o (by rw[<-g1,<-g2];exact hlt)
    have h1:decide (((s[c]).toNat:Int)<((t[c]).toNat:Int))=true:=by simpa using hlt
    have h2:decide ((s[c]).toNat<(t[c]).toNat)=true:=by simpa using hlt
    clear g1 g2 hlt
    go_upto_region 10 with fail
    go_quiet(fail)
    have HBQ:Hid (Below w0.heap.size w0 (wr.drewN nq)):=HB.o.trans (drewN_w _ _);generalize wr.drewN nq=w1 at*;have hxy:=HXY.o;go_wp2_with fail;go_ret;exact⟨rfl,HB0.o.trans (HBQ.o.mono HB0.o.size)⟩
   have h1:decide (((s[c]).toNat:Int)<((t[c]).toNat:Int))=false:=by simpa using hlt
   have h2:decide ((s[c]).toNat<(t[c]).toNat)=false:=by simpa using hlt
   by_cases hgt:(t[c]).toNat<(s[c]).toNat
   ·have HXY:Hid (y<x):=div_lt_of HE.o.symm (by rw[<-g1,<-g2];exact hgt)
    have h3:decide (((t[c]).toNat:Int)<((s[c]).toNat:Int))=true:=by simpa using hgt
    have h4:decide ((t[c]).toNat<(s[c]).toNat)=true:=by simpa using hgt
    clear g1 g2 hlt hgt
    go_upto_region 10 with fail
    go_quiet(fail)
    have HBQ:Hid (Below w0.heap.size w0 (wr.drewN nq)):=HB.o.trans (drewN_w _ _);have k2:(wr.drewN nq).cell? ⟨w.heap.size,0,none⟩=_:=k0;have k3:(wr.drewN nq).cell? ⟨w.heap.size+1,0,none⟩=_:=k1;generalize wr.drewN nq=w1 at*;clear k0 k1 h1 h2
    go_upto_region 12 with fail
    go_quiet(fail)
    have HBQ2:Hid (Below w0.heap.size w0 (w1.drewN nq)):=HBQ.o.trans (drewN_w _ _);generalize w1.drewN nq=w2 at*
    have hxy:¬x<y:=by have:=HXY.o;omega
    go_wp2_with fail;go_ret;exact⟨rfl,HB0.o.trans (HBQ2.o.mono HB0.o.size)⟩
   have HE2:Hid (x/256^c=y/256^c):=by
    show _=_
    rw[div_step x c,div_step y c,HE.o,<-g1,<-g2];omega
   have h3:decide (((t[c]).toNat:Int)<((s[c]).toNat:Int))=false:=by simpa using hgt
   have h4:decide ((t[c]).toNat<(s[c]).toNat)=false:=by simpa using hgt
   clear g1 g2 hlt hgt
   go_upto_region 10 with fail
   go_quiet(fail)
   have HBQ:Hid (Below w0.heap.size w0 (wr.drewN nq)):=HB.o.trans (drewN_w _ _);have k2:(wr.drewN nq).cell? ⟨w.heap.size,0,none⟩=_:=k0;have k3:(wr.drewN nq).cell? ⟨w.heap.size+1,0,none⟩=_:=k1;generalize wr.drewN nq=w1 at*;clear k0 k1 h1 h2
   go_upto_region 12 with fail
   go_quiet(fail)
   have HBQ2:Hid (Below w0.heap.size w0 (w1.drewN nq)):=HBQ.o.trans (drewN_w _ _);generalize w1.drewN nq=w2 at*;go_wp2_with fail;go_roundw
   case rel=>exact⟨c,by omega,by go_num,HE2.o,HBQ2.o⟩
   case measure=>simp[intOf]
theorem gcmp_any(x y:Nat)(hx:nB x<=1000000)(w:World):Calls Tryz.prog 52 #[natG x,natG y] w fun e w'=>e=.returned (.int .i64 (if x=y then 0 else if x<y then-1 else 1))/\Below w.heap.size w w':=by
 by_cases he:x=y
 ·subst he;rw[if_pos rfl];exact ycc _ w
 rw[if_neg he]
 by_cases hn:nB x=nB y
 ·exact cmp_loop x y hn he hx w
 have h:=ycd (bytesG x) (bytesG y) (by rw[bytesG_size,bytesG_size];exact hn) w;rw[bytesG_size,bytesG_size]at h
 have hiff:(nB x<nB y)↔x<y:=⟨nB_mono,fun hlt=>by
  refine Nat.lt_of_le_of_ne (Nat.le_of_not_lt fun h2=>?_) hn;have:=nB_mono h2
  omega⟩
 simp only[hiff]at h;exact h
end Go.Proofs.YtnlaakmglhjjmaaGreatDoor
