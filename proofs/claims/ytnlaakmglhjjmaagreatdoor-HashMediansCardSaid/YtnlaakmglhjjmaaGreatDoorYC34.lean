/- Parts of the proofs of laws. Texts: NatE, NatG, NatI, He, Oc, Hf. -/
import Derived.Test.YtnlaakmglhjjmaaGreatDoorYC33
set_option maxHeartbeats 8000000
set_option maxRecDepth 100000
set_option linter.all false
namespace Go.Proofs.YtnlaakmglhjjmaaGreatDoor
open Go.RowKit Cen
structure SubS(B x y i V c:Nat):Prop where
 eq:V%B^i+y%B^i=x%B^i+c*B^i
 hi:V/B^i=x/B^i
 c1:c<=1
theorem SubS.start(B x y:Nat):SubS B x y 0 x 0:=⟨by simp[Nat.mod_one],rfl,by omega⟩
theorem SubS.step{B x y i V c T c2:Nat}(hB:2<=B)(h:SubS B x y i V c)(hT:T<B)(hc2:c2<=1)(he:T+c+y/B^i%B=V/B^i%B+c2*B):SubS B x y (i+1) (setD B V i T) c2:=by
 refine⟨?_,?_,hc2⟩
 ·rw[setD_mod (by omega) hT,mod_pow_succ' B x i,mod_pow_succ' B y i,<-h.hi];have e1:=h.eq
  have e2:c2*B^(i+1)=c2*B*B^i:=by rw[Nat.pow_succ,Nat.mul_comm (B^i) B,<-Nat.mul_assoc]
  have e3:T*B^i+c*B^i+y/B^i%B*B^i=V/B^i%B*B^i+c2*B*B^i:=by rw[<-Nat.add_mul,<-Nat.add_mul,<-Nat.add_mul,he]
  rw[e2];generalize c2*B*B^i=a1 at*;generalize T*B^i=a2 at*;generalize c*B^i=a4 at*;generalize V/B^i%B*B^i=a5 at*;generalize y/B^i%B*B^i=a6 at*;omega
 rw[setD_high (by omega) hT (Nat.lt_succ_self i),Nat.pow_succ,<-Nat.div_div_eq_div_mul,<-Nat.div_div_eq_div_mul,h.hi]
theorem SubS.close{B x y i V c:Nat}(hB:2<=B)(h:SubS B x y i V c)(hx:x<B^i)(hyx:y<=x):V=x-y:=by
 have e0:V/B^i=0:=by rw[h.hi,Nat.div_eq_of_lt hx]
 have e2:=h.eq;rw[Nat.mod_eq_of_lt hx,Nat.mod_eq_of_lt (Nat.lt_of_le_of_lt hyx hx)]at e2
 have e3:V%B^i=V:=by
  have:=Nat.div_add_mod V (B^i);rw[e0,Nat.mul_zero,Nat.zero_add]at this;exact this
 have e4:V<B^i:=by rw[<-e3];exact Nat.mod_lt _ (Nat.pow_pos (by omega))
 rw[e3]at e2;have hc:=h.c1
 rcases Nat.eq_zero_or_pos c with rfl|hc0
 ·omega
 obtain rfl:c=1:=by omega
 omega
theorem sub_term{q d e:Nat}(hq:q<=1)(hd:d<4294967296)(he:e<4294967296):∃PT T c:Nat,IntKind.u64.wrap (IntKind.u64.wrap (IntKind.u64.wrap (d:Int)-(q:Int))-IntKind.u64.wrap (e:Int))=(PT:Int)/\(PT:Int)%4294967296=(T:Int)/\(PT:Int)/9223372036854775808=(c:Int)/\T<W32/\c<=1/\T+q+e=d+c*W32:=by
 have hw:IntKind.u64.wrap (IntKind.u64.wrap (IntKind.u64.wrap (d:Int)-(q:Int))-IntKind.u64.wrap (e:Int))=((d:Int)-q-e)%18446744073709551616:=by
  simp[IntKind.wrap,IntKind.bits,IntKind.signed]
 rw[hw]
 by_cases h:q+e<=d
 ·exact⟨d-q-e,d-q-e,0,by omega,by omega,by omega,by unfold W32;omega,by omega,by omega⟩
 exact⟨d+18446744073709551616-q-e,d+4294967296-q-e,1,by omega,by omega,by omega,by unfold W32;omega,by omega,by unfold W32;omega⟩
theorem sub_term0{q d:Nat}(hq:q<=1)(hd:d<4294967296):∃PT T c:Nat,IntKind.u64.wrap (IntKind.u64.wrap (d:Int)-(q:Int))=(PT:Int)/\(PT:Int)%4294967296=(T:Int)/\(PT:Int)/9223372036854775808=(c:Int)/\T<W32/\c<=1/\T+q+0=d+c*W32:=by
 have hw:IntKind.u64.wrap (IntKind.u64.wrap (d:Int)-(q:Int))=((d:Int)-q)%18446744073709551616:=by
  simp[IntKind.wrap,IntKind.bits,IntKind.signed]
 rw[hw]
 by_cases h:q<=d
 ·exact⟨d-q,d-q,0,by omega,by omega,by omega,by unfold W32;omega,by omega,by omega⟩
 exact⟨d+18446744073709551616-q,d+4294967296-q,1,by omega,by omega,by omega,by unfold W32;omega,by omega,by unfold W32;omega⟩
theorem Wd.other{w:World}{g L x:Nat}(h:Wd w g L x)(p:Addr)(v:Value)(hp:p.block≠g):Wd (w.setCell p v) g L x:=fun k hk=>by
 rw[World.cell?_setCell_far w p _ v hp];exact h k hk
theorem gsub_any(x y:Nat)(hx:nB x<=1000000)(hy:nB y<=1000000)(hyx:y<=x)(w:World):Calls Tryz.prog 35 #[natG x,natG y] w fun e w'=>e=.returned (.tuple #[natG (x-y),.bool true])/\Below w.heap.size w w':=by
 obtain⟨S,hS⟩:=nm (x-y);rw[<-hS];have HS:=lh hS;clear hS
 have hwx:=fun V=>gwords_any x hx V
 have hwy:=fun V=>gwords_any y hy V
 have hcm:∀W,Calls Tryz.prog 52 #[natG x,natG y] W fun e w'=>(∃z:Int,e=.returned (.int .i64 z)/\0<=z)/\Below W.heap.size W w':=fun W=>
  (gcmp_any x y hx W).mono fun e w' h=>⟨⟨_,h.1,by split<;>(try split)<;>omega⟩,h.2⟩
 have hlx:=nW_lt x;have hly:=nW_lt y;have hLx:=nW_le hx;have hLy:=nW_le hy;unfold natG WPost at hwx hwy;unfold natG at hcm;rw[show natG x=.agg #[.string (bytesG x)]from rfl,show natG y=.agg #[.string (bytesG y)]from rfl];generalize bytesG x=s at*;generalize bytesG y=t at*;generalize nW x=Lx at*;generalize nW y=Ly at*;have HWX:=lh hwx;have HWY:=lh hwy;have HLX:=lh hlx;have HLY:=lh hly;have HCM:=lh hcm;have HYX:=lh hyx;clear hwx hwy hx hy hlx hly hcm hyx;go_enter Tryz.func35,Tryz.ntmps35;go_wp2_with fail;obtain⟨W,hW⟩:=nm ((((w.alloc (.cells #[.string s] 36)).alloc (.cells #[.string t] 36)).alloc (.cells #[.string ⟨#[]⟩] 36)))
 have k0:Blk W w.heap.size #[.string s] 36:=by rw[hW];exact(((Blk.new w #[.string s] 36).alloc _).alloc _)
 have k1:Blk W (w.heap.size+1) #[.string t] 36:=by rw[hW];exact((Blk.new' (w.alloc (.cells #[.string s] 36)) (b:=w.heap.size+1) (by simp) #[.string t] 36).alloc _)
 have k2:Blk W (w.heap.size+1+1) #[.string ⟨#[]⟩] 36:=by rw[hW];exact Blk.new' ((w.alloc (.cells #[.string s] 36)).alloc (.cells #[.string t] 36)) (b:=w.heap.size+1+1) (by simp) #[.string ⟨#[]⟩] 36
 have hb:Below w.heap.size w W:=by rw[hW];exact(((Below.refl _ w).alloc (Nat.le_refl _) _).alloc (by simp) _).alloc (by simp;omega) _
 rw[<-hW];clear hW;refine(HCM.o _).mono ?_;rintro e W1⟨⟨z,rfl,hz⟩,hb1⟩
 have hz':¬z<0:=by omega
 have k0:=k0.later hb1;have k1:=k1.later hb1;have k2:=k2.later hb1;have HB:=lh (hb.trans (hb1.mono hb.size));have HK2:=lh k2;have c0:W1.cell? ⟨w.heap.size,0,none⟩=some (.string s):=k0.cell 0;have c1:W1.cell? ⟨w.heap.size+1,0,none⟩=some (.string t):=k1.cell 0;have z0:=k0.lt;have z1:=k1.lt;clear k0 k1 k2 hb hb1 hz HCM
 go_upto_region 3 with fail
 go_cut[6,7](fun sx sy wx=>WXY W1 Lx Ly x y sx sy wx)
 case first=>
  go_region_with (go_at_call 43
                  first
                   | (with_reducible refine Calls.mono (HWX.o W1.drew) ?_
                      rintro e v5⟨gx,rfl,hk5,hb5⟩;have hv5:Below W1.heap.size W1 v5:=(Below.refl W1.heap.size W1).drew.trans (hb5.mono (Nat.le_refl _));have d0:=zab hv5 c0
                      have d1:=zab hv5 c1)
                   | (with_reducible refine Calls.mono (HWY.o _) ?_
                      rintro e v6⟨gy,rfl,hk6,hb6⟩))
  all_goals(go_wp2_with fail;go_meet;exact⟨gx,gy,rfl,rfl,hk5.later hb6,OwnL.lower hk6 hv5.size,by have:=hk5.lt.1;have:=hk6.lt.2;omega,hv5.trans (hb6.mono hv5.size)⟩)
 obtain⟨gx,gy,rfl,rfl,hX,hY,hne,hbw⟩:=hcut
 rename World=>wx
 have HX:=lh hX;have HY:=lh hY.wd;have HYZ:=lh hY.lt.1;have HR:=HK2;have HBW:=HB;have HBW2:=lh hbw;have HNE:Hid (gx≠gy):=hne;have HLO:Hid (W1.heap.size<=gx):=hX.lt.2;clear hX hY hne hbw c0 c1 z0 z1 HWX HWY HK2 HB;go_wp2_with fail
 go_loopw[8,22](fun c v wi=>∃(k V q:Nat),k<=Lx/\v=.int .i64 k/\c=.int .u64 q/\SubS W32 x y k V q/\OwnW wi W1.heap.size gx Lx V/\Wd wi gy Ly y/\Below W1.heap.size W1 wi)(fun _ v _=>Lx-(intOf v).toNat)
 case atStart=>exact⟨0,x,0,Nat.zero_le _,rfl,rfl,SubS.start _ _ _,HX.o,HY.o,HBW2.o⟩
 rename World=>wi
 obtain⟨k,V,q,hk,rfl,rfl,hS,ho,hyw,hb⟩:=hrel;have HSS:=lh hS;have HOI:=lh ho;have HYI:=lh hyw;have HBI:=lh hb;have hq:q<=1:=hS.c1;clear hS ho hb hyw
 by_cases hkt:k<Lx
 ·have hki:(k:Int)<(Lx:Int):=by omega
  have v0:=HOI.o.cell hkt;have vf:=HOI.o.fr k;have vz:=HOI.o.lt.1;have HST:=lh (fun(T c2:Nat)(h1:T<W32)(h2:c2<=1)h3=>HSS.o.step (T:=T) (c2:=c2) (by decide) h1 h2 h3);have hd:V/W32^k%W32<4294967296:=Nat.mod_lt _ (by decide)
  by_cases hky:k<Ly
  ·have hkyi:(k:Int)<(Ly:Int):=by omega
   have y0:=HYI.o k hky;have yz:=zai y0;have he:y/W32^k%W32<4294967296:=Nat.mod_lt _ (by decide);generalize V/W32^k%W32=d at*;generalize y/W32^k%W32=e at*;obtain⟨PT,T,c2,h1,h2,h3,h4,h5,h6⟩:=sub_term hq hd he;have H1:=lh h1;have H2:=lh h2;have H3:=lh h3;have HST2:=lh (HST.o T c2 h4 h5 h6);have HTM:=lh h4;clear h1 h2 h3 h4 h5 h6 hd he hq HST
   go_upto_region 11 with fail
   rw[H1.o];clear y0 yz
   go_upto_region 13 with fail
   rw[H2.o,H3.o];have HO4:=lh (HOI.o.set hkt HTM.o);have HY4:Hid (Wd (wi.setCell ⟨gx,k,none⟩ (.int .u32 (T:Int))) gy Ly y):=HYI.o.other _ _ HNE.o;have HB4:Hid (Below W1.heap.size W1 (wi.setCell ⟨gx,k,none⟩ (.int .u32 (T:Int)))):=HBI.o.setCell HLO.o _;generalize(wi.setCell ⟨gx,k,none⟩ (.int .u32 (T:Int)))=w4 at*;clear v0 vf vz;go_wp2_with fail;go_roundw
   case rel=>exact⟨k+1,_,c2,by omega,by go_num,rfl,HST2.o,HO4.o,HY4.o,HB4.o⟩
   case measure=>simp[intOf];omega
  have hkyi:¬(k:Int)<(Ly:Int):=by omega
  have hy0:y/W32^k%W32=0:=by
   rw[Nat.div_eq_of_lt (Nat.lt_of_lt_of_le HLY.o (Nat.pow_le_pow_right (by decide) (by omega))),Nat.zero_mod]
  rw[hy0]at HST;generalize V/W32^k%W32=d at*;obtain⟨PT,T,c2,h1,h2,h3,h4,h5,h6⟩:=sub_term0 hq hd;have H1:=lh h1;have H2:=lh h2;have H3:=lh h3;have HST2:=lh (HST.o T c2 h4 h5 h6);have HTM:=lh h4;clear h1 h2 h3 h4 h5 h6 hd hq HST hy0
  go_upto_region 11 with fail
  rw[H1.o]
  go_upto_region 13 with fail
  rw[H2.o,H3.o];have HO4:=lh (HOI.o.set hkt HTM.o);have HY4:Hid (Wd (wi.setCell ⟨gx,k,none⟩ (.int .u32 (T:Int))) gy Ly y):=HYI.o.other _ _ HNE.o;have HB4:Hid (Below W1.heap.size W1 (wi.setCell ⟨gx,k,none⟩ (.int .u32 (T:Int)))):=HBI.o.setCell HLO.o _;generalize(wi.setCell ⟨gx,k,none⟩ (.int .u32 (T:Int)))=w4 at*;clear v0 vf vz;go_wp2_with fail;go_roundw
  case rel=>exact⟨k+1,_,c2,by omega,by go_num,rfl,HST2.o,HO4.o,HY4.o,HB4.o⟩
  case measure=>simp[intOf];omega
 obtain rfl:k=Lx:=by omega
 have hkn:¬((k:Int)<(k:Int)):=by omega
 have hV:V=S:=by rw[HSS.o.close (by decide) HLX.o HYX.o,HS.o]
 have HXY:Hid (S<W32^k):=by show _<_;rw[HS.o];exact Nat.lt_of_le_of_lt (Nat.sub_le _ _) HLX.o
 rw[hV]at HOI;have hfr:=gfrom_any gx k k S wi (by omega) HXY.o HOI.o.wd;have HFR:=lh hfr;unfold natG at HFR;clear hfr hq hV;have HRR:=lh (HR.o.later HBI.o);go_wp2_with fail;refine HFR.o.mono ?_;rintro e w5⟨rfl,hb5⟩;have hr5:=HRR.o.later hb5;have HBF:=lh (HBW.o.trans ((HBI.o.trans (hb5.mono HBI.o.size)).mono HBW.o.size));have r0:=hr5.cell 0;have rf:=hr5.fr 0;have rz:=hr5.lt;clear hb5;go_wp2_with fail;have g0:=(hr5.set 0 (.string (bytesG S))).cell 0;exact bodyPost_ret (v:=.tuple #[.agg #[.string (bytesG S)],.bool true]) (by simp[results,Tryz.results35,go_sem,g0]) rfl ⟨rfl,HBF.o.setCell (by dsimp only;omega) _⟩
theorem nW_one{y:Nat}(hy:1<=y)(hy2:y<W32):nW y=1:=by
 have h1:nB y<=4:=ndg_le (B:=256) (by decide) (show y<256^4 from hy2)
 have h2:0<nB y:=Nat.pos_of_ne_zero fun h0=>by
  have h:=(digs_ndg (B:=256) (by decide) y).2.1;rw[show ndg 256 y=nB y from rfl,h0,Nat.pow_zero]at h;omega
 unfold nW;omega
theorem gdiv_any(x y:Nat)(hx:nB x<=1000000)(hy:1<=y)(hy2:y<W32)(w:World):Calls Tryz.prog 36 #[natG x,natG y] w fun e w'=>e=.returned (.tuple #[natG (x/y),natG (x%y),.bool true])/\Below w.heap.size w w':=by
 have hny:=nW_one hy hy2
 have hwx:=fun V=>gwords_any x hx V
 have hwy:=fun V=>gwords_any y (by have h:=hny;unfold nW at h;omega) V
 have hlx:=nW_lt x;have hLx:=nW_le hx
 have hcm:∀W,Calls Tryz.prog 52 #[natG x,natG y] W fun e w'=>e=.returned (.int .i64 (if x=y then 0 else if x<y then-1 else 1))/\Below W.heap.size W w':=fun W=>gcmp_any x y hx W
 have hof:∀W,Calls Tryz.prog 11 #[.int .u64 ((x%y:Nat):Int)] W fun e w'=>e=.returned (natG (x%y))/\Below W.heap.size W w':=fun W=>gof_any (x%y) (by have:=Nat.mod_lt x (show y>0 by omega);unfold W32 at hy2;omega) W
 have HLX:=lh hlx;have HY:=lh hy;have HY2:=lh hy2
 have HNX:Hid (bytesG 0=⟨#[]⟩):=by show _=_;decide+kernel
 have HLT:Hid (x<y->x/y=0/\x%y=x):=fun h=>⟨Nat.div_eq_of_lt h,Nat.mod_eq_of_lt h⟩
 unfold natG WPost at hwx hwy;rw[hny]at hwy;clear hx hy hy2 hny hlx;unfold natG at hcm hof⊢;generalize hs:bytesG x=s at*;generalize bytesG y=t at*;generalize nW x=Lx at*;have HS:=lh hs;have HWX:=lh hwx;have HWY:=lh hwy;have HCM:=lh hcm;have HOF:=lh hof;clear hwx hwy hcm hof hs;go_enter Tryz.func36,Tryz.ntmps36;go_wp2_with fail;obtain⟨W,hW⟩:=nm (((((w.alloc (.cells #[.string s] 36)).alloc (.cells #[.string t] 36)).alloc (.cells #[.string ⟨#[]⟩] 36)).alloc (.cells #[.string ⟨#[]⟩] 36)))
 have k0:Blk W w.heap.size #[.string s] 36:=by rw[hW];exact((((Blk.new w #[.string s] 36).alloc _).alloc _).alloc _)
 have k1:Blk W (w.heap.size+1) #[.string t] 36:=by rw[hW];exact(((Blk.new' (w.alloc (.cells #[.string s] 36)) (b:=w.heap.size+1) (by simp) #[.string t] 36).alloc _).alloc _)
 have k2:Blk W (w.heap.size+1+1) #[.string ⟨#[]⟩] 36:=by rw[hW];exact(Blk.new' ((w.alloc (.cells #[.string s] 36)).alloc (.cells #[.string t] 36)) (b:=w.heap.size+1+1) (by simp) #[.string ⟨#[]⟩] 36).alloc _
 have k3:Blk W (w.heap.size+1+1+1) #[.string ⟨#[]⟩] 36:=by rw[hW];exact Blk.new' (((w.alloc (.cells #[.string s] 36)).alloc (.cells #[.string t] 36)).alloc (.cells #[.string ⟨#[]⟩] 36)) (b:=w.heap.size+1+1+1) (by simp) #[.string ⟨#[]⟩] 36
 have hb:Below w.heap.size w W:=by rw[hW];exact((((Below.refl _ w).alloc (Nat.le_refl _) _).alloc (by simp) _).alloc (by simp;omega) _).alloc (by simp;omega) _
 rw[<-hW];clear hW;have HB:=lh hb;have HK0:=lh k0;have HK1:=lh k1;have HK2:=lh k2;have HK3:=lh k3;have c0:W.cell? ⟨w.heap.size,0,none⟩=some (.string s):=k0.cell 0;have c1:W.cell? ⟨w.heap.size+1,0,none⟩=some (.string t):=k1.cell 0;have z0:=k0.lt;have z1:=k1.lt;clear k0 k1 k2 k3 hb
 go_upto_region 1 with fail
 go_cut[7,8](fun sx sy wx=>WXY W Lx 1 x y sx sy wx)
 case first=>
  go_region_with (go_at_call 43
                  first
                   | (with_reducible refine Calls.mono (HWX.o W.drew) ?_
                      rintro e v5⟨gx,rfl,hk5,hb5⟩;have hv5:Below W.heap.size W v5:=(Below.refl W.heap.size W).drew.trans (hb5.mono (Nat.le_refl _));have d0:=zab hv5 c0
                      have d1:=zab hv5 c1)
                   | (with_reducible refine Calls.mono (HWY.o _) ?_
                      rintro e v6⟨gy,rfl,hk6,hb6⟩))
  all_goals(go_wp2_with fail;go_meet;exact⟨gx,gy,rfl,rfl,hk5.later hb6,OwnL.lower hk6 hv5.size,by have:=hk5.lt.1;have:=hk6.lt.2;omega,hv5.trans (hb6.mono hv5.size)⟩)
 obtain⟨bx,bz,rfl,rfl,hX,hZ,hxz,hbw⟩:=hcut
 rename World=>wc
 have HLO:Hid (w.heap.size<=bx):=Nat.le_trans HB.o.size hX.lt.2
 have HNE2:Hid (bx≠w.heap.size+1+1):=by have:=HK2.o.lt;have:=hX.lt.2;show bx≠_;omega
 have HNE3:Hid (bx≠w.heap.size+1+1+1):=by have:=HK3.o.lt;have:=hX.lt.2;show bx≠_;omega
 have k0:=HK0.o.later hbw;have k1:=HK1.o.later hbw;have k2:=HK2.o.later hbw;have k3:=HK3.o.later hbw;have HBW:=bt HB hbw;have c0:wc.cell? ⟨w.heap.size,0,none⟩=some (.string s):=k0.cell 0;have c1:wc.cell? ⟨w.heap.size+1,0,none⟩=some (.string t):=k1.cell 0;have z0:=k0.lt;have z1:=k1.lt;have HZX:=lh hX;have HZZ:=lh hZ;have K0:=lh k0;have K2:=lh k2;have K3:=lh k3;clear hbw hxz hX hZ k0 k1 k2 k3 HWX HWY HK0 HK1 HK2 HK3 HB;go_wp2_with fail;refine(HCM.o _).mono ?_;rintro e w1⟨rfl,hb1⟩;have q0:=K0.o.later hb1;have q2:=K2.o.later hb1;have q3:=K3.o.later hb1
 have qx:=HZX.o.later hb1;have qz:=HZZ.o.later hb1;have HB1:=bt HBW hb1;clear hb1 c0 c1 z0 z1 HCM
 by_cases hlt:x<y
 ·rw[if_neg (by omega),if_pos hlt];have c0:w1.cell? ⟨w.heap.size,0,none⟩=some (.string s):=q0.cell 0;have z0:=q0.lt;have r2:=q2.cell 0;have f2:=q2.fr 0;have z2:=q2.lt;have r3:=q3.cell 0;have f3:=q3.fr 0;have z3:=q3.lt;have HQ2:=lh q2;have HQ3:=lh q3;have HL:=lh (HLT.o hlt);clear hlt q0 q2 q3 qx qz;go_wp2_with fail;go_region;obtain⟨V,hV⟩:=nm (((w1.setCell ⟨w.heap.size+1+1,0,none⟩ (.string ⟨#[]⟩)).setCell ⟨w.heap.size+1+1+1,0,none⟩ (.string s)).drew)
  have hbd:∀{a b:World},Below a.heap.size a a.drew:=fun{a b}=>(Below.refl _ _).drew
  have V2:Blk V (w.heap.size+1+1) #[.string ⟨#[]⟩] 36:=by rw[hV];exact((HQ2.o.set 0 _).other _ _ (by simp)).later (Below.refl _ _).drew
  have V3:Blk V (w.heap.size+1+1+1) #[.string s] 36:=by rw[hV];exact((HQ3.o.other _ _ (by simp)).set 0 _).later (Below.refl _ _).drew
  have HV:Hid (Below w.heap.size w V):=by show Below _ _ _;rw[hV];exact((HB1.o.setCell (by show w.heap.size<=w.heap.size+1+1;omega) _).setCell (by show w.heap.size<=w.heap.size+1+1+1;omega) _).drew
  rw[<-hV];have e2:=V2.cell 0;have e3:=V3.cell 0;clear hV hbd V2 V3;go_wp2;exact bodyPost_ret (v:=.tuple #[.agg #[.string ⟨#[]⟩],.agg #[.string s],.bool true]) (by simp[results,Tryz.results36,go_sem,e2,e3]) rfl ⟨by rw[HL.o.1,HL.o.2,HS.o,HNX.o],HV.o⟩
 have hcm:∀z:Int,z=(if x=y then 0 else if x<y then-1 else 1)->0<=z:=fun z hz=>by rw[hz];split<;>(try split)<;>omega
 have hcm:=hcm _ rfl;generalize(if x=y then(0:Int)else if x<y then-1 else 1)=z at*
 have hz':¬z<0:=by omega
 have HQX:=lh qx;have HQ2:=lh q2;have HQ3:=lh q3;have cz:=qz.cell (k:=0) (by omega);rw[Nat.pow_zero,Nat.div_one,Nat.mod_eq_of_lt HY2.o]at cz;have zz:=qz.lt.1;clear hcm hlt qx q0 q2 q3 qz;go_wp2_with fail;refine(gshrink_any bx Lx Lx y x W.heap.size w1 (by omega) HLX.o HY.o HY2.o HQX.o.c).mono ?_;rintro e w2⟨rfl,kb,hw2⟩;have k2:Blk w2 (w.heap.size+1+1) #[.string ⟨#[]⟩] 36:=HQ2.o.kept hw2 (fun h=>HNE2.o h.symm);have k3:Blk w2 (w.heap.size+1+1+1) #[.string ⟨#[]⟩] 36:=HQ3.o.kept hw2 (fun h=>HNE3.o h.symm);have HB2:Hid (Below w.heap.size w w2):=HB1.o.trans (hw2.toBelow HB1.o.size (fun k hk h=>by have:=HLO.o;subst h;omega))
 have hyy:x%y<y:=Nat.mod_lt _ HY.o;have hy4:y<4294967296:=HY2.o
 have hmo:((x%y:Nat):Int)%4294967296=((x%y:Nat):Int):=by omega
 have hmo1:0<=((x%y:Nat):Int):=by omega
 have hmo2:((x%y:Nat):Int)<4294967296:=by omega
 have HFR:Hid (∀W,Below w2.heap.size w2 W->Calls Tryz.prog 23 #[.slice (some ⟨bx,0,none⟩) Lx Lx] W fun e w'=>e=.returned (.agg #[.string (bytesG (x/y))])/\Below W.heap.size W w'):=fun W hW=>gfrom_any bx Lx Lx (x/y) W (by omega) (Nat.lt_of_le_of_lt (Nat.div_le_self x y) HLX.o) (kb.wd.keep hW)
 clear hyy hy4;generalize((x%y:Nat):Int)=rm at*;have HK2:=lh k2;have HK3:=lh k3;clear hw2 kb k2 k3 cz zz;go_wp2_with fail;refine(HFR.o _ (Below.refl _ _)).mono ?_;rintro e w3⟨rfl,hb3⟩;have HK2':=lh (HK2.o.later hb3);have HK3':=lh (HK3.o.later hb3);have HB3:=bt HB2 hb3;clear hb3;go_wp2_with fail;refine(HOF.o _).mono ?_;rintro e w4⟨rfl,hb4⟩;have k2:=HK2'.out.later hb4;have k3:=HK3'.out.later hb4;have HB4:=bt HB3 hb4;have r2:=k2.cell 0;have f2:=k2.fr 0;have z2:=k2.lt;have r3:=k3.cell 0;have f3:=k3.fr 0;have z3:=k3.lt;generalize hd1:bytesG (x/y)=d1 at*
 generalize hd2:bytesG (x%y)=d2 at*;have HD1:=lh hd1;have HD2:=lh hd2;clear hd1 hd2;obtain⟨V,hV⟩:=nm (((w4.setCell ⟨w.heap.size+1+1,0,none⟩ (.string d1)).setCell ⟨w.heap.size+1+1+1,0,none⟩ (.string d2)))
 have V2:Blk V (w.heap.size+1+1) #[.string d1] 36:=by rw[hV];exact(k2.set 0 _).other _ _ (by simp)
 have V3:Blk V (w.heap.size+1+1+1) #[.string d2] 36:=by rw[hV];exact(k3.other _ _ (by simp)).set 0 _
 have HV:Hid (Below w.heap.size w V):=by show Below _ _ _;rw[hV];exact(HB4.o.setCell (by show w.heap.size<=w.heap.size+1+1;omega) _).setCell (by show w.heap.size<=w.heap.size+1+1+1;omega) _
 have HVV:=lh hV;have e2:=V2.cell 0;have e3:=V3.cell 0;clear hb4 k2 k3 V2 V3 hV;go_wp2;rw[<-HVV.o];exact bodyPost_ret (v:=.tuple #[.agg #[.string d1],.agg #[.string d2],.bool true]) (by simp[results,Tryz.results36,go_sem,e2,e3]) rfl ⟨by rw[HD1.o,HD2.o],HV.o⟩
def natB(x:Nat):ByteArray:=if x=0 then⟨#[]⟩else bytesG x
def natv(x:Nat):Value:=.agg #[.string (natB x)]
theorem natB_eq(x:Nat):natB x=bytesG x:=by
 unfold natB
 split
 ·rename_i h;subst h;decide+kernel
 rfl
theorem natv_eq(x:Nat):natv x=natG x:=by unfold natv natG;rw[natB_eq]
theorem nB_small{x:Nat}(hx:x<65536):nB x<=1000000:=Nat.le_trans (ndg_le (n:=2) (by decide) (by omega)) (by decide)
theorem nB_mid{x:Nat}(hx:x<=16777216):nB x<=1000000:=Nat.le_trans (ndg_le (n:=4) (by decide) (by omega)) (by decide)
theorem zvn(x:Nat)(hx:x<65536)(w:World):Calls Tryz.prog 11 #[.int .u64 (x:Int)] w fun e w'=>e=.returned (natv x)/\Below w.heap.size w w':=by
 rw[natv_eq];exact gof_any x (by omega) w
theorem zif(k:Nat)(hk:k<=8)(w:World):Calls Tryz.prog 10 #[.int .i64 (k:Int)] w fun e w'=>e=.returned (natv (2^k))/\Below w.heap.size w w':=by
 rw[natv_eq];exact gpow2_any k (by omega) w
theorem powW_any(k:Nat)(hk:k<=4096)(w:World):Calls Tryz.prog 10 #[.int .i64 (k:Int)] w fun e w'=>e=.returned (natv (2^k))/\Below w.heap.size w w':=by
 rw[natv_eq];exact gpow2_any k hk w
theorem mulW_any(x y:Nat)(hx:x<=16777216)(hy:y<=16777216)(w:World):Calls Tryz.prog 47 #[natv x,natv y] w fun e w'=>e=.returned (natv (x*y))/\Below w.heap.size w w':=by
 rw[natv_eq,natv_eq,natv_eq];exact gmul_any x y (nB_mid hx) (nB_mid hy) w
theorem zt6(x y:Nat)(hx:x<=16777216)(w:World):Calls Tryz.prog 52 #[natv x,natv y] w fun e w'=>e=.returned (.int .i64 (if x=y then 0 else if x<y then-1 else 1))/\Below w.heap.size w w':=by
 rw[natv_eq,natv_eq];exact gcmp_any x y (nB_mid hx) w
theorem ze6(x y:Nat)(hx:x<65536)(hy:y<65536)(_hxy:x+y<65536)(w:World):Calls Tryz.prog 34 #[natv x,natv y] w fun e w'=>e=.returned (natv (x+y))/\Below w.heap.size w w':=by
 rw[natv_eq,natv_eq,natv_eq];exact gadd_any x y (nB_small hx) (nB_small hy) w
theorem zjm(x y:Nat)(hx:x<65536)(hy:y<65536)(_hxy:x*y<65536)(w:World):Calls Tryz.prog 47 #[natv x,natv y] w fun e w'=>e=.returned (natv (x*y))/\Below w.heap.size w w':=by
 rw[natv_eq,natv_eq,natv_eq];exact gmul_any x y (nB_small hx) (nB_small hy) w
theorem zyq(x y:Nat)(hx:x<65536)(hyx:y<=x)(w:World):Calls Tryz.prog 35 #[natv x,natv y] w fun e w'=>e=.returned (.tuple #[natv (x-y),.bool true])/\Below w.heap.size w w':=by
 rw[natv_eq,natv_eq,natv_eq];exact gsub_any x y (nB_small hx) (nB_small (by omega)) hyx w
theorem zxa(x y:Nat)(hx:x<65536)(hy:1<=y)(hy2:y<=256)(w:World):Calls Tryz.prog 36 #[natv x,natv y] w fun e w'=>e=.returned (.tuple #[natv (x/y),natv (x%y),.bool true])/\Below w.heap.size w w':=by
 rw[natv_eq,natv_eq,natv_eq,natv_eq];exact gdiv_any x y (nB_small hx) hy (by unfold W32;omega) w
def ctv(c:Ct):Value:=.agg #[.string (natB c.e),.string (natB c.o)]
def ctc(c:Ct):List Value:=[.string (natB c.e),.string (natB c.o)]
theorem zaw(c:Ct):(ctc c).length=2:=rfl
theorem zcr{a b c d x:Nat}(h1:a<=c)(h2:b<=d)(h:c*d<x):a*b<x:=Nat.lt_of_le_of_lt (Nat.mul_le_mul h1 h2) h
theorem zi6(a b:Ct)(w:World)(ha:a.s<65536)(hb:b.s<65536)(hab:a.s*b.s<65536):
 Calls Tryz.prog 75 #[ctv a,ctv b] w fun e w'=>e=.returned (ctv (zj9 a b))/\Below w.heap.size w w':=by
 have hS:=yae a b;unfold Ct.s at hS ha hb hab;have HM1:=lh (fun V=>zjm a.e b.e (by omega) (by omega) (zcr (by omega) (by omega) hab) V);have HM2:=lh (fun V=>zjm a.o b.o (by omega) (by omega) (zcr (by omega) (by omega) hab) V);have HM3:=lh (fun V=>zjm a.e b.o (by omega) (by omega) (zcr (by omega) (by omega) hab) V);have HM4:=lh (fun V=>zjm a.o b.e (by omega) (by omega) (zcr (by omega) (by omega) hab) V);have HA1:=lh (fun V=>ze6 (a.e*b.e) (a.o*b.o) (zcr (by omega) (by omega) hab) (zcr (by omega) (by omega) hab) (by simp only[zj9]at hS;omega) V);have HA2:=lh (fun V=>ze6 (a.e*b.o) (a.o*b.e) (zcr (by omega) (by omega) hab) (zcr (by omega) (by omega) hab) (by simp only[zj9]at hS;omega) V)
 have HR:Hid (ctv (zj9 a b)=.agg #[.string (natB (a.e*b.e+a.o*b.o)),.string (natB (a.e*b.o+a.o*b.e))]):=rfl;clear hS ha hb hab;unfold ctv natv at*;generalize natB (a.e*b.e+a.o*b.o)=t1 at*;generalize natB (a.e*b.o+a.o*b.e)=t2 at*;generalize natB (a.e*b.e)=s1 at*;generalize natB (a.o*b.o)=s2 at*;generalize natB (a.e*b.o)=s3 at*;generalize natB (a.o*b.e)=s4 at*;generalize natB a.e=ae at*;generalize natB a.o=ao at*;generalize natB b.e=be at*;generalize natB b.o=bo at*;obtain⟨W,hW⟩:=nm (((w.alloc (.cells #[.string ae,.string ao] 87)).alloc (.cells #[.string be,.string bo] 87)).alloc (.cells #[.string ⟨#[]⟩,.string ⟨#[]⟩] 87))
 have hbw:Below w.heap.size w W:=by rw[hW];exact((ba _ _).alloc (by simp only[World.size_alloc];omega) _).alloc (by simp only[World.size_alloc];omega) _
 have q0:Blk W w.heap.size #[.string ae,.string ao] 87:=by rw[hW];exact((Blk.new _ _ _).alloc _).alloc _
 have q1:Blk W (w.heap.size+1) #[.string be,.string bo] 87:=by rw[hW];exact(Blk.new' _ (by simp only[World.size_alloc]) _ _).alloc _
 have q2:Blk W (w.heap.size+2) #[.string ⟨#[]⟩,.string ⟨#[]⟩] 87:=by rw[hW];exact Blk.new' _ (by simp only[World.size_alloc]) _ _
 have HBW:=lh hbw;have Q2:=lh q2;have k0:=q0.cell 0;have k1:=q0.cell 1;have k2:=q1.cell 0;have k3:=q1.cell 1
 have HKS:Hid (∀w':World,Kp (fun y=>y=w.heap.size+2) W w'->(fun w'=>w'.cell? ⟨w.heap.size,0,none⟩=some (.string ae)/\w'.cell? ⟨w.heap.size,1,none⟩=some (.string ao)/\w'.cell? ⟨w.heap.size+1,0,none⟩=some (.string be)/\w'.cell? ⟨w.heap.size+1,1,none⟩=some (.string bo)) w'):=lh fun w' hb=>⟨hb.cell k0 (by simp),hb.cell k1 (by simp),hb.cell k2 (by simp),hb.cell k3 (by simp)⟩
 clear hbw q0 q1 q2 k0 k1 k2 k3;go_enter Tryz.func75,Tryz.ntmps75;go_wp2_with fail;rw[<-hW];clear hW
 refine wp_region_held_drew (S:=(fun w'=>w'.cell? ⟨w.heap.size,0,none⟩=some (.string ae)/\w'.cell? ⟨w.heap.size,1,none⟩=some (.string ao)/\w'.cell? ⟨w.heap.size+1,0,none⟩=some (.string be)/\w'.cell? ⟨w.heap.size+1,1,none⟩=some (.string bo))) (by kernel_rfl) (by exact HKS.o _ (Kp.below (Below.refl _ _).drew)) fun hH=>?_
 refine tkV 0 5 rfl rfl ?_;try simp only[tkS]
 refine tkV 1 6 rfl rfl ?_;try simp only[tkS]
 refine tkV 2 7 rfl rfl ?_;try simp only[tkS]
 refine tkV 3 8 rfl rfl ?_;try simp only[tkS]
 refine tkV 5 10 rfl rfl ?_;try simp only[tkS]
 refine tkV 6 11 rfl rfl ?_;try simp only[tkS]
 refine tkV 7 12 rfl rfl ?_;try simp only[tkS]
 refine tkV 8 13 rfl rfl ?_;try simp only[tkS]
 refine tkV 11 16 rfl rfl ?_;try simp only[tkS]
 refine tkV 12 17 rfl rfl ?_;try simp only[tkS]
 refine tkV 13 18 rfl rfl ?_;try simp only[tkS]
 refine tkV 14 19 rfl rfl ?_;try simp only[tkS]
 refine tkV 16 21 rfl rfl ?_;try simp only[tkS]
 refine tkV 17 22 rfl rfl ?_;try simp only[tkS]
 refine tkV 18 23 rfl rfl ?_;try simp only[tkS]
 refine tkV 19 24 rfl rfl ?_;try simp only[tkS]
 refine tkR 4 (.cons rfl (fun K hK=>?_) .nil);go_simp;go_at_call 47
 with_reducible refine Calls.mono (HM1.o _) ?_
 rintro e w5⟨rfl,hb5⟩;have hw5:Below W.heap.size W w5:=Below.trans (Below.refl W.heap.size W).drew (Below.mono hb5 (Below.size (Below.refl W.heap.size W).drew));clear hb5;go_wp2_with fail
 refine hK.out _ _ (by exact HKS.o _ (Kp.below hw5)) fun hH=>?_
 clear hK K
 try simp only[tkS]
 refine tkR 9 (.cons rfl (fun K hK=>?_) .nil);go_simp;go_at_call 47
 with_reducible refine Calls.mono (HM2.o _) ?_
 rintro e w6⟨rfl,hb6⟩;have hw6:Below W.heap.size W w6:=Below.trans hw5 (Below.mono hb6 (Below.size hw5));clear hb6;go_wp2_with fail
 refine hK.out _ _ (by exact HKS.o _ (Kp.below hw6)) fun hH=>?_
 clear hK K
 try simp only[tkS]
 refine tkR 10 (.cons rfl (fun K hK=>?_) .nil);go_simp;go_at_call 34
 with_reducible refine Calls.mono (HA1.o _) ?_
 rintro e w7⟨rfl,hb7⟩;have hw7:Below W.heap.size W w7:=Below.trans hw6 (Below.mono hb7 (Below.size hw6));clear hb7;go_wp2_with fail
 refine hK.out _ _ (by exact HKS.o _ (Kp.below hw7)) fun hH=>?_
 clear hK K
 try simp only[tkS]
 refine tkR 15 (.cons rfl (fun K hK=>?_) .nil);go_simp;go_at_call 47
 with_reducible refine Calls.mono (HM3.o _) ?_
 rintro e w8⟨rfl,hb8⟩;have hw8:Below W.heap.size W w8:=Below.trans hw7 (Below.mono hb8 (Below.size hw7));clear hb8;go_wp2_with fail
 refine hK.out _ _ (by exact HKS.o _ (Kp.below hw8)) fun hH=>?_
 clear hK K
 try simp only[tkS]
 refine tkR 20 (.cons rfl (fun K hK=>?_) .nil);go_simp;go_at_call 47
 with_reducible refine Calls.mono (HM4.o _) ?_
 rintro e w9⟨rfl,hb9⟩;have hw9:Below W.heap.size W w9:=Below.trans hw8 (Below.mono hb9 (Below.size hw8));clear hb9;go_wp2_with fail
 refine hK.out _ _ (by exact HKS.o _ (Kp.below hw9)) fun hH=>?_
 clear hK K
 try simp only[tkS]
 refine tkR 21 (.cons rfl (fun K hK=>?_) .nil);go_simp;go_at_call 34
 with_reducible refine Calls.mono (HA2.o _) ?_
 rintro e w10⟨rfl,hb10⟩;have hw10:Below W.heap.size W w10:=Below.trans hw9 (Below.mono hb10 (Below.size hw9));clear hb10;go_wp2_with fail
 refine hK.out _ _ (by exact HKS.o _ (Kp.below hw10)) fun hH=>?_
 clear hK K
 try simp only[tkS]
 refine tkV 22 27 rfl rfl ?_;try simp only[tkS]
 have q9:=Q2.o.later hw10;have e0:=q9.cell 0;have e1:=q9.cell 1;have f0:=q9.fr 0;have f1:=q9.fr 1;have ez:=q9.lt;have hk10:Kp (fun y=>y=w.heap.size+2) W w10:=Kp.below hw10;refine tkR 23 (.cons rfl (fun K hK=>?_) .nil);go_simp
 refine hK.out _ _ (by exact HKS.o _ ((hk10.trans (Kp.setCell _ _ _ rfl)).trans (Kp.setCell _ _ _ rfl))) fun hH=>?_
 clear hK K
 try simp only[tkS]
 refine wpAnyH_done (by kernel_rfl) ?_ _;go_wp2_with fail;have q10:=(q9.set 0 (.string t1)).set 1 (.string t2);have g0:=q10.cell 0;have g1:=q10.cell 1;rw[show w.heap.size+2=w.heap.size+1+1 from rfl]at g0 g1;exact bodyPost_ret (v:=.agg #[.string t1,.string t2]) (by simp[results,Tryz.results75,go_sem,g0,g1]) rfl ⟨by rw[HR.o],((HBW.o.trans (hw10.mono HBW.o.size)).setCell (show w.heap.size<=w.heap.size+2 by omega) _).setCell (show w.heap.size<=w.heap.size+2 by omega) _⟩
def ycx(x:Int):Int:=
 let a:=IntKind.u64.wrap (bits .and .u64 (x/2) 6148914691236517205+bits .and .u64 x 6148914691236517205)
 let b:=IntKind.u64.wrap (bits .and .u64 (a/4) 3689348814741910323+bits .and .u64 a 3689348814741910323)
 let c:=bits .and .u64 (IntKind.u64.wrap (b/16+b)) 1085102592571150095
 let d:=IntKind.u64.wrap (c+c/256)
 let e:=IntKind.u64.wrap (d+d/65536)
 let f:=IntKind.u64.wrap (e+e/4294967296)
 bits .and .i64 (wrap64 f) 127
theorem zx5:∀x:Nat,x<256->ycx (x:Int)=((Lib.onesCount x:Nat):Int):=by decide+kernel
theorem zrk(x:Nat)(hx:x<256)(w:World):Calls Tryz.prog 143 #[.int .u64 (x:Int)] w fun e w'=>e=.returned (.int .i64 ((Lib.onesCount x:Nat):Int))/\w=w':=by
 have HE:=lh (zx5 x hx);clear hx;go_enter Tryz.func143,Tryz.ntmps143;go_wp2;exact bodyPost_ret (v:=.int .i64 (ycx (x:Int))) (by simp[results,Tryz.results143,go_sem];rfl) rfl ⟨by rw[HE.o],rfl⟩
theorem zl9{B:Nat}(w:World)(n:Nat):Below B w (w.drewN n):=let h:=Below.refl B w;⟨h.os,h.tape,h.output,h.size,h.block⟩
def lenA(s:St):Nat:=Lib.onesCount s.a
theorem zy3(s:St)(w:World)(ha:s.a<256)(hb:s.b=0):Calls Tryz.prog 106 #[stv s] w fun e w'=>e=.returned (.int .i64 (lenA s:Int))/\Below w.heap.size w w':=by
 obtain⟨a,b⟩:=s;simp only at ha hb;subst hb;have HO:=lh (fun V=>zrk a ha V)
 have HZ:Hid (∀V:World,Calls Tryz.prog 143 #[.int .u64 0] V fun e w'=>e=.returned (.int .i64 0)/\V=w'):=fun V=>by
  have h:=zrk 0 (by decide) V;rw[show((Lib.onesCount 0:Nat):Int)=0 by decide]at h;exact h
 have hle:Lib.onesCount a<=8:=Lib.onesCount_le8 ⟨a,ha⟩;have HR:Hid (lenA ⟨a,0⟩=Lib.onesCount a):=rfl;generalize lenA ⟨a,0⟩=r at*;generalize Lib.onesCount a=k at*;unfold stv;simp only;rw[show((0:Nat):Int)=0 from rfl];clear ha;go_enter Tryz.func106,Tryz.ntmps106;go_wp2_with fail
 go_quiet(first|(with_reducible exact Calls.quiet_of_same ((HO.o _).mono fun _ _ hh=>⟨hh.1,hh.2.symm⟩))|(with_reducible exact Calls.quiet_of_same ((HZ.o _).mono fun _ _ hh=>⟨hh.1,hh.2.symm⟩)))
 go_wp2;go_ret;exact⟨by rw[HR.o];rfl,(ba _ _).trans (zl9 _ _)⟩
theorem zq7(all odd:St)(w:World)(hs:all.ok)(ht:odd.ok)(ha:all.a<256)(hb:all.b=0)(h8:lenA all<=8)(hk:all.cut odd≠St.zero->1<=lenA all):
 Calls Tryz.prog 76 #[stv all,stv odd] w fun e w'=>e=.returned (ctv (zmg (lenA all) (!eqSt (all.cut odd) St.zero)))/\Below w.heap.size w w':=by
 have HLN:=lh (fun V=>zy3 all V ha hb);have HCU:=lh (fun V=>zph all odd V hs ht)
 have hq:∀w:World,(binOp .eql 29 (.agg #[.int .u64 ((all.cut odd).a:Int),.int .u64 ((all.cut odd).b:Int)]) (.agg #[.int .u64 0,.int .u64 0])).run Tryz.prog w=.ok (.bool (eqSt (all.cut odd) St.zero)) w:=fun w=>zqb _ St.zero w
 have hgd:=zfp;have HP:=lh (fun V=>zif (lenA all) h8 V)
 have HQ:Hid (1<=lenA all->∀V:World,Calls Tryz.prog 10 #[.int .i64 ((lenA all:Int)-1)] V fun e w'=>e=.returned (natv (2^(lenA all-1)))/\Below V.heap.size V w'):=fun h V=>by
  have h1:=zif (lenA all-1) (by omega) V;rw[show((lenA all-1:Nat):Int)=(lenA all:Int)-1 by omega]at h1;exact h1
 have HK:Hid (eqSt (all.cut odd) St.zero=false->1<=lenA all):=fun h=>hk (by simpa[eqSt]using h)
 have HF:Hid (∀m,zmg (lenA all) m=if m then⟨2^(lenA all-1),2^(lenA all-1)⟩else⟨2^lenA all,0⟩):=fun _=>rfl
 have e0:natB 0=⟨#[]⟩:=rfl;have h8':=h8;have HBW:Hid (Below w.heap.size w (((w.alloc (.cells #[.int .u64 (all.a:Int),.int .u64 (all.b:Int)] 29)).alloc (.cells #[.int .u64 (odd.a:Int),.int .u64 (odd.b:Int)] 29)).alloc (.cells #[.string ⟨#[]⟩,.string ⟨#[]⟩] 87))):=((ba _ _).alloc (by simp) _).alloc (by simp;omega) _;obtain⟨W,hW⟩:=nm ((((w.alloc (.cells #[.int .u64 (all.a:Int),.int .u64 (all.b:Int)] 29)).alloc (.cells #[.int .u64 (odd.a:Int),.int .u64 (odd.b:Int)] 29)).alloc (.cells #[.string ⟨#[]⟩,.string ⟨#[]⟩] 87)))
 have q0:Blk W w.heap.size #[.int .u64 (all.a:Int),.int .u64 (all.b:Int)] 29:=by rw[hW];exact((Blk.new _ _ _).alloc _).alloc _
 have q1:Blk W (w.heap.size+1) #[.int .u64 (odd.a:Int),.int .u64 (odd.b:Int)] 29:=by rw[hW];exact(Blk.new' _ (by simp only[World.size_alloc]) _ _).alloc _
 have q2:Blk W (w.heap.size+1+1) #[.string ⟨#[]⟩,.string ⟨#[]⟩] 87:=by rw[hW];exact Blk.new' _ (by simp only[World.size_alloc]) _ _
 have Q0:=lh q0;have Q1:=lh q1;have Q2:=lh q2;rw[<-hW]at HBW;clear hs ht ha hb h8 hk q0 q1 q2;have HK8:=lh h8';clear h8';generalize lenA all=k at*;generalize hst:all.cut odd=st at*
 have hz:eqSt st St.zero=true\/eqSt st St.zero=false:=by cases eqSt st St.zero<;>simp
 rcases hz with hz|hz
 case' inl=>
  rw[hz]at hq⊢;have HR:Hid (zmg k (!true)=⟨2^k,0⟩):=HF.o _;have HR2:=lh hz;unfold natv at HP;rw[HR.o];unfold ctv;simp only;rw[e0];generalize natB (2^k)=s1 at*;clear e0 HQ HK HF HR hst hz;go_enter Tryz.func76,Tryz.ntmps76;go_wp2_with fail;rw[<-hW];clear hW;refine(HLN.o _).mono ?_;rintro e w4⟨rfl,hb4⟩;have p0:=(Q0.o.later hb4).cell 0;have p1:=(Q0.o.later hb4).cell 1;have p2:=(Q1.o.later hb4).cell 0;have p3:=(Q1.o.later hb4).cell 1;have pl:=(Q1.o.later hb4).lt;go_wp2_with fail;refine(HCU.o _).mono ?_;rintro e w5⟨rfl,hb5⟩;have hb45:=hb4.trans (hb5.mono hb4.size)
  clear hb4 hb5 p0 p1 p2 p3 pl;go_wp2_with fail;refine(HP.o _).mono ?_;rintro e w6⟨rfl,hb6⟩;have hb46:=hb45.trans (hb6.mono hb45.size);have q6:=Q2.o.later hb46;have d0:=q6.cell 0;have d1:=q6.cell 1;have f0:=q6.fr 0;have f1:=q6.fr 1;have ez:=q6.lt;clear hb45 hb6;go_wp2_with fail;have g0:=((q6.set 0 (.string s1)).set 1 (.string ⟨#[]⟩)).cell 0;have g1:=((q6.set 0 (.string s1)).set 1 (.string ⟨#[]⟩)).cell 1;exact bodyPost_ret (v:=.agg #[.string s1,.string ⟨#[]⟩]) (by simp[results,Tryz.results76,go_sem,g0,g1]) rfl ⟨rfl,((HBW.o.trans (hb46.mono HBW.o.size)).setCell (show w.heap.size<=w.heap.size+1+1 by omega) _).setCell (show w.heap.size<=w.heap.size+1+1 by omega) _⟩
 case' inr=>
  rw[hz]at hq⊢;have HR:Hid (zmg k (!false)=⟨2^(k-1),2^(k-1)⟩):=HF.o _;have HP:=lh (HQ.o (HK.o hz));unfold natv at HP;rw[HR.o];unfold ctv;simp only;generalize natB (2^(k-1))=s1 at*;have HKB:Hid (1<=k):=HK.o hz;clear e0 HQ HK HF HR hst hz;go_enter Tryz.func76,Tryz.ntmps76;go_wp2_with fail;rw[<-hW];clear hW;refine(HLN.o _).mono ?_;rintro e w4⟨rfl,hb4⟩;have p0:=(Q0.o.later hb4).cell 0;have p1:=(Q0.o.later hb4).cell 1;have p2:=(Q1.o.later hb4).cell 0;have p3:=(Q1.o.later hb4).cell 1;have pl:=(Q1.o.later hb4).lt;go_wp2_with fail;refine(HCU.o _).mono ?_
  rintro e w5⟨rfl,hb5⟩;have hb45:=hb4.trans (hb5.mono hb4.size);clear hb4 hb5 p0 p1 p2 p3 pl;have hk1:=HKB.o;have hk8:=HK8.o;go_wp2_with fail;refine(HP.o _).mono ?_;rintro e w6⟨rfl,hb6⟩;have hb46:=hb45.trans (hb6.mono hb45.size);clear hb45 hb6;go_wp2_with fail;refine(HP.o _).mono ?_;rintro e w7⟨rfl,hb7⟩;have hb47:=hb46.trans (hb7.mono hb46.size);have q6:=Q2.o.later hb47;have d0:=q6.cell 0;have d1:=q6.cell 1;have f0:=q6.fr 0;have f1:=q6.fr 1;have ez:=q6.lt;clear hb46 hb7;go_wp2_with fail;have g0:=((q6.set 0 (.string s1)).set 1 (.string s1)).cell 0;have g1:=((q6.set 0 (.string s1)).set 1 (.string s1)).cell 1
  exact bodyPost_ret (v:=.agg #[.string s1,.string s1]) (by simp[results,Tryz.results76,go_sem,g0,g1]) rfl ⟨rfl,((HBW.o.trans (hb47.mono HBW.o.size)).setCell (show w.heap.size<=w.heap.size+1+1 by omega) _).setCell (show w.heap.size<=w.heap.size+1+1 by omega) _⟩
end Go.Proofs.YtnlaakmglhjjmaaGreatDoor
