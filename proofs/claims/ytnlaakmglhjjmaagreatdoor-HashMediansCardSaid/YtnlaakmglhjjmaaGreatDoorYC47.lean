/- Parts of the proofs of laws. Texts: Kg, Kh, Ki, Kj, Hl. -/
import Derived.Test.YtnlaakmglhjjmaaGreatDoorYC40
set_option maxHeartbeats 8000000
set_option maxRecDepth 100000
set_option linter.all false
namespace Go.Proofs.YtnlaakmglhjjmaaGreatDoor
open Go.RowKit Cen
def nD(x:Nat):Nat:=if x=0 then 1 else ndg 10 x
theorem nD_lt(x:Nat):x<10^nD x:=by
 unfold nD
 split
 ·rename_i h;rw[h];decide
 exact(digs_ndg (B:=10) (by decide) x).2.1
theorem nD_pos(x:Nat):1<=nD x:=by
 unfold nD
 split
 ·exact Nat.le_refl _
 rename_i h
 refine Nat.pos_of_ne_zero fun h0=>h ?_
 have h2:=(digs_ndg (B:=10) (by decide) x).2.1;rw[h0,Nat.pow_zero]at h2;omega
theorem decL_eq(x:Nat):decL x=(digP 10 (nD x) x).reverse.map fun d=>UInt8.ofNat (48+d):=by
 unfold decL nD
 split
 ·rename_i h;subst h;decide
 rw[(digs_ndg (B:=10) (by decide) x).1]
theorem decB_size(x:Nat):(decB x).size=nD x:=by
 show((decL x).toArray).size=_
 rw[List.size_toArray,decL_eq,List.length_map,List.length_reverse,digP_len]
theorem decB_get(x:Nat){i k:Nat}(hi:i<nD x)(hk:k+i+1=nD x)(h:k<(decB x).size):(((decB x)[k]).toNat:Nat)=48+x/10^i%10:=by
 have h':k<((decL x).toArray).size:=h
 show((decL x).toArray[k]'h').toNat=_
 have hl:(decL x)[k]?=some (UInt8.ofNat (48+x/10^i%10)):=by
  rw[decL_eq,List.getElem?_map,List.getElem?_reverse (by rw[digP_len];omega),digP_len,show nD x-1-k=i by omega,digP_get 10 x hi]
  rfl
 have hlt:k<(decL x).length:=by simpa using h'
 rw[List.getElem?_eq_getElem hlt]at hl;rw[List.getElem_toArray,Option.some.inj hl];have:x/10^i%10<10:=Nat.mod_lt _ (by decide)
 simp
 omega
theorem dig10_high{x i:Nat}(h:nD x<=i):x/10^i%10=0:=by
 rw[Nat.div_eq_of_lt (Nat.lt_of_lt_of_le (nD_lt x) (Nat.pow_le_pow_right (by decide) h))]
theorem digit_any(x i:Nat)(hx:nD x<=1000000)(hi:i<=1000000)(w:World):Calls Tryz.prog 88 #[.string (decB x),.int .i64 (i:Int)] w fun e w'=>e=.returned (.int .i64 ((x/10^i%10:Nat):Int))/\w'=w:=by
 have hs:=decB_size x
 have hg:=fun k(h1:i<nD x)(h2:k+i+1=nD x)(h:k<(decB x).size)=>decB_get x h1 h2 h
 have hz:=fun h:nD x<=i=>dig10_high h
 have h9:x/10^i%10<10:=Nat.mod_lt _ (by decide);generalize decB x=s at*;generalize x/10^i%10=d at*;generalize nD x=n at*;subst hs
 by_cases hlt:i<s.size
 ·obtain⟨k,hk⟩:∃k,k+i+1=s.size:=⟨s.size-(i+1),by omega⟩
  have hks:k<s.size:=by omega
  have hv:=hg k hlt hk hks
  have h1:(s.size:Int)-1-(i:Int)=(k:Int):=by omega
  have h2:¬((s.size:Int)<=(i:Int)):=by omega
  have h3:(k:Int)<(s.size:Int):=by omega
  have h4:(((s[k]).toNat:Int)-48)%256=(d:Int):=by omega
  have h5:((s[k]).toNat:Int)=48+(d:Int):=by omega
  clear hg hz hlt hk;go_enter Tryz.func88,Tryz.ntmps88;go_wp2_with fail;rw[show(48:Int)+(d:Int)-48=(d:Int)by omega];go_ret;exact⟨rfl,rfl⟩
 have h2:(s.size:Int)<=(i:Int):=by omega
 have hd:=hz (by omega);subst hd;clear hg hz hlt;go_enter Tryz.func88,Tryz.ntmps88;go_wp2_with fail;go_ret;exact⟨rfl,rfl⟩
theorem sum_step{x y S i c:Nat}(h:S/10^i=x/10^i+y/10^i+c)(hc:c<=1):
 S/10^i%10=(x/10^i%10+y/10^i%10+c)%10/\S/10^(i+1)=x/10^(i+1)+y/10^(i+1)+(x/10^i%10+y/10^i%10+c)/10/\(x/10^i%10+y/10^i%10+c)/10<=1:=by
 rw[Nat.pow_succ,<-Nat.div_div_eq_div_mul,<-Nat.div_div_eq_div_mul,<-Nat.div_div_eq_div_mul,h];generalize x/10^i=a;generalize y/10^i=b;omega
theorem add10_any(x y:Nat)(hx:nD x<=100000)(hy:nD y<=100000)(w:World):Calls Tryz.prog 89 #[.string (decB x),.string (decB y)] w fun e w'=>e=.returned (.string (decB (x+y)))/\Below w.heap.size w w':=by
 obtain⟨S,hS⟩:=nm (x+y);rw[<-hS]
 have hdx:=fun i(hi:i<=1000000)V=>digit_any x i (by omega) hi V
 have hdy:=fun i(hi:i<=1000000)V=>digit_any y i (by omega) hi V
 have hsx:=decB_size x;have hsy:=decB_size y;have hlx:=nD_lt x;have hly:=nD_lt y;generalize decB x=s at*;generalize decB y=t at*;generalize nD x=m at*;generalize nD y=n at*;subst hsx hsy
 obtain⟨M,hM1,hM2,hM3⟩:∃M,s.size<=M/\t.size<=M/\M<=100000:=⟨max s.size t.size,by omega,by omega,by omega⟩
 have HSB:Hid (S<10^(M+1)):=by
  show _<_
  have h1:10^s.size<=10^M:=Nat.pow_le_pow_right (by decide) hM1;have h2:10^t.size<=10^M:=Nat.pow_le_pow_right (by decide) hM2;rw[Nat.pow_succ];omega
 have HDX:=lh hdx;have HDY:=lh hdy;have HLX:=lh hlx;have HLY:=lh hly;have HM1:=lh hM1;have HM2:=lh hM2;have HS:=lh hS;clear hdx hdy hlx hly hM1 hM2 hS hx hy;go_enter Tryz.func89,Tryz.ntmps89;go_wp2_with fail
 go_loopw[5,6,7](fun v5 v6 v7 wr=>∃(i c:Nat)(oa:Option Addr)(oc:Nat),i<=M+1/\c<=1/\v6=.int .i64 c/\v7=.int .i64 i/\v5=.slice oa i oc/\S/10^i=x/10^i+y/10^i+c/\OwnL I1 3 1 wr w.heap.size (.slice oa i oc) (dgZ i S)/\Below w.heap.size w wr)(fun _ _ v7 _=>M+2-(intOf v7).toNat)
 case atStart=>exact⟨0,0,none,0,Nat.zero_le _,Nat.zero_le _,rfl,rfl,rfl,by rw[HS.o];simp,OwnL.nil _ _,Below.refl _ _⟩
 obtain⟨i,c,oa,oc,hi,hc,rfl,rfl,rfl,hq,ho,hb⟩:=hrel;have HQ:=lh hq;have HO:=lh ho;have HB:=lh hb;clear hq ho hb;obtain⟨B,hB⟩:=nm (decide (i<s.size\/i<t.size\/0<c));have HBB:=lh hB;clear hB
 go_upto_region 4 with fail
 go_cut[22](fun v wx=>v=.bool B/\wx=wr)
 case first=>
  by_cases h1:i<s.size
  ·have h1i:(i:Int)<(s.size:Int):=by omega
   obtain rfl:B=true:=by rw[HBB.o];simp[h1]
   clear HBB h1;go_wp2_with fail
   go_meet
   exact⟨rfl,rfl⟩
  have h1i:¬(i:Int)<(s.size:Int):=by omega
  by_cases h2:i<t.size
  ·have h2i:(i:Int)<(t.size:Int):=by omega
   obtain rfl:B=true:=by rw[HBB.o];simp[h2]
   clear HBB h1 h2;go_wp2_with fail
   go_meet
   exact⟨rfl,rfl⟩
  have h2i:¬(i:Int)<(t.size:Int):=by omega
  rcases(show c=0\/c=1 by omega)with rfl|rfl
  ·obtain rfl:B=false:=by rw[HBB.o];simp[h1,h2]
   clear HBB h1 h2;go_wp2_with fail
   go_meet
   exact⟨rfl,rfl⟩
  obtain rfl:B=true:=by rw[HBB.o];simp
  clear HBB h1 h2;go_wp2_with fail
  go_meet
  exact⟨rfl,rfl⟩
 obtain⟨rfl,rfl⟩:=hcut
 cases hbb:B with
 |true=>
   rw[HBB.o,decide_eq_true_eq]at hbb
   have hiM:i<=M:=by
    rcases hbb with h|h|h
    ·have:=HM1.o;omega
    ·have:=HM2.o;omega
    refine Nat.le_of_not_lt fun hlt=>?_
    have h2:=HQ.o;rw[Nat.div_eq_of_lt (Nat.lt_of_lt_of_le HSB.o (Nat.pow_le_pow_right (by decide) hlt))]at h2;generalize x/10^i=a at h2;generalize y/10^i=b at h2;omega
   clear hbb HBB;obtain⟨e1,e2,e3⟩:=sum_step HQ.o hc;have hx9:x/10^i%10<10:=Nat.mod_lt _ (by decide);have hy9:y/10^i%10<10:=Nat.mod_lt _ (by decide)
   have HSN:Hid (dgZ (i+1) S=dgZ i S++[((S/10^i%10:Nat):Int)]):=by show _=_;unfold dgZ;rw[digP_snoc,List.map_append];rfl
   rw[e1]at HSN;have HDL:=lh (dgZ_len i S);have HX:=lh (HDX.o i (by omega));have HY:=lh (HDY.o i (by omega));generalize dgZ i S=L at*;generalize x/10^i%10=dx at*;generalize y/10^i%10=dy at*
   have HLN:Hid (L.length<=1073741824):=by show _<=_;rw[HDL.o];omega
   obtain⟨T,hT⟩:=nm (dx+dy+c);rw[<-hT]at HSN e2 e3
   have hTi:(dx:Int)+(dy:Int)+(c:Int)=(T:Int):=by omega
   have hT19:T<=19:=by omega
   have hmod:(T:Int)%10=((T%10:Nat):Int):=by omega
   have hdiv:(T:Int)/10=((T/10:Nat):Int):=by omega
   have HQ2:=lh e2;have HC2:=lh e3;have HDV:=lh hdiv
   have hm9:((T%10:Nat):Int)<=9:=by omega
   generalize T%10=d at*;clear hT e1 e2 e3 hdiv;go_wp2_with fail;refine(HX.o _).mono ?_;rintro e w2⟨rfl,rfl⟩;go_wp2_with fail;refine(HY.o _).mono ?_;rintro e w3⟨rfl,rfl⟩;go_wp2_with(at_builtin;go_loud(refine zlx (C:=#[.int .i64 (d:Int)]) ziz rfl _ _ rfl w.heap.size (.slice oa i oc) L (d:Int) rfl HO.o rfl rfl rfl (by intro u hu;simp[I1]at hu;subst hu;rfl) HLN.o (by decide) HB.o.size ?_));intro g5 cap5 w5 ho5 hg5 hgn5;rw[HDL.o]at ho5⊢
   have HO5:Hid (OwnL I1 3 1 w5 w.heap.size (.slice (some ⟨g5,0,none⟩) (i+1) cap5) (dgZ (i+1) S)):=by rw[HSN.o];exact ho5
   have HB5:Hid (Below w.heap.size w w5):=HB.o.grown hg5 HB.o.size (fun j hj=>(World.ownsRow.lt HO.o j hj).1);clear ho5 hg5 hgn5;go_wp2_with fail;exact⟨⟨i+1,T/10,some ⟨g5,0,none⟩,cap5,by omega,HC2.o,by rw[HDV.o],by go_num,rfl,HQ2.o,HO5.o,HB5.o⟩,by simp[intOf];omega⟩
 |false=>
   rw[HBB.o,decide_eq_false_iff_not]at hbb
   have hlt:S<10^i:=by
    have h2:=HQ.o;rw[Nat.div_eq_of_lt (Nat.lt_of_lt_of_le HLX.o (Nat.pow_le_pow_right (by decide) (by omega))),Nat.div_eq_of_lt (Nat.lt_of_lt_of_le HLY.o (Nat.pow_le_pow_right (by decide) (by omega)))]at h2
    have h3:S/10^i=0:=by omega
    rcases Nat.div_eq_zero_iff.1 h3 with h4|h4
    ·exact absurd h4 (Nat.ne_of_gt (Nat.pow_pos (by decide)))
    exact h4
   have HF:=lh (form_any oa oc i S wc (by omega) hlt HO.o.dgI);clear hlt hbb HBB;go_wp2_with fail;refine HF.o.mono ?_;rintro e w2⟨rfl,hb2⟩;have HB2:=bt HB hb2;clear hb2;go_wp2;go_ret;exact⟨rfl,HB2.o⟩
theorem nD_two(i:Nat)(hi:i<=4096):nD (2^i)<=100000:=by
 have h1:2^i<10^(i+1):=by
  have h2:2^i<=10^i:=Nat.pow_le_pow_left (by decide) i;have h3:0<10^i:=Nat.pow_pos (by decide);rw[Nat.pow_succ];omega
 have h4:=ndg_le (B:=10) (by decide) h1;unfold nD
 split<;>omega
theorem pow10_any(n:Nat)(hn:n<=4096)(w:World):Calls Tryz.prog 50 #[.int .i64 (n:Int)] w fun e w'=>e=.returned (.string (decB (2^n)))/\Below w.heap.size w w':=by
 have hni:(n:Int)<=4096:=by omega
 have hn0:¬((n:Int)<0):=by omega
 have h1:decB 1=⟨#[49]⟩:=by decide+kernel
 have H1:=lh h1;clear h1;go_enter Tryz.func50,Tryz.ntmps50;go_wp2_with fail
 go_loopw[3,4](fun v3 v4 wr=>∃i:Nat,i<=n/\v4=.int .i64 i/\v3=.string (decB (2^i))/\Below w.heap.size w wr)(fun _ v4 _=>n-(intOf v4).toNat)
 case atStart=>exact⟨0,Nat.zero_le _,rfl,by rw[Nat.pow_zero,H1.o],Below.refl _ _⟩
 obtain⟨i,hi,rfl,rfl,hb⟩:=hrel;have HB:=lh hb;clear hb
 by_cases hlt:i<n
 ·have hli:(i:Int)<(n:Int):=by omega
  have ha:=fun V=>add10_any (2^i) (2^i) (nD_two i (by omega)) (nD_two i (by omega)) V
  rw[show 2^i+2^i=2^(i+1)by rw[Nat.pow_succ];omega]at ha;have HA:=lh ha;clear ha;generalize decB (2^i)=s at*;obtain⟨t,ht⟩:=nm (decB (2^(i+1)));rw[<-ht]at HA;have HT:=lh ht;clear ht;go_wp2_with fail;refine(HA.o _).mono ?_;rintro e w2⟨rfl,hb2⟩;have HB2:=bt HB hb2;clear hb2;go_wp2_with fail;exact⟨⟨i+1,by omega,by go_num,by rw[HT.o],HB2.o⟩,by simp[intOf];omega⟩
 obtain rfl:i=n:=by omega
 have hli:¬(i:Int)<(i:Int):=by omega
 obtain⟨s,hs⟩:=nm (decB (2^i));rw[<-hs];have HS:=lh hs;clear hs;go_wp2_with fail;go_ret;exact⟨by rw[<-HS.o];rfl,HB.o⟩
def OwnZ(w:World)(base g L x:Nat):Prop:=OwnL I1 3 1 w base (.slice (some ⟨g,0,none⟩) L L) (dgZ L x)
theorem OwnZ.cell{w:World}{base g L x k:Nat}(h:OwnZ w base g L x)(hk:k<L):w.cell? ⟨g,k,none⟩=some (.int .i64 ((x/10^k%10:Nat):Int)):=by
 obtain⟨b,off,e,c⟩:=OwnL.dgI h k hk;simp only[Option.some.injEq,Addr.mk.injEq,and_true]at e;obtain⟨rfl,rfl⟩:=e;rw[Nat.zero_add]at c;exact c
theorem OwnZ.fr{w:World}{base g L x:Nat}(h:OwnZ w base g L x)(k:Nat):w.frozen? ⟨g,k,none⟩=false:=OwnL.fr (dgZ_len _ _).symm h k
theorem OwnZ.lt{w:World}{base g L x:Nat}(h:OwnZ w base g L x):g<w.heap.size/\base<=g:=OwnL.lt h
theorem OwnZ.set{w:World}{base g L x k d:Nat}(h:OwnZ w base g L x)(hk:k<L)(hd:d<10):OwnZ (w.setCell ⟨g,k,none⟩ (.int .i64 (d:Int))) base g L (setD 10 x k d):=by
 have:=OwnL.put1 (dgZ_len _ _).symm h (fun _=>rfl) k (by rw[dgZ_len];exact hk) (d:Int) _ rfl
 have h2:(digP 10 L x).set k d=digP 10 L (setD 10 x k d):=by
  have h3:=digP_set (B:=10) (x:=x) (y:=setD 10 x k d) hk (fun _ _ hj=>(setD_other (by decide) hd hj).symm);rw[setD_same (by decide) hd]at h3;exact h3
 have h4:(dgZ L x).set k (d:Int)=dgZ L (setD 10 x k d):=by
  unfold dgZ;rw[<-h2,List.map_set]
  rfl
 rw[h4]at this;exact this
theorem mul10_top{x y i k V q n:Nat}(h:MulS 10 i (x%10^i*y) (x/10^i%10) y k V q)(hy:y<10^n)(hk:n<=k):V+q*10^(i+k)=x%10^(i+1)*y:=by
 rw[h.eq,Nat.mod_eq_of_lt (Nat.lt_of_lt_of_le hy (Nat.pow_le_pow_right (by decide) hk)),mul_next]
theorem mul10_end{x y i k V q n:Nat}(h:MulS 10 i (x%10^i*y) (x/10^i%10) y k V q)(hy:y<10^n)(hk:n+1<=k):q=0:=by
 have h1:=mul10_top h hy (by omega);have h2:x%10^(i+1)*y<10^(i+1+n):=mul_lt (by decide) hy;have h3:10^(i+1+n)<=10^(i+k):=Nat.pow_le_pow_right (by decide) (by omega)
 refine Nat.eq_zero_of_not_pos fun h4=>?_
 have h5:1*10^(i+k)<=q*10^(i+k):=Nat.mul_le_mul_right _ h4;omega
theorem mul10_any(x y:Nat)(hx:nD x<=100000)(hy:nD y<=100000)(w:World):Calls Tryz.prog 49 #[.string (decB x),.string (decB y)] w fun e w'=>e=.returned (.string (decB (x*y)))/\Below w.heap.size w w':=by
 have hdx:=fun i(hi:i<=1000000)V=>digit_any x i (by omega) hi V
 have hdy:=fun i(hi:i<=1000000)V=>digit_any y i (by omega) hi V
 have hsx:=decB_size x;have hsy:=decB_size y;have hlx:=nD_lt x;have hly:=nD_lt y;generalize decB x=s at*;generalize decB y=t at*;generalize nD x=m at*;generalize nD y=n at*;subst hsx hsy;obtain⟨N,hN⟩:=nm (s.size+t.size+1)
 have HNI:Hid ((s.size:Int)+(t.size:Int)+1=(N:Int)):=by show _=_;omega
 have HML:Hid (N<=maxLen):=by show _<=_;unfold maxLen;omega
 have HN:=lh hN;have HDX:=lh hdx;have HDY:=lh hdy;have HLX:=lh hlx;have HLY:=lh hly
 have hN2:N<=200001:=by omega
 clear hdx hdy hlx hly hN;go_enter Tryz.func49,Tryz.ntmps49;go_wp2_with(at_make;go_loud(refine mk ziz rfl _ _ rfl w.heap.size .i64 .i64 _ _ N rfl rfl HNI.o HNI.o (by omega) HML.o (Nat.le_refl _) I1 0 rfl ?_));intro w1 ho1 hg1;have hb1:Below w.heap.size w w1:=(Below.refl _ _).grown hg1 (Nat.le_refl _) (by simp);obtain⟨g,hg⟩:=nm w.heap.size
 have HO1:Hid (OwnZ w1 w.heap.size g N (x%10^0*y)):=by
  show OwnL _ _ _ _ _ _ _
  rw[Nat.pow_zero,Nat.mod_one,Nat.zero_mul];unfold dgZ;rw[digP_zero,List.map_replicate,hg];exact ho1
 have HB1:=lh hb1;rw[<-hg];have HG:=lh hg;clear ho1 hg1 hb1 hg;go_wp2_with fail
 go_loopw[6](fun i wr=>∃k:Nat,k<=s.size/\i=.int .i64 k/\OwnZ wr w.heap.size g N (x%10^k*y)/\Below w.heap.size w wr)(fun i _=>s.size-(intOf i).toNat)
 case atStart=>exact⟨0,Nat.zero_le _,rfl,HO1.o,HB1.o⟩
 obtain⟨i,hi,rfl,ho,hb⟩:=hrel;have HO:=lh ho;have HB:=lh hb;clear ho hb
 by_cases hlt:i<s.size
 ·have hii:(i:Int)<(s.size:Int):=by omega
  have HX:=lh (HDX.o i (by omega));have HST:=lh (MulS.start 10 i (x%10^i*y) (x/10^i%10) y (by decide))
  have HTOP:Hid (∀k V q,MulS 10 i (x%10^i*y) (x/10^i%10) y k V q->t.size<=k->V+q*10^(i+k)=x%10^(i+1)*y):=fun k V q h hk=>mul10_top h HLY.o hk
  have HEND:Hid (∀k V q,MulS 10 i (x%10^i*y) (x/10^i%10) y k V q->t.size+1<=k->q=0):=fun k V q h hk=>mul10_end h HLY.o hk
  have hf:x/10^i%10<10:=Nat.mod_lt _ (by decide);generalize x/10^i%10=f at*;generalize x%10^i*y=P at*;go_wp2_with fail
  go_loopw[7,8](fun c v wi=>∃(k V q:Nat),k<=t.size+1/\v=.int .i64 k/\c=.int .i64 q/\MulS 10 i P f y k V q/\OwnZ wi w.heap.size g N V/\Below w.heap.size w wi)(fun _ v _=>t.size+2-(intOf v).toNat)
  case atStart=>exact⟨0,P,0,Nat.zero_le _,rfl,rfl,HST.o,HO.o,HB.o⟩
  rename World=>wi
  obtain⟨k,V,q,hk,rfl,rfl,hS,ho,hb⟩:=hrel;have HS:=lh hS;have HOI:=lh ho;have HBI:=lh hb;have hq:q<10:=hS.lt;clear hS ho hb;obtain⟨B,hB⟩:=nm (decide (k<t.size\/0<q));have HBB:=lh hB;clear hB
  go_upto_region 7 with fail
  go_cut[30](fun v wx=>v=.bool B/\wx=wi)
  case first=>
   by_cases h1:k<t.size
   ·have h1i:(k:Int)<(t.size:Int):=by omega
    obtain rfl:B=true:=by rw[HBB.o];simp[h1]
    clear HBB h1;go_wp2_with fail
    go_meet
    exact⟨rfl,rfl⟩
   have h1i:¬(k:Int)<(t.size:Int):=by omega
   have h2:B=decide (0<q):=by rw[HBB.o];simp[h1]
   clear HBB h1
   by_cases h3:0<q
   ·have h3i:(0:Int)<(q:Int):=by omega
    obtain rfl:B=true:=by rw[h2];simpa using h3
    have HQ:=lh h3;clear h3 h2;go_wp2_with fail
    go_meet
    exact⟨by rw[decide_eq_true HQ.o],rfl⟩
   obtain rfl:q=0:=by omega
   obtain rfl:B=false:=by rw[h2];rfl
   clear h3 h2;go_wp2_with fail
   go_meet
   exact⟨rfl,rfl⟩
  obtain⟨rfl,rfl⟩:=hcut
  cases hbb:B with
  |true=>
    rw[HBB.o,decide_eq_true_eq]at hbb
    have hkn:k<=t.size:=by
     rcases hbb with h|h
     ·omega
     refine Nat.le_of_not_lt fun hlt2=>?_
     have:=HEND.o k V q HS.o hlt2;omega
    clear hbb HBB
    have hik:i+k<N:=by have:=HN.o;omega
    have hiki:(i:Int)+(k:Int)<(N:Int):=by omega
    have HY:=lh (HDY.o k (by omega));have v0:=HOI.o.cell hik;have vf:=HOI.o.fr (i+k);have vz:=HOI.o.lt.1;have HSM:=lh (HS.o.sum hf);have HSP:=lh (HS.o.step hf rfl);have hd:V/10^(i+k)%10<10:=Nat.mod_lt _ (by decide);have he:y/10^k%10<10:=Nat.mod_lt _ (by decide);generalize V/10^(i+k)%10=d at*;generalize y/10^k%10=e at*;obtain⟨z,hz⟩:=nm (f*e);rw[<-hz]at HSM HSP
    have hzi:(f:Int)*(e:Int)=(z:Int):=by rw[hz];push_cast;rfl
    have hz81:z<=81:=by rw[hz];exact Nat.mul_le_mul (show f<=9 by omega) (show e<=9 by omega)
    obtain⟨T,hT⟩:=nm (q+(d+z));rw[<-hT]at HSM HSP
    have hTi:(d:Int)+(z:Int)+(q:Int)=(T:Int):=by omega
    have HTM:Hid (T%10<10):=Nat.mod_lt _ (by decide)
    have hmod:(T:Int)%10=((T%10:Nat):Int):=by omega
    have hdiv:(T:Int)/10=((T/10:Nat):Int):=by omega
    have hT99:T<=200:=by omega
    have HDV:=lh hdiv;have HMD:=lh hmod;generalize T%10=Tm at*;generalize T/10=Td at*;clear hT hz hdiv hmod
    go_upto_region 9 with fail
    go_quiet(first|with_reducible exact Calls.quiet_of_same (HX.o _)|with_reducible exact Calls.quiet_of_same (HY.o _))
    obtain⟨w3,hw3⟩:=nm (wc.drewN nq)
    have HO3:Hid (OwnZ w3 w.heap.size g N V):=by rw[hw3];exact HOI.o
    have HB3:Hid (Below w.heap.size w w3):=by show Below _ _ _;rw[hw3];exact HBI.o.trans (drewN_w _ _)
    rw[<-hw3];clear v0 vf vz hw3;have v0:=HO3.o.cell hik;have vf:=HO3.o.fr (i+k);have vz:=HO3.o.lt.1;have hmd:=HMD.o
    go_upto_region 11 with fail
    have HO4:=lh (HO3.o.set hik HTM.o);have HB4:Hid (Below w.heap.size w (w3.setCell ⟨g,i+k,none⟩ (.int .i64 (Tm:Int)))):=HB3.o.setCell (by have:=HG.o;dsimp only;omega) _;clear v0 vf vz hmd;generalize(w3.setCell ⟨g,i+k,none⟩ (.int .i64 (Tm:Int)))=w4 at*;have hdv:=HDV.o;go_wp2_with fail;go_roundw
    case rel=>exact⟨k+1,_,Td,by omega,by go_num,rfl,HSP.o,HO4.o,HB4.o⟩
    case measure=>simp[intOf];omega
  |false=>
    rw[HBB.o,decide_eq_false_iff_not]at hbb
    have hq0:q=0:=by omega
    have hkt:t.size<=k:=by omega
    have HV:Hid (V=x%10^(i+1)*y):=by
     have h:=HTOP.o k V q HS.o hkt;rw[hq0,Nat.zero_mul,Nat.add_zero]at h;exact h
    subst hq0;clear hbb HBB hkt;go_wp2_with fail;go_roundw
    case rel=>exact⟨i+1,by omega,by go_num,by rw[<-HV.o];exact HOI.o,HBI.o⟩
    case measure=>simp[intOf];omega
 obtain rfl:i=s.size:=by omega
 have hkn:¬((s.size:Int)<(s.size:Int)):=by omega
 have HF:Hid (OwnZ wr w.heap.size g N (x*y)):=by
  have h:=HO.o;rw[Nat.mod_eq_of_lt HLX.o]at h;exact h
 have HXY:x*y<10^N:=by
  rw[HN.o,Nat.pow_succ,Nat.pow_add];have:=Nat.mul_lt_mul'' HLX.o HLY.o;omega
 have HFR:=lh (form_any (some ⟨g,0,none⟩) N N (x*y) wr (by omega) HXY HF.o.dgI);clear HXY;go_wp2_with fail;refine HFR.o.mono ?_;rintro e w5⟨rfl,hb5⟩;have HB5:=bt HB hb5;clear hb5;go_wp2;go_ret;exact⟨rfl,HB5.o⟩
theorem add_pow{a k:Nat}(ha:a<2^k)(hk:k<64):IntKind.u64.wrap ((a:Int)+IntKind.u64.wrap ((2:Int)^k))=((a|||2^k:Nat):Int):=by
 rw[zr2 hk,or_add ha];have h1:2^(k+1)<=2^64:=Nat.pow_le_pow_right (by omega) (by omega);rw[Nat.pow_succ]at h1;generalize 2^k=P at*;rw[<-Int.natCast_add];exact IntWalk.u64_in _ ⟨by omega,by omega⟩
def Pars5Post(L:List Pr)(w:World)(e:Ending)(w':World):Prop:=∃(a:Option Addr)(c:Nat),e=.returned (.tuple #[.slice a L.length c,.int .i64 0])/\OwnP5 w' w.heap.size (.slice a L.length c) L/\Below w.heap.size w w'
theorem pars5_any(a:Option Addr)(cap:Nat)(bs:List Nat)(n m:Nat)(w:World)(hl:bs.length<=1073741824)(hx:U8Cells w a bs)(hn:n<=128)(hm:m<=16)(h8:m*(n+1)<=8*bs.length):
 Calls Tryz.prog 48 #[.slice a bs.length cap,.int .i64 (n:Int),.int .i64 (m:Int)] w (Pars5Post (zbr bs n m) w):=by
 have HX:=lh hx;have HSE:=lh (fun V=>seeds5_any (n:Int) (m:Int) V)
 have hsF:zjy (n:Int) (m:Int)=((m*(n+1):Nat):Int):=by unfold zjy;rw[if_neg (by omega)];push_cast;rfl
 rw[hsF]at HSE;have H8:=lh h8
 have h8i:¬(8*(bs.length:Int)<((m*(n+1):Nat):Int)):=by omega
 have h1:¬((n:Int)<0):=by omega
 have h2:¬(128<(n:Int)):=by omega
 have h3:¬((m:Int)<0):=by omega
 have h4:¬(16<(m:Int)):=by omega
 clear hsF hx h8;generalize((m*(n+1):Nat):Int)=s at*;go_enter Tryz.func48,Tryz.ntmps48;go_wp2_with fail;refine(HSE.o _).mono ?_;rintro e w'⟨rfl,rfl⟩;go_wp2_with fail
 go_loopw[8,9](fun v i wr=>∃(k:Nat)(va:Option Addr)(vc:Nat),k<=m/\i=.int .i64 k/\v=.slice va k vc/\OwnP5 wr w.heap.size (.slice va k vc) ((zbr bs n m).take k)/\Below w.heap.size w wr)(fun _ i _=>m-(intOf i).toNat)
 case atStart=>exact⟨0,none,0,Nat.zero_le _,rfl,rfl,OwnL.nil _ _,Below.refl _ _⟩
 obtain⟨wo,rfl⟩:∃wo:World,wo=wr:=⟨_,rfl⟩
 obtain⟨k,va,vc,hk,rfl,rfl,hown,hb⟩:=hrel
 by_cases hlt:k<m
 ·have hkm:(k:Int)<(m:Int):=by omega
  obtain⟨f,hf⟩:∃f:Nat->Bool,f=fun v=>bitN bs (k*(n+1)+(v-1)):=⟨_,rfl⟩
  have HF:=lh hf;have HO:=lh hown;have HB:=lh hb
  have HML:Hid (k*(n+1)+n<8*bs.length):=by
   have h1:(k+1)*(n+1)<=m*(n+1):=Nat.mul_le_mul_right _ hlt;have h2:=H8.o;rw[Nat.succ_mul]at h1
   show _<_;omega
  obtain⟨bp,hbp⟩:=nm wo.heap.size;obtain⟨wx,hwx⟩:=nm (wo.alloc (.cells #[.int .u64 0,.int .u64 0,.bool false] 94))
  have HBX:Hid (Below wo.heap.size wo wx):=by rw[hwx];exact ba _ _
  have HQX:Hid (Blk wx bp #[.int .u64 ((setB f 0).a:Int),.int .u64 ((setB f 0).b:Int),.bool false] 94):=by rw[hwx,hbp];exact Blk.new _ _ _
  have HBP:Hid (w.heap.size<=bp):=by rw[hbp];exact hb.size
  clear hown hb hf;go_wp2_with fail;rw[<-hwx,<-hbp];have HBE:=lh hbp;clear hwx hbp
  go_loopw[11](fun v wi=>∃z:Int,1<=z/\z<=(n:Int)+1/\v=.int .i64 z/\Blk wi bp #[.int .u64 ((setB f (z.toNat-1)).a:Int),.int .u64 ((setB f (z.toNat-1)).b:Int),.bool false] 94/\Kp (fun y=>y=bp) wx wi)(fun v _=>n+2-(intOf v).toNat)
  case atStart=>exact⟨1,by omega,by omega,rfl,HQX.o,Kp.refl _ _⟩
  obtain⟨wi,rfl⟩:∃wi:World,wi=wr:=⟨_,rfl⟩
  obtain⟨z,hz1,hz2,rfl,hq,hkp⟩:=hrel;have HKP:=lh hkp;have HQ:=lh hq;have HBI:Hid (Below w.heap.size w wi):=(HB.o.trans (HBX.o.mono HB.o.size)).trans (hkp.toBelow (HB.o.trans (HBX.o.mono HB.o.size)).size (fun y hy e=>by have:=HBP.o;omega));clear hq hkp
  by_cases hzn:z<=(n:Int)
  ·obtain⟨pk,hpk⟩:∃pk:Nat,pk=k*(n+1):=⟨_,rfl⟩
   have hpi:(k:Int)*((n:Int)+1)=(pk:Int):=by rw[hpk];push_cast;rfl
   have hpb:pk+n<8*bs.length:=by rw[hpk];exact HML.o
   have hpb2:pk<=2064:=by
    rw[hpk];have h1:k*(n+1)<=16*(n+1):=Nat.mul_le_mul_right _ (by omega);omega
   have hprod:IntKind.i64.wrap ((k:Int)*((n:Int)+1))=(pk:Int):=by rw[hpi];exact IntWalk.i64_in _ (by omega)
   have HPK:=lh hpk;have HPI:=lh hpi;have HBT:=lh (bit_any a cap bs (pk+(z.toNat-1)) wi hl (HX.o.keep HBI.o) (by omega));rw[show((pk+(z.toNat-1):Nat):Int)=(pk:Int)+z-1 by omega]at HBT;have HSN:=lh (zon f hz1)
   have hfz:f z.toNat=bitN bs (pk+(z.toNat-1)):=by rw[HF.o,hpk]
   rw[hfz]at HSN;have HALT:=lh (fun(h:z<=64)=>setB_a_lt f (z.toNat-1) (by omega));have HBLT:=lh (fun(h:65<=z)=>setB_b_lt f (z.toNat-1) (by omega));have HOK:=lh (zfw f (z.toNat-1));clear hpk hpi hfz;generalize bitN bs (pk+(z.toNat-1))=x at*;generalize setB f (z.toNat-1)=st at*;go_wp2_with fail;clear hprod;refine HBT.o.mono ?_;rintro e w'⟨rfl,rfl⟩;have q0:=HQ.o.cell 0;have q1:=HQ.o.cell 1;have q2:=HQ.o.cell 2;have qf0:=HQ.o.fr 0;have qf1:=HQ.o.fr 1;have ql:=HQ.o.lt
   cases x with
   |false=>
     have HS2:Hid (setB f z.toNat=st):=by show _=_;rw[HSN.o,if_neg (by simp)]
     clear HSN;go_wp2;go_roundw
     case rel=>exact⟨z+1,by omega,by omega,rfl,by rw[show(z+1).toNat-1=z.toNat by omega,HS2.o];exact HQ.o,HKP.o⟩
     case measure=>simp[intOf];omega
   |true=>
     have HS2:Hid (setB f z.toNat=st.add z):=by show _=_;rw[HSN.o,if_pos rfl]
     clear HSN
     by_cases h64:z<=64
     ·have e1:(z-1)/64=0:=by omega
      have e2:(z-1)%64=z-1:=by omega
      obtain⟨A,hA⟩:∃A:Nat,A=st.a|||2^(z.toNat-1):=⟨_,rfl⟩
      have HR:Hid (st.add z=⟨A,st.b⟩):=by
       show _=_;unfold St.add;rw[if_pos (by omega),show(z-1).toNat=z.toNat-1 by omega,hA]
      have hw:IntKind.u64.wrap ((st.a:Int)+IntKind.u64.wrap ((2:Int)^(z.toNat-1)))=(A:Int):=by rw[hA];exact add_pow (HALT.o h64) (by omega)
      have HW:=lh hw;clear hA hw;go_wp2_with fail;rw[HW.o];refine⟨⟨z+1,by omega,by omega,rfl,by rw[show(z+1).toNat-1=z.toNat by omega,HS2.o,HR.o];exact HQ.o.set 0 _,HKP.o.trans (Kp.setCell _ _ _ rfl)⟩,by simp[intOf];omega⟩
     have e1:(z-1)/64=1:=by omega
     have e2:(z-1)%64=z-65:=by omega
     have hz65:65<=z:=by omega
     obtain⟨A,hA⟩:∃A:Nat,A=st.b|||2^(z-65).toNat:=⟨_,rfl⟩
     have HR:Hid (st.add z=⟨st.a,A⟩):=by
      show _=_;unfold St.add;rw[if_neg (by omega),if_pos (by omega),hA]
     have hw:IntKind.u64.wrap ((st.b:Int)+IntKind.u64.wrap ((2:Int)^(z-65).toNat))=(A:Int):=by
      rw[hA];refine add_pow ?_ (by omega);have:=HBLT.o hz65
      rwa[show z.toNat-1-64=(z-65).toNat by omega]at this
     have HW:=lh hw;clear hA hw;go_wp2_with fail;rw[HW.o];refine⟨⟨z+1,by omega,by omega,rfl,by rw[show(z+1).toNat-1=z.toNat by omega,HS2.o,HR.o];exact HQ.o.set 1 _,HKP.o.trans (Kp.setCell _ _ _ rfl)⟩,by simp[intOf];omega⟩
  have hze:z=(n:Int)+1:=by omega
  subst hze
  obtain⟨pk,hpk⟩:∃pk:Nat,pk=k*(n+1):=⟨_,rfl⟩
  have hpi:(k:Int)*((n:Int)+1)=(pk:Int):=by rw[hpk];push_cast;rfl
  have hpb:pk+n<8*bs.length:=by rw[hpk];exact HML.o
  have hpb2:pk<=2064:=by
   rw[hpk];have h1:k*(n+1)<=16*(n+1):=Nat.mul_le_mul_right _ (by omega);omega
  have hprod:IntKind.i64.wrap ((k:Int)*((n:Int)+1))=(pk:Int):=by rw[hpi];exact IntWalk.i64_in _ (by omega)
  have HBT:=lh (bit_any a cap bs (pk+n) wi hl (HX.o.keep HBI.o) (by omega));rw[show((pk+n:Nat):Int)=(pk:Int)+(n:Int)by omega]at HBT;have hq:=HQ.o;rw[show((n:Int)+1).toNat-1=n by omega]at hq;have HQ2:=lh hq
  have HP5:Hid (prAt bs n k=⟨setB f n,bitN bs (pk+n)⟩):=by show _=_;rw[ybh,HF.o,hpk]
  have hLk:((zbr bs n m).take k).length=k:=by rw[List.length_take,zb8];omega
  have HLK:=lh hLk;have HTK:=lh (zs0 bs n m k hlt);have HOI:Hid (OwnP5 wi w.heap.size (.slice va k vc) ((zbr bs n m).take k)):=(HO.o.later HBX.o).kept HKP.o (fun y hy e=>by have:=(World.ownsRow.lt HO.o y hy).2;have:=HBE.o;omega);clear hpk hpi hq hLk;generalize bitN bs (pk+n)=x at*;generalize prAt bs n k=P at*;generalize(zbr bs n m).take k=L at*;generalize setB f n=st at*;go_wp2_with fail;clear hprod;refine HBT.o.mono ?_;rintro e w'⟨rfl,rfl⟩;have q2:=HQ2.o.cell 2;have qf2:=HQ2.o.fr 2;have ql:=HQ2.o.lt;have hq7:Blk (wi.setCell ⟨bp,2,none⟩ (.bool x)) bp #[.int .u64 (st.a:Int),.int .u64 (st.b:Int),.bool x] 94:=HQ2.o.set 2 _
  have hk7:Kp (fun y=>y=bp) wi (wi.setCell ⟨bp,2,none⟩ (.bool x)):=Kp.setCell _ _ _ rfl;have HO7:=lh (HOI.o.kept hk7 (fun y hy e=>by have:=(World.ownsRow.lt HO.o y hy).2;have:=HBE.o;omega));have HB7:Hid (Below w.heap.size w (wi.setCell ⟨bp,2,none⟩ (.bool x))):=HBI.o.trans (hk7.toBelow HBI.o.size (fun y hy e=>by have:=HBP.o;omega));have d0:=hq7.cell 0;have d1:=hq7.cell 1;have d2:=hq7.cell 2;have dz:=hq7.lt;have HPE:Hid (P=⟨st,x⟩):=HP5.o
  have HLN:Hid (L.length<=1073741824):=by show _<=_;rw[HLK.o];omega
  have HZ7:Hid (w.heap.size<=(wi.setCell ⟨bp,2,none⟩ (.bool x)).heap.size):=HB7.o.size;clear hq7 hk7
  go_upto_region 14 with fail
  clear q2 qf2 ql;generalize wi.setCell ⟨bp,2,none⟩ (.bool x)=w7 at*;go_wp2_with(at_builtin;go_loud(refine zlx (C:=#[.int .u64 (st.a:Int),.int .u64 (st.b:Int),.bool x]) elemPr5 rfl _ _ rfl w.heap.size (.slice va k vc) L ⟨st,x⟩ rfl HO7.o rfl rfl rfl (zp8 ⟨st,x⟩) HLN.o (by decide) HZ7.o ?_));intro g9 cap9 w9 ho9 hg9 _;have HB9:Hid (Below w.heap.size w w9):=HB7.o.grown hg9 HZ7.o (fun q hq=>(World.ownsRow.lt HO7.o q hq).1);rw[HLK.o]at ho9⊢;have HO9:=lh ho9;clear ho9 hg9 d0 d1 d2 dz;go_wp2;go_roundw
  case rel=>exact⟨k+1,some ⟨g9,0,none⟩,cap9,by omega,by go_num,rfl,by rw[HTK.o,HPE.o];exact HO9.o,HB9.o⟩
  case measure=>simp[intOf];omega
 have hke:k=m:=by omega
 subst hke;have HO:=lh hown;have HB:=lh hb;rw[List.take_of_length_le (by rw[zb8];exact Nat.le_refl _)]at HO;clear hown hb;go_wp2;go_ret2;unfold Pars5Post;rw[zb8];exact⟨_,_,rfl,HO.o,HB.o⟩
end Go.Proofs.YtnlaakmglhjjmaaGreatDoor
