/- Parts of the proofs of laws. Texts: NatT, Kb. -/
import Derived.Test.YtnlaakmglhjjmaaGreatDoorYC39
set_option maxHeartbeats 8000000
set_option maxRecDepth 100000
set_option linter.all false
namespace Go.Proofs.YtnlaakmglhjjmaaGreatDoor
open Go.RowKit Cen
theorem Q8y_one(x:Nat):∀u∈Q8y x,u.oneCell'=true:=by intro u hu;simp[Q8y]at hu;subst hu;rfl
def decL(x:Nat):List UInt8:=if x=0 then[48]else(digs 10 x).reverse.map fun d=>UInt8.ofNat (48+d)
def decB(x:Nat):ByteArray:=⟨(decL x).toArray⟩
def dgL(m x:Nat):List Nat:=(digP 10 m x).map (48+·)
theorem dgL_len(m x:Nat):(dgL m x).length=m:=by unfold dgL;rw[List.length_map,digP_len]
theorem digP_snoc(B n x:Nat):digP B (n+1) x=digP B n x++[x/B^n%B]:=by unfold digP;rw[List.range_succ,List.map_append];rfl
theorem dgL_snoc(m x:Nat):dgL (m+1) x=dgL m x++[48+x/10^m%10]:=by unfold dgL;rw[digP_snoc,List.map_append];rfl
theorem OwnCw.cut{w:World}{base g n c y:Nat}(h:OwnCw w base g (n+1) c y):OwnCw w base g n c y:=by
 unfold OwnCw at h⊢;rw[digP_snoc]at h;exact OwnL.cutL Q32_len (by simp[digP_len]) (digP_len _ _ _).symm h
theorem top_word{y n:Nat}(h:y<W32^(n+1))(h0:y/W32^n%W32=0):y<W32^n:=by
 have h1:y/W32^n<W32:=by rw[Nat.div_lt_iff_lt_mul (Nat.pow_pos (by decide)),Nat.mul_comm,<-Nat.pow_succ];exact h
 rw[Nat.mod_eq_of_lt h1]at h0
 rcases Nat.div_eq_zero_iff.1 h0 with h2|h2
 ·exact absurd h2 (Nat.ne_of_gt (Nat.pow_pos (by decide)))
 exact h2
theorem dec_room{x m:Nat}(hx:nB x<=1000000)(h:m=0\/x/10^(m-1)≠0):m<=3000000:=by
 rcases h with h|h
 ·omega
 refine Nat.le_of_not_lt fun hm=>h ?_
 have h1:x<256^nB x:=(digs_ndg (B:=256) (by decide) x).2.1
 have h2:256^nB x<=10^(m-1):=by
  refine Nat.le_trans (Nat.pow_le_pow_left (show 256<=10^3 by decide) _) ?_;rw[<-Nat.pow_mul];exact Nat.pow_le_pow_right (by decide) (by omega)
 exact Nat.div_eq_of_lt (Nat.lt_of_lt_of_le h1 h2)
theorem dec_end{x m:Nat}(h0:x/10^m=0)(h:m=0\/x/10^(m-1)≠0):digs 10 x=digP 10 m x/\(m=0↔x=0):=by
 have hlt:x<10^m:=by
  rcases Nat.div_eq_zero_iff.1 h0 with h2|h2
  ·exact absurd h2 (Nat.ne_of_gt (Nat.pow_pos (by decide)))
  exact h2
 refine⟨digs_eq (by decide) hlt ?_,?_⟩
 ·rcases h with h|h
  ·exact .inl h
  by_cases hm:m=0
  ·exact .inl hm
  refine .inr fun e=>h ?_
  have h1:x/10^(m-1)<10:=by
   rw[Nat.div_lt_iff_lt_mul (Nat.pow_pos (by decide)),Nat.mul_comm,<-Nat.pow_succ];rw[show(m-1).succ=m by omega];exact hlt
  rwa[Nat.mod_eq_of_lt h1]at e
 constructor
 ·intro e;subst e;simpa using hlt
 intro e;subst e
 rcases h with h|h
 ·exact h
 simp at h
structure ChS(x m y k part:Nat):Prop where
 eq:x/10^m=y
 pa:part=y%1000000000/10^k
 k9:k<=9
 top:m+k=0\/x/10^(m+k-1)≠0
theorem ChS.at{x m y k part:Nat}(h:ChS x m y k part):x/10^(m+k)=y/10^k:=by rw[Nat.pow_add,<-Nat.div_div_eq_div_mul,h.eq]
theorem ten9{k:Nat}(h:k<=9):1000000000=10^k*10^(9-k):=by rw[<-Nat.pow_add,show k+(9-k)=9 by omega]
theorem ChS.digit{x m y k part:Nat}(h:ChS x m y k part)(hk:k<9):part%10=x/10^(m+k)%10:=by
 rw[h.at,h.pa,ten9 h.k9,Nat.mod_mul_right_div_self,show 9-k=8-k+1 by omega,Nat.pow_succ',Nat.mod_mul_right_mod]
theorem ChS.step{x m y k part:Nat}(h:ChS x m y k part)(hk:k<9)(hp:y/1000000000≠0\/part≠0):ChS x m y (k+1) (part/10):=by
 refine⟨h.eq,by rw[h.pa,Nat.div_div_eq_div_mul,<-Nat.pow_succ],by omega,.inr ?_⟩;rw[show m+(k+1)-1=m+k by omega,h.at];intro e
 rcases hp with hp|hp
 ·apply hp
  rw[ten9 h.k9,<-Nat.div_div_eq_div_mul,e,Nat.zero_div]
 apply hp
 rw[h.pa];have h1:y%1000000000/10^k<=y/10^k:=Nat.div_le_div_right (Nat.mod_le _ _);rw[e]at h1;exact Nat.le_zero.1 h1
theorem ChS.done{x m y k part:Nat}(h:ChS x m y k part)(hd:k=9\/(y/1000000000=0/\part=0)):x/10^(m+k)=y/1000000000:=by
 rw[h.at]
 rcases hd with rfl|⟨h1,h2⟩
 ·rfl
 rw[h1];have hy:y%1000000000=y:=Nat.mod_eq_of_lt (by omega);rw[<-hy,<-h.pa,h2]
theorem ChS.more{x m y k part:Nat}(h:ChS x m y k part)(hd:k=9\/(y/1000000000=0/\part=0))(hy:y≠0):0<k:=by
 rcases hd with rfl|⟨h1,h2⟩
 ·decide
 refine Nat.pos_of_ne_zero fun e=>hy ?_
 subst e;have:=h.pa;rw[h2,Nat.pow_zero,Nat.div_one,Nat.mod_eq_of_lt (by omega)]at this;exact this.symm
theorem Q8y_rd{w:World}{base m x:Nat}{oa:Option Addr}{oc:Nat}(h:OwnL Q8y 5 1 w base (.slice oa m oc) (dgL m x)):∀i,i<m->∃b,oa=some ⟨b,0,none⟩/\w.cell? ⟨b,i,none⟩=some (.int .u8 ((48+x/10^i%10:Nat):Int)):=fun i hi=>by
 rcases h.shape with⟨_,h2⟩|⟨g,cap,h1,_⟩
 ·have:=congrArg List.length h2;rw[dgL_len]at this;simp at this;omega
 simp only[Value.slice.injEq]at h1;obtain⟨rfl,_,_⟩:=h1;refine⟨g,rfl,?_⟩;have:=OwnL.cell (dgL_len _ _).symm h Q8y_len i 0 (by rw[dgL_len];exact hi) (by omega)
 simp[Q8y,dgL,digP]at this
 simpa using this
def lenV:Value->Nat
 |.slice _ n _=>n
 |_=>0
def TxR(x L g:Nat)(w:World)(v3 v4:Value)(wr:World):Prop:=∃(n y m:Nat)(oa:Option Addr)(oc:Nat),v3=.slice (some ⟨g,0,none⟩) n L/\OwnCw wr w.heap.size g n L y/\n<=L/\y<W32^n/\(n=0\/y/W32^(n-1)%W32≠0)/\x/10^m=y/\(m=0\/x/10^(m-1)≠0)/\
 v4=.slice oa m oc/\OwnL Q8y 5 1 wr (g+1) (.slice oa m oc) (dgL m x)/\Below w.heap.size w wr
theorem gtext_any(x:Nat)(hx:nB x<=1000000)(w:World):Calls Tryz.prog 16 #[natG x] w fun e w'=>e=.returned (.string (decB x))/\Below w.heap.size w w':=by
 have hwx:=fun V=>gwords_any x hx V
 have hlx:=nW_lt x;have hLx:=nW_le hx;have HRM:=lh (fun m h=>dec_room (x:=x) (m:=m) hx h)
 have HTW:Hid (nW x=0\/x/W32^(nW x-1)%W32≠0):=by
  have h:=(digs_ndg (B:=256) (by decide) x).2.2
  show _\/_
  by_cases h0:nW x=0
  ·exact .inl h0
  refine .inr fun e=>?_
  have h1:x<W32^(nW x-1):=top_word (n:=nW x-1) (by rw[show nW x-1+1=nW x by omega];exact hlx) e
  have h2:x<256^(4*(nW x-1)):=by rw[<-pow_words];exact h1
  have h3:=ndg_le (by decide) h2;unfold nW nB at h0 h3;omega
 unfold natG WPost at hwx;rw[show natG x=.agg #[.string (bytesG x)]from rfl];obtain⟨w0,hw0⟩:=nm (w.alloc (.cells #[.string (bytesG x)] 36))
 have hb0:Below w.heap.size w w0:=by rw[hw0];exact ba _ _
 have q0:Blk w0 w.heap.size #[.string (bytesG x)] 36:=by rw[hw0];exact Blk.new _ _ _
 generalize bytesG x=s at*;generalize nW x=L at*;have HWX:=lh hwx;have HLX:=lh hlx;have k0:=q0.cell 0;have kz:=q0.lt;have HB0:=lh hb0;clear hwx hlx hx hb0 q0;go_enter Tryz.func16,Tryz.ntmps16;go_wp2_with fail;rw[<-hw0];clear hw0;refine(HWX.o _).mono ?_;rintro e w1⟨g,rfl,ho1,hb1⟩;have HO1:=lh (ho1.c);have HGZ:=lh ho1.lt;have HB1:=bt HB0 hb1;have HZ0:=lh HB0.o.size;clear hb1 ho1 k0 kz HWX;go_wp2_with fail
 go_loopw[3,4](fun v3 v4 wr=>TxR x L g w v3 v4 wr)(fun _ v4 _=>3000001-lenV v4)
 case atStart=>exact⟨L,x,0,none,0,rfl,OwnL.lower HO1.o HZ0.o,Nat.le_refl _,HLX.o,HTW.o,by simp,.inl rfl,rfl,OwnL.nil _ _,HB1.o⟩
 obtain⟨n,y,m,oa,oc,rfl,ho,hnL,hyn,htop,hxm,hm,rfl,hout,hb⟩:=hrel;have HO:=lh ho;have HYN:=lh hyn;have HXM:=lh hxm;have HM:=lh hm;have HOUT:=lh hout;have HB:=lh hb;have hm3:=HRM.o m hm
 by_cases hn0:n=0
 ·subst hn0
  have hyz:y=0:=by simpa using hyn
  subst hyz;obtain⟨hde,hmz⟩:=dec_end hxm hm;have HDE:=lh hde;have HMZ:=lh hmz;have HRD:=lh (Q8y_rd hout);clear htop ho hyn hxm hm hout hb hde hmz;obtain⟨bb,hbb⟩:=nm wr.heap.size;obtain⟨w5,hw5⟩:=nm (wr.alloc (.cells #[.pointer none,.slice none 0 0] 102))
  have HS5:Hid (SBld bb bb [] w5):=by rw[hw5];exact SBld.fresh wr hbb.symm
  have HB5:Hid (Below wr.heap.size wr w5):=by show Below _ _ _;rw[hw5];exact ba _ _
  have HBB:=lh hbb;go_wp2_with fail;rw[<-hw5,<-hbb];clear hw5 hbb
  go_loopw[8](fun v wi=>∃c:Nat,c<=m/\v=.int .i64 ((c:Int)-1)/\SBld bb bb (Lib.byteCells (((dgL m x).reverse.take (m-c)).map UInt8.ofNat)) wi/\Below wr.heap.size wr wi)(fun v _=>((intOf v)+1).toNat)
  case atStart=>exact⟨m,Nat.le_refl _,rfl,by simpa[Lib.byteCells]using HS5.o,HB5.o⟩
  rename World=>wi
  obtain⟨c,hc,rfl,hsb,hbi⟩:=hrel;have HSB:=lh hsb;have HBI:=lh hbi;clear hsb hbi
  cases c with
  |zero=>
    have HL2:Hid ((dgL m x).reverse.take (m-0)=(dgL m x).reverse):=by show _=_;rw[Nat.sub_zero,List.take_of_length_le (by rw[List.length_reverse,dgL_len];exact Nat.le_refl _)]
    rw[HL2.o]at HSB;have HBW:=lh (HB.o.trans (HBI.o.mono HB.o.size))
    by_cases hm0:m=0
    ·have hx0:=HMZ.o.1 hm0
     have HXZ:Hid (decB x=⟨#[48]⟩):=by show _=_;unfold decB decL;rw[if_pos hx0]
     have hmi:(m:Int)=0:=by omega
     clear hm0 hx0;go_wp2_with fail;go_ret;exact⟨by rw[HXZ.o];rfl,HBW.o⟩
    have hx0:x≠0:=fun e=>hm0 (HMZ.o.2 e)
    have HXZ:Hid (decB x=⟨((dgL m x).map UInt8.ofNat).reverse.toArray⟩):=by
     show _=_
     rw[<-List.map_reverse];unfold decB decL dgL;rw[if_neg hx0,HDE.o,<-List.map_reverse,List.map_map];rfl
    have hmd:((m:Int)==0)=false:=by simp;omega
    clear hm0 hx0;go_wp2_with fail;refine(Tryz.Builder_String_any bb bb _ _ HSB.o (by rw[HBB.o];exact HBI.o.size)).mono ?_;rintro e w6⟨rfl,hb6⟩;have HB6:=lh hb6;clear hb6;go_wp2;go_ret;exact⟨by rw[HXZ.o];rfl,HBW.o.trans (HB6.o.mono (by rw[HBB.o];exact HB.o.size))⟩
  |succ c=>
    obtain⟨b2,hoa,hc2⟩:=HRD.o c (by omega);have c0:=zab HBI.o hc2;have cz:=zai c0
    have hci:(c:Int)<(m:Int):=by omega
    have hd8:48+x/10^c%10<256:=by have:=Nat.mod_lt (x/10^c) (show 0<10 by decide);omega
    have HTK:Hid (((dgL m x).reverse.take (m-c)).map UInt8.ofNat=((dgL m x).reverse.take (m-(c+1))).map UInt8.ofNat++[UInt8.ofNat (48+x/10^c%10)]):=by
     show _=_
     have hcm:c<m:=by omega
     rw[show m-c=m-(c+1)+1 by omega,List.take_succ_eq_append_getElem (by rw[List.length_reverse,dgL_len];omega),List.map_append]
     congr 1
     rw[List.getElem_reverse];simp only[dgL_len,List.map_cons,List.map_nil]
     congr 2
     unfold dgL;rw[List.getElem_map]
     congr 1
     have h:=digP_get 10 x hcm;rw[List.getElem?_eq_getElem (by rw[digP_len];exact hcm)]at h;have h2:=Option.some.inj h;rw[<-h2]
     congr 1
     omega
    have HWB:=lh (writeByte_any bb bb _ (48+x/10^c%10) wi HSB.o (by rw[Lib.byteCells_length,List.length_map];have:=List.length_take_le (m-(c+1)) (dgL m x).reverse;omega) (by rw[HBB.o];exact HBI.o.size))
    have HNX:Hid (∀w',SBld bb bb (Lib.byteCells (((dgL m x).reverse.take (m-(c+1))).map UInt8.ofNat)++[.int .u8 ((48+x/10^c%10:Nat):Int)]) w'->SBld bb bb (Lib.byteCells (((dgL m x).reverse.take (m-c)).map UInt8.ofNat)) w'):=fun w' h=>by
     rw[HTK.o];unfold Lib.byteCells at h⊢;rw[List.map_append]
     simpa[Nat.mod_eq_of_lt hd8]using h
    generalize 48+x/10^c%10=d at*;subst hoa
    have hcc:((c+1:Nat):Int)-1=(c:Int):=by omega
    clear hc2 HTK hd8;go_wp2_with fail;refine HWB.o.mono ?_;rintro e w6⟨⟨v6,rfl⟩,hs6,hb6⟩;have HS6:=lh (HNX.o _ hs6);have HB6:=lh (HBI.o.trans (by rw[<-HBB.o];exact hb6));clear hs6 hb6 c0 cz;go_wp2_with fail;go_roundw
    case rel=>exact⟨c,by omega,by go_num,HS6.o,HB6.o⟩
    case measure=>simp[intOf]
 have hni:(0:Int)<(n:Int):=by omega
 have hy0:y≠0:=by
  intro e;subst e
  rcases htop with h|h
  ·exact hn0 h
  simp at h
 have HY0:=lh hy0;have HSH:=lh (gshrink_any g n L 1000000000 y w.heap.size wr (by omega) hyn (by decide) (by decide) ho);clear htop ho hyn hxm hm hout hb hy0;go_wp2_with fail;refine HSH.o.mono ?_;rintro e w2⟨rfl,ho2,hk2⟩;have hyq:y/1000000000<W32^n:=Nat.lt_of_le_of_lt (Nat.div_le_self _ _) HYN.o;have HO2:=lh ho2;have HYQ:=lh hyq;have HGG:=lh HO.o.lt;have HB2:Hid (Below w.heap.size w w2):=HB.o.trans (hk2.toBelow HB.o.size (fun j hj e=>by have:=HGG.o.2;omega));have HOUT2:=lh (HOUT.o.kept hk2 (fun j hj e=>by have:=(World.ownsRow.lt HOUT.o j hj).1;omega))
 have HCH:Hid (ChS x m y 0 (y%1000000000)):=⟨HXM.o,by rw[Nat.pow_zero,Nat.div_one],Nat.zero_le _,HM.o⟩
 have hp32:((y%1000000000:Nat):Int)<4294967296:=by omega
 generalize y%1000000000=P0 at*;clear ho2 hk2 hyq HSH HO HB HOUT;go_wp2_with fail
 obtain⟨wq,rfl⟩:∃wq:World,wq=w2:=⟨_,rfl⟩
 go_loopw[3](fun v wr=>∃q:Nat,q<=n/\v=.slice (some ⟨g,0,none⟩) q L/\OwnCw wq w.heap.size g q L (y/1000000000)/\y/1000000000<W32^q/\wr=wq)(fun v _=>lenV v)
 case atStart=>exact⟨n,Nat.le_refl _,rfl,HO2.o,HYQ.o,rfl⟩
 obtain⟨q,hqn,rfl,hoq,hyq,hwq⟩:=hrel;obtain rfl:wq=wr:=hwq.symm;obtain⟨Y1,hY1⟩:=nm (y/1000000000);rw[<-hY1]at hoq hyq;have HY1:=lh hY1;obtain⟨B,hB⟩:=nm (decide (q≠0/\Y1/W32^(q-1)%W32=0));have HBB:=lh hB;have HOQ:=lh hoq;have HYQ2:=lh hyq
 have hqL:q<=250000:=by omega
 have HQN:Hid (q<=n):=hqn;clear hY1 hB hoq hyq hqn hwq
 go_upto_region 5 with fail
 go_cut[27](fun v wx=>v=.bool B/\wx=wq)
 case first=>
  cases q with
  |zero=>
    have hb:B=false:=by rw[HBB.o];simp
    clear HBB;subst hb;go_wp2_with fail
    go_meet
    exact⟨rfl,rfl⟩
  |succ q=>
    have c0:=HOQ.o.cell (k:=q) (by omega);have gz:=HOQ.o.lt.1
    have hqi:(q:Int)+1<=(L:Int):=by have:=HQN.o;omega
    have hb:B=decide (Y1/W32^q%W32=0):=by rw[HBB.o];simp
    clear HBB;generalize Y1/W32^q%W32=D at c0 hb
    by_cases h0:D=0
    ·subst h0
     obtain rfl:B=true:=by rw[hb];rfl
     clear hb;go_wp2_with fail
     go_meet
     exact⟨rfl,rfl⟩
    have h0d:((D:Int)==0)=false:=by simpa using h0
    obtain rfl:B=false:=by rw[hb];simpa using h0
    clear hb h0;go_wp2_with fail
    go_meet
    exact⟨rfl,rfl⟩
 obtain⟨rfl,hwc⟩:=hcut
 rename World=>wc
 obtain rfl:wq=wc:=hwc.symm
 cases hbb:B with
 |true=>
   rw[HBB.o,decide_eq_true_eq]at hbb
   obtain⟨q,rfl⟩:∃r,q=r+1:=⟨q-1,by omega⟩
   have HT:=lh (top_word HYQ2.o hbb.2);have HOC:=lh HOQ.o.cut
   have hqi:(q:Int)+1<=(L:Int):=by have:=HQN.o;omega
   have HQN2:Hid (q<=n):=by show _<=_;have:=HQN.o;omega
   rw[HY1.o]at HT HOC;clear hbb;go_wp2_with fail;exact⟨⟨q,HQN2.o,rfl,HOC.o,HT.o,by first|rfl|trivial⟩,by simp[lenV]⟩
 |false=>
   have HTP:Hid (q=0\/Y1/W32^(q-1)%W32≠0):=by
    rw[HBB.o,decide_eq_false_iff_not]at hbb
    show _\/_
    by_cases h:q=0
    ·exact .inl h
    exact .inr fun e=>hbb ⟨h,e⟩
   have HYZ:Hid (q=0->Y1=0):=fun e=>by
    have h:=HYQ2.o;rw[e,Nat.pow_zero]at h;omega
   clear hbb HBB;go_wp2_with fail
   go_loopw[4,5,6](fun v4 v5 v6 wi=>∃(k part:Nat)(sa:Option Addr)(sc:Nat),v6=.int .i64 k/\v5=.int .u32 part/\v4=.slice sa (m+k) sc/\OwnL Q8y 5 1 wi (g+1) (.slice sa (m+k) sc) (dgL (m+k) x)/\ChS x m y k part/\OwnCw wi w.heap.size g q L Y1/\Below w.heap.size w wi)(fun _ _ v6 _=>9-(intOf v6).toNat)
   case atStart=>exact⟨0,P0,oa,oc,rfl,rfl,rfl,HOUT2.o,HCH.o,HOQ.o,HB2.o⟩
   rename World=>wi
   obtain⟨k,part,sa,sc,rfl,rfl,rfl,hso,hch,hoq,hbi⟩:=hrel;have HSO:=lh hso;have HC:=lh hch;have HOI:=lh hoq;have HBI:=lh hbi;have hk9:=hch.k9;have hmk:=HRM.o (m+k) hch.top;obtain⟨C,hC⟩:=nm (decide (k<9/\(q≠0\/part≠0)));have HCC:=lh hC
   have hp9:part<4294967296:=by
    rw[hch.pa];exact Nat.lt_of_le_of_lt (Nat.div_le_self _ _) (Nat.lt_of_lt_of_le (Nat.mod_lt _ (by decide)) (by decide))
   have hpi:(part:Int)<4294967296:=by omega
   clear hso hch hoq hbi hC
   go_upto_region 8 with fail
   go_cut[43](fun v wx=>v=.bool C/\wx=wi)
   case first=>
    clear hp9 hpi hmk hk9 hp32 hm3 hnL hni hn0
    by_cases h9:k<9
    ·have h9i:(k:Int)<9:=by omega
     by_cases hq:q=0
     ·have hqi:decide ((0:Int)<(q:Int))=false:=by simp;omega
      have hqj:decide (0<q)=false:=by simp;omega
      by_cases hp:part=0
      ·have hpj:decide ((0:Int)<(part:Int))=false:=by simp;omega
       have hpk:decide (0<part)=false:=by simp;omega
       obtain rfl:C=false:=by rw[HCC.o];simp[hq,hp]
       clear h9 hq hp;go_wp2_with fail
       go_meet
       exact⟨rfl,rfl⟩
      have hpj:decide ((0:Int)<(part:Int))=true:=by simp;omega
      have hpk:decide (0<part)=true:=by simp;omega
      obtain rfl:C=true:=by rw[HCC.o];simp[h9,hp]
      clear h9 hq hp;go_wp2_with fail
      go_meet
      exact⟨rfl,rfl⟩
     have hqi:decide ((0:Int)<(q:Int))=true:=by simp;omega
     have hqj:decide (0<q)=true:=by simp;omega
     obtain rfl:C=true:=by rw[HCC.o];simp[h9,hq]
     clear h9 hq;go_wp2_with fail
     go_meet
     exact⟨rfl,rfl⟩
    have h9i:¬((k:Int)<9):=by omega
    obtain rfl:C=false:=by rw[HCC.o];simp[h9]
    clear h9;go_wp2_with fail
    go_meet
    exact⟨rfl,rfl⟩
   obtain⟨rfl,hwc⟩:=hcut
   rename World=>wd
   obtain rfl:wi=wd:=hwc.symm
   cases hcc:C with
   |true=>
     rw[HCC.o,decide_eq_true_eq]at hcc
     have HST:=lh (HC.o.step hcc.1 (by
      rcases hcc.2 with h|h
      ·refine .inl ?_;rw[<-HY1.o];intro e
       rcases HTP.o with h2|h2
       ·exact h h2
       rw[e]at h2;simp at h2
      exact .inr h))
     have HDG:=lh (HC.o.digit hcc.1);have hk8:k<9:=hcc.1
     have HSN:Hid (dgL (m+(k+1)) x=dgL (m+k) x++[48+part%10]):=by show _=_;rw[<-Nat.add_assoc,dgL_snoc,HDG.o]
     have HLL:Hid ((dgL (m+k) x).length=m+k):=dgL_len _ _;generalize dgL (m+k) x=DL at*
     have HLN:Hid (DL.length<=1073741824):=by show _<=_;rw[HLL.o];omega
     have HGI:Hid (g+1<=wi.heap.size):=HOI.o.lt.1;clear hcc HCC
     have hpi2:(part:Int)<=999999999:=by
      have h:part<1000000000:=by rw[HC.o.pa];exact Nat.lt_of_le_of_lt (Nat.div_le_self _ _) (Nat.mod_lt _ (by decide))
      omega
     have hk8i:(k:Int)<=8:=by omega
     clear hp9 hpi hp32 hk9 hk8 hnL hni hn0
     have hp10:(part:Int)%10<=9:=by omega
     have hp11:(0:Int)<=(part:Int)%10:=by omega
     have hpx:(48+(part:Int)%10)%256=48+(part:Int)%10:=by omega
     go_wp2_with(at_builtin;go_loud(refine zlx (C:=#[.int .u8 (48+(part:Int)%10)]) elem8 rfl _ _ rfl (g+1) (.slice sa (m+k) sc) DL (48+part%10) rfl HSO.o rfl rfl rfl (Q8y_one (48+part%10)) HLN.o (by decide) HGI.o ?_));intro g5 cap5 w5 ho5 hg5 hgn5;rw[HLL.o]at ho5⊢;have HO5:=lh ho5
     have hge:∀j,(Value.slice sa (m+k) sc).ownBlock=some j->g+1<=j:=fun j hj=>(World.ownsRow.lt HSO.o j hj).1
     have HOK5:=lh (HOI.o.kept (Kp.grown (M:=fun j=>(Value.slice sa (m+k) sc).ownBlock=some j) hg5 (fun j e=>e)) (fun e=>by have:=hge _ e;omega));have HB5:Hid (Below w.heap.size w w5):=HBI.o.grown hg5 HBI.o.size (fun j hj=>by have:=hge j hj;have:=HOI.o.lt.2;omega)
     have HSN5:Hid (OwnL Q8y 5 1 w5 (g+1) (.slice (some ⟨g5,0,none⟩) (m+(k+1)) cap5) (dgL (m+(k+1)) x)):=by rw[HSN.o];exact HO5.o
     have hq2:IntKind.u32.wrap ((part:Int).tdiv 10)=((part/10:Nat):Int):=by
      rw[Int.tdiv_eq_ediv_of_nonneg (by omega)]
      simp[IntKind.wrap,IntKind.bits,IntKind.signed]
      omega
     clear ho5 hg5 hgn5 hge;go_wp2_with fail;go_roundw
     case rel=>exact⟨k+1,part/10,some ⟨g5,0,none⟩,cap5,by go_num,by first|rfl|simp,rfl,HSN5.o,HST.o,HOK5.o,HB5.o⟩
     case measure=>simp[intOf];omega
   |false=>
     rw[HCC.o,decide_eq_false_iff_not]at hcc
     have hd:k=9\/(y/1000000000=0/\part=0):=by
      by_cases h9:k=9
      ·exact .inl h9
      refine .inr ⟨?_,?_⟩
      ·rw[<-HY1.o];exact HYZ.o (Classical.byContradiction fun h=>hcc ⟨by omega,.inl h⟩)
      exact Classical.byContradiction fun h=>hcc ⟨by omega,.inr h⟩
     have HDN:=lh (HC.o.done hd);have HMR:=lh (HC.o.more hd HY0.o);have HTOP:=lh HC.o.top;rw[<-HY1.o]at HDN
     have HQL:Hid (q<=L):=by show _<=_;have:=HQN.o;omega
     clear hcc hd HCC;go_wp2_with fail;refine⟨⟨q,Y1,m+k,sa,sc,rfl,HOI.o,HQL.o,HYQ2.o,HTP.o,HDN.o,HTOP.o,rfl,HSO.o,HBI.o⟩,?_⟩;have:=HMR.o
     simp[lenV]
     omega
theorem mkRoom{ops:Array Oper}{rest:List Oper}{o:Oper}{a:Act}{Q:Exit->Act->World->Prop}{w:World}{t e k bytes:Nat}{z:Value}(E:Elem t e k bytes z)(hg:o.guard=none)(l c:Operand)(hop:o.op=Op.makeSlice t l c)(base:Nat)(kl kc:IntKind)(C:Int)(n:Nat)
 (hl:a.eval l=.int kl 0)(hc:a.eval c=.int kc C)(hC:C=(n:Int))(b2:bytes*n<=281474976710656)(b3:n<=maxLen)(b4:base<=w.heap.size){α:Type}(enc:α->List Value)
 (h:∀w',OwnL enc e k w' base (.slice (some ⟨w.heap.size,0,none⟩) 0 n) []->w.grownBy w' none->wpList Tryz.prog ops Q rest (a.put o.dst (.slice (some ⟨w.heap.size,0,none⟩) 0 n)) w'):
 wpList Tryz.prog ops Q (o::rest) a w:=by
 obtain⟨ht,i,hi,hzz,hsz,hby,hzs,h0⟩:=E
 exact wpList_make_own w hg l c t hop base e i z k ht hi hzz hsz kl kc C n hl hc hC (by rw[hby];exact b2) b3 b4 fun w' h1 h2=>h w' h1 h2
def DgI(w:World)(a:Option Addr)(m x:Nat):Prop:=∀i,i<m->∃b off,a=some ⟨b,off,none⟩/\w.cell? ⟨b,off+i,none⟩=some (.int .i64 ((x/10^i%10:Nat):Int))
theorem DgI.keep{w w':World}{a:Option Addr}{m x:Nat}(h:DgI w a m x)(hb:Below w.heap.size w w'):DgI w' a m x:=fun i hi=>let⟨b,off,e,c⟩:=h i hi;⟨b,off,e,zab hb c⟩
theorem dec_digs{x n:Nat}(hx:x<10^n)(h0:n=1\/(1<n/\x/10^(n-1)%10≠0)):decL x=(digP 10 n x).reverse.map fun d=>UInt8.ofNat (48+d):=by
 unfold decL
 split
 ·rename_i e
  subst e
  rcases h0 with rfl|⟨_,h⟩
  ·decide
  simp at h
 rename_i hne
 rw[digs_eq (by decide) hx]
 rcases h0 with rfl|⟨h1,h2⟩
 ·refine .inr ?_;rw[Nat.sub_self,Nat.pow_zero,Nat.div_one,Nat.mod_eq_of_lt (by simpa using hx)];exact hne
 exact .inr h2
theorem top_dec{x n:Nat}(h:x<10^(n+1))(h0:x/10^n%10=0):x<10^n:=by
 have h1:x/10^n<10:=by rw[Nat.div_lt_iff_lt_mul (Nat.pow_pos (by decide)),Nat.mul_comm,<-Nat.pow_succ];exact h
 rw[Nat.mod_eq_of_lt h1]at h0
 rcases Nat.div_eq_zero_iff.1 h0 with h2|h2
 ·exact absurd h2 (Nat.ne_of_gt (Nat.pow_pos (by decide)))
 exact h2
theorem conv_q8{w:World}{base:Nat}{l:List Nat}{a:Option Addr}{n c:Nat}(h:OwnL Q8y 5 1 w base (.slice a n c) l)(hn:n=l.length)(h0:0<n):
 (convert 50 9 (.slice a n c)).run Tryz.prog w=.ok (.string ⟨(l.map UInt8.ofNat).toArray⟩) w:=by
 rcases h.shape with⟨_,h2⟩|⟨g,cap,h1,_⟩
 ·subst h2;simp at hn;omega
 simp only[Value.slice.injEq]at h1;obtain⟨rfl,_,_⟩:=h1
 have:=run_convert_bytes_arg (P:=Tryz.prog) w 50 5 rfl rfl g 0 n c (l.map Int.ofNat) (by rw[List.length_map,hn]) (fun i hi=>by
  have hc:=OwnL.cell hn h Q8y_len i 0 (by omega) (by omega);rw[Nat.zero_add];simp only[Q8y,Nat.mul_one,Nat.add_zero,List.getElem?_cons_zero]at hc;rw[hc]
  congr 2
  simp[List.getD_eq_getElem?_getD,show i<l.length by omega]) 9 rfl
 rw[this];have h1:=strOfNums_data (l.map Int.ofNat);rw[List.map_map]at h1;have h2:(fun m:Int=>UInt8.ofNat m.toNat)∘Int.ofNat=UInt8.ofNat:=rfl;rw[h2]at h1
 congr 2
 cases hs:strOfNums (l.map Int.ofNat)with
 |mk d=>
   rw[hs]at h1
   congr 1
   exact Array.toList_inj.1 (by simpa using h1)
theorem form_any(a:Option Addr)(cap m x:Nat)(w:World)(hm:m<=1000000)(hx:x<10^m)(hd:DgI w a m x):Calls Tryz.prog 84 #[.slice a m cap] w fun e w'=>e=.returned (.string (decB x))/\Below w.heap.size w w':=by
 have HX:=lh hx;have HD:=lh hd;clear hx hd;go_enter Tryz.func84,Tryz.ntmps84;go_wp2_with fail
 obtain⟨wq,rfl⟩:∃wq:World,wq=w:=⟨_,rfl⟩
 go_loopw[3](fun v wr=>∃n:Nat,n<=m/\(m=0\/1<=n)/\v=.int .i64 n/\x<10^n/\wr=wq)(fun v _=>(intOf v).toNat)
 case atStart=>exact⟨m,Nat.le_refl _,by omega,rfl,HX.o,rfl⟩
 obtain⟨n,hn,hn1,rfl,hxn,hwq⟩:=hrel;obtain rfl:wq=wr:=hwq.symm;obtain⟨B,hB⟩:=nm (decide (1<n/\x/10^(n-1)%10=0));have HBB:=lh hB;have HXN:=lh hxn;have HN1:=lh hn1
 have hnm:n<=1000000:=by omega
 have HNM:Hid (n<=m):=hn;clear hB hxn hn1 hn hwq
 go_upto_region 2 with fail
 go_cut[17](fun v wx=>v=.bool B/\wx=wq)
 case first=>
  by_cases h1:1<n
  ·have h1i:(1:Int)<(n:Int):=by omega
   obtain⟨k,rfl⟩:∃k,n=k+1:=⟨n-1,by omega⟩
   obtain⟨b,off,rfl,c0⟩:=HD.o k (by have:=HNM.o;omega);have cz:=zai c0
   have hki:(k:Int)+1<=(m:Int):=by have:=HNM.o;omega
   have hb:B=decide (x/10^k%10=0):=by rw[HBB.o];simp[h1]
   clear HBB h1;generalize x/10^k%10=D at c0 hb
   by_cases h0:D=0
   ·subst h0
    obtain rfl:B=true:=by rw[hb];rfl
    clear hb;go_wp2_with fail
    go_meet
    exact⟨rfl,rfl⟩
   have h0d:((D:Int)==0)=false:=by simpa using h0
   obtain rfl:B=false:=by rw[hb];simpa using h0
   clear hb h0;go_wp2_with fail
   go_meet
   exact⟨rfl,rfl⟩
  have h1i:decide ((1:Int)<(n:Int))=false:=by simp;omega
  have h1j:decide (1<n)=false:=by simp;omega
  obtain rfl:B=false:=by rw[HBB.o];simp[h1]
  clear HBB h1;go_wp2_with fail
  go_meet
  exact⟨rfl,rfl⟩
 obtain⟨rfl,hwc⟩:=hcut
 rename World=>wc
 obtain rfl:wq=wc:=hwc.symm
 cases hbb:B with
 |true=>
   rw[HBB.o,decide_eq_true_eq]at hbb
   obtain⟨k,rfl⟩:∃k,n=k+1:=⟨n-1,by omega⟩
   have HT:=lh (top_dec HXN.o hbb.2)
   have HKM:Hid (k<=m):=by show _<=_;have:=HNM.o;omega
   have HK1:Hid (m=0\/1<=k):=by show _\/_;omega
   clear hbb HBB;go_wp2_with fail;exact⟨⟨k,HKM.o,HK1.o,rfl,HT.o,by first|rfl|trivial⟩,by simp[intOf]⟩
 |false=>
   have HTP:Hid (m=0\/n=1\/(1<n/\x/10^(n-1)%10≠0)):=by
    rw[HBB.o,decide_eq_false_iff_not]at hbb
    show _\/_
    have h1:=HN1.o
    by_cases h:1<n
    ·exact .inr (.inr ⟨h,fun e=>hbb ⟨h,e⟩⟩)
    omega
   clear hbb HBB
   have HML:Hid (n<=maxLen):=by show _<=_;unfold maxLen;omega
   go_wp2_with(at_make;go_loud(refine mkRoom elem8 rfl _ _ rfl wq.heap.size .i64 .i64 _ n rfl rfl rfl (by omega) HML.o (Nat.le_refl _) Q8y ?_));intro w1 ho1 hg1;have HB1:Hid (Below wq.heap.size wq w1):=(Below.refl _ _).grown hg1 (Nat.le_refl _) (by simp);have HO1:=lh ho1;clear ho1 hg1;go_wp2_with fail
   have HLR:Hid (∀c,c<=n->((digP 10 n x).reverse.take (n-c)).length=n-c):=fun c _=>by rw[List.length_take,List.length_reverse,digP_len];omega
   obtain⟨R,hR⟩:∃R:Nat->List Nat,R=fun c=>((digP 10 n x).reverse.take (n-c)).map (48+·):=⟨_,rfl⟩
   have HR:=lh hR
   have HRL:Hid (∀c,c<=n->(R c).length=n-c):=fun c hc=>by rw[hR];show(List.map _ _).length=_;rw[List.length_map,HLR.o c hc]
   have HR0:Hid (R n=[]):=by show _=_;rw[hR];simp
   have HRS:Hid (∀c,c<n->R c=R (c+1)++[48+x/10^c%10]):=fun c hc=>by
    rw[hR]
    show List.map _ _=List.map _ _++_
    rw[show n-c=n-(c+1)+1 by omega,List.take_succ_eq_append_getElem (by rw[List.length_reverse,digP_len];omega),List.map_append]
    congr 1
    rw[List.getElem_reverse];simp only[digP_len,List.map_cons,List.map_nil]
    congr 2
    have h:=digP_get 10 x hc;rw[List.getElem?_eq_getElem (by rw[digP_len];exact hc)]at h;rw[<-Option.some.inj h]
    congr 1
    omega
   have HRE:Hid (R 0=(digP 10 n x).reverse.map (48+·)):=by
    show _=_;rw[hR];show List.map _ _=_;rw[Nat.sub_zero,List.take_of_length_le (by rw[List.length_reverse,digP_len];exact Nat.le_refl _)]
   clear hR;have hng:n<=1000000:=hnm
   go_loopw[4,5](fun v4 v5 wi=>∃(c:Nat)(sa:Option Addr)(sc:Nat),c<=n/\v5=.int .i64 ((c:Int)-1)/\v4=.slice sa (n-c) sc/\OwnL Q8y 5 1 wi wq.heap.size (.slice sa (n-c) sc) (R c)/\Below wq.heap.size wq wi)(fun _ v5 _=>((intOf v5)+1).toNat)
   case atStart=>exact⟨n,some ⟨wq.heap.size,0,none⟩,n,Nat.le_refl _,rfl,by rw[Nat.sub_self],by rw[Nat.sub_self,HR0.o];exact HO1.o,HB1.o⟩
   rename World=>wi
   obtain⟨c,sa,sc,hc,rfl,rfl,hso,hbi⟩:=hrel;have HSO:=lh hso;have HBI:=lh hbi;clear hso hbi
   cases c with
   |zero=>
     rw[HRE.o]at HSO;rw[Nat.sub_zero]at HSO⊢
     by_cases h0:n=0
     ·have hx0:x=0:=by have h:=HXN.o;rw[h0,Nat.pow_zero]at h;omega
      have HXZ:Hid (decB x=⟨#[48]⟩):=by show _=_;unfold decB decL;rw[if_pos hx0]
      have hni:(n:Int)=0:=by omega
      clear hx0 h0;go_wp2_with fail;go_ret;exact⟨by rw[HXZ.o];rfl,HBI.o⟩
     have hni:((n:Int)==0)=false:=by simp;omega
     have hcv:=conv_q8 HSO.o (by rw[List.length_map,List.length_reverse,digP_len]) (by omega)
     have hdl:=dec_digs HXN.o (HTP.o.elim (fun h=>by have:=HNM.o;omega) fun h=>h)
     have HXZ:Hid (decB x=⟨(((digP 10 n x).reverse.map (48+·)).map UInt8.ofNat).toArray⟩):=by
      show _=_
      unfold decB;rw[hdl,List.map_map];rfl
     rw[<-HXZ.o]at hcv;clear hdl h0;go_wp2_with fail;go_ret;exact⟨rfl,HBI.o⟩
   |succ c=>
     have hcn:c<n:=by omega
     obtain⟨b,off,hae,c0⟩:=(HD.o.keep HBI.o) c (by have:=HNM.o;omega);subst hae;have cz:=zai c0
     have hci:(c:Int)<(m:Int):=by have:=HNM.o;omega
     have HRC:=lh (HRS.o c hcn);have HRL1:=lh (HRL.o (c+1) (by omega));have hd9:x/10^c%10<10:=Nat.mod_lt _ (by decide);generalize x/10^c%10=d at*;generalize R (c+1)=RL at*
     have HLN:Hid (RL.length<=1073741824):=by show _<=_;rw[HRL1.o];omega
     have hdx:(48+(d:Int))%256=48+(d:Int):=by omega
     have hcc:((c+1:Nat):Int)-1=(c:Int):=by omega
     have HNC:Hid (n-(c+1)+1=n-c):=by show _=_;omega
     go_wp2_with(at_builtin;go_loud(refine zlx (C:=#[.int .u8 (48+(d:Int))]) elem8 rfl _ _ rfl wq.heap.size (.slice sa (n-(c+1)) sc) RL (48+d) rfl HSO.o rfl rfl rfl (Q8y_one (48+d)) HLN.o (by decide) HBI.o.size ?_));intro g5 cap5 w5 ho5 hg5 hgn5;rw[HRL1.o]at ho5⊢;rw[HNC.o]at ho5⊢
     have HO5:Hid (OwnL Q8y 5 1 w5 wq.heap.size (.slice (some ⟨g5,0,none⟩) (n-c) cap5) (R c)):=by rw[HRC.o];exact ho5
     have HB5:Hid (Below wq.heap.size wq w5):=HBI.o.grown hg5 HBI.o.size (fun j hj=>(World.ownsRow.lt HSO.o j hj).1);clear ho5 hg5 hgn5 c0 cz;go_wp2_with fail;go_roundw
     case rel=>exact⟨c,some ⟨g5,0,none⟩,cap5,by omega,by go_num,rfl,HO5.o,HB5.o⟩
     case measure=>simp[intOf]
def dgZ(m x:Nat):List Int:=(digP 10 m x).map Int.ofNat
theorem dgZ_len(m x:Nat):(dgZ m x).length=m:=by unfold dgZ;rw[List.length_map,digP_len]
theorem OwnL.dgI{w:World}{base m x:Nat}{a:Option Addr}{c:Nat}(h:OwnL I1 3 1 w base (.slice a m c) (dgZ m x)):DgI w a m x:=fun i hi=>by
 rcases h.shape with⟨_,h2⟩|⟨g,cap,h1,_⟩
 ·have:=congrArg List.length h2;rw[dgZ_len]at this;simp at this;omega
 simp only[Value.slice.injEq]at h1;obtain⟨rfl,_,_⟩:=h1;have hc:=OwnL.cell (dgZ_len m x).symm h (fun _=>rfl) i 0 (by rw[dgZ_len];exact hi) (by omega);refine⟨g,0,rfl,?_⟩;rw[Nat.zero_add];simp only[I1,Nat.mul_one,Nat.add_zero,List.getElem?_cons_zero]at hc;rw[hc]
 congr 2
 unfold dgZ;rw[List.getElem_map];have hg:=digP_get 10 x hi;rw[List.getElem?_eq_getElem (by rw[digP_len];exact hi)]at hg;rw[Option.some.inj hg]
 rfl
theorem of10_any(x:Nat)(hx:x<18446744073709551616)(w:World):Calls Tryz.prog 42 #[.int .u64 (x:Int)] w fun e w'=>e=.returned (.string (decB x))/\Below w.heap.size w w':=by
 have HX:Hid (x<10^20):=by show _<_;omega
 have HX2:=lh hx;clear hx;go_enter Tryz.func42,Tryz.ntmps42;go_wp2_with fail
 go_loopw[0,3](fun v0 v3 wr=>∃(m y:Nat)(oa:Option Addr)(oc:Nat),v0=.int .u64 y/\v3=.slice oa m oc/\x/10^m=y/\(m=0\/x/10^(m-1)≠0)/\OwnL I1 3 1 wr w.heap.size (.slice oa m oc) (dgZ m x)/\Below w.heap.size w wr)(fun v0 _ _=>(intOf v0).toNat)
 case atStart=>exact⟨0,x,none,0,rfl,rfl,by simp,.inl rfl,OwnL.nil _ _,Below.refl _ _⟩
 obtain⟨m,y,oa,oc,rfl,rfl,hy,hm,ho,hb⟩:=hrel;have HO:=lh ho;have HB:=lh hb;have HM:=lh hm;have HY:=lh hy
 have hm20:m<=20:=by
  rcases hm with h|h
  ·omega
  refine Nat.le_of_not_lt fun hlt=>h ?_
  exact Nat.div_eq_of_lt (Nat.lt_of_lt_of_le HX.o (Nat.pow_le_pow_right (by decide) (by omega)))
 clear hy hm ho hb
 by_cases hy0:y=0
 ·subst hy0
  have hlt:x<10^m:=by
   rcases Nat.div_eq_zero_iff.1 HY.o with h2|h2
   ·exact absurd h2 (Nat.ne_of_gt (Nat.pow_pos (by decide)))
   exact h2
  have HF:=lh (form_any oa oc m x wr (by omega) hlt HO.o.dgI);clear hlt;go_wp2_with fail;refine HF.o.mono ?_;rintro e w2⟨rfl,hb2⟩;have HB2:=bt HB hb2;clear hb2;go_wp2;go_ret;exact⟨rfl,HB2.o⟩
 have hyi:(0:Int)<(y:Int):=by omega
 have HSN:Hid (dgZ (m+1) x=dgZ m x++[((y%10:Nat):Int)]):=by show _=_;unfold dgZ;rw[digP_snoc,List.map_append,HY.o];rfl
 have HDL:=lh (dgZ_len m x);generalize dgZ m x=L at*
 have HLN:Hid (L.length<=1073741824):=by show _<=_;rw[HDL.o];omega
 have HYD:Hid (x/10^(m+1)=y/10):=by show _=_;rw[Nat.pow_succ,<-Nat.div_div_eq_div_mul,HY.o]
 have HM2:Hid (m+1=0\/x/10^(m+1-1)≠0):=.inr (by rw[Nat.add_sub_cancel,HY.o];exact hy0)
 have hmod:(y:Int)%10=((y%10:Nat):Int):=by omega
 have hdiv:(y:Int)/10=((y/10:Nat):Int):=by omega
 have HDV:=lh hdiv
 have hm9:((y%10:Nat):Int)<=9:=by omega
 generalize y%10=d at*;clear hdiv;go_wp2_with(at_builtin;go_loud(refine zlx (C:=#[.int .i64 (d:Int)]) ziz rfl _ _ rfl w.heap.size (.slice oa m oc) L (d:Int) rfl HO.o rfl rfl rfl (by intro u hu;simp[I1]at hu;subst hu;rfl) HLN.o (by decide) HB.o.size ?_));intro g5 cap5 w5 ho5 hg5 hgn5;rw[HDL.o]at ho5⊢
 have HO5:Hid (OwnL I1 3 1 w5 w.heap.size (.slice (some ⟨g5,0,none⟩) (m+1) cap5) (dgZ (m+1) x)):=by rw[HSN.o];exact ho5
 have HB5:Hid (Below w.heap.size w w5):=HB.o.grown hg5 HB.o.size (fun j hj=>(World.ownsRow.lt HO.o j hj).1);clear ho5 hg5 hgn5;go_wp2_with fail
 have hyx:y<18446744073709551616:=by
  have h1:y<=x:=by rw[<-HY.o];exact Nat.div_le_self _ _
  have h2:=HX2.o;omega
 have hwr:IntKind.u64.wrap ((y:Int)/10)=((y/10:Nat):Int):=by
  rw[HDV.o];exact u64w (by omega)
 exact⟨⟨m+1,y/10,some ⟨g5,0,none⟩,cap5,by rw[hwr],rfl,HYD.o,HM2.o,HO5.o,HB5.o⟩,by rw[hwr];simp[intOf];omega⟩
end Go.Proofs.YtnlaakmglhjjmaaGreatDoor
