/- Parts of the proofs of laws. Texts: NatW, NatF, NatP, NatM, NatS. -/
import Derived.Test.YtnlaakmglhjjmaaGreatDoorYC31
import Derived.Handy
import Derived.Deep.DeepCutAuto
set_option maxHeartbeats 8000000
set_option maxRecDepth 100000
set_option linter.all false
namespace Go.Proofs.YtnlaakmglhjjmaaGreatDoor
open Go.RowKit Cen
abbrev W32:Nat:=4294967296
def bytesG(x:Nat):ByteArray:=⟨((digs 256 x).map UInt8.ofNat).toArray⟩
def natG(x:Nat):Value:=.agg #[.string (bytesG x)]
def nB(x:Nat):Nat:=ndg 256 x
def nW(x:Nat):Nat:=(nB x+3)/4
def Q32(x:Nat):List Value:=[.int .u32 (x:Int)]
theorem Q32_len(x:Nat):(Q32 x).length=1:=rfl
theorem elem32:Elem 61 62 1 4 (.int .u32 0):=.mk Tryz.underlying61 (by kernel_rfl) rfl (by decide)
def OwnW(w:World)(base g L x:Nat):Prop:=OwnL Q32 62 1 w base (.slice (some ⟨g,0,none⟩) L L) (digP W32 L x)
theorem OwnW.cell{w:World}{base g L x k:Nat}(h:OwnW w base g L x)(hk:k<L):w.cell? ⟨g,k,none⟩=some (.int .u32 ((x/W32^k%W32:Nat):Int)):=by
 have:=OwnL.cell (digP_len _ _ _).symm h Q32_len k 0 (by rw[digP_len];exact hk) (by omega)
 simp[Q32,digP]at this
 simpa using this
theorem OwnW.fr{w:World}{base g L x:Nat}(h:OwnW w base g L x)(k:Nat):w.frozen? ⟨g,k,none⟩=false:=OwnL.fr (digP_len _ _ _).symm h k
theorem OwnW.lt{w:World}{base g L x:Nat}(h:OwnW w base g L x):g<w.heap.size/\base<=g:=OwnL.lt h
theorem OwnW.later{w w':World}{base g L x:Nat}(h:OwnW w base g L x)(hb:Below w.heap.size w w'):OwnW w' base g L x:=OwnL.later h hb
theorem OwnW.put{w:World}{base g L x y k d:Nat}(h:OwnW w base g L x)(hk:k<L)(hj:∀j,j<L->j≠k->x/W32^j%W32=y/W32^j%W32)(hd:d=y/W32^k%W32):OwnW (w.setCell ⟨g,k,none⟩ (.int .u32 (d:Int))) base g L y:=by
 have:=OwnL.put1 (digP_len _ _ _).symm h Q32_len k (by rw[digP_len];exact hk) d _ rfl;rw[hd,digP_set hk hj]at this;rw[hd];exact this
theorem bytesG_size(x:Nat):(bytesG x).size=nB x:=by
 show(((digs 256 x).map UInt8.ofNat).toArray).size=_
 rw[List.size_toArray,List.length_map];rfl
theorem bytesG_get(x:Nat){k:Nat}(h:k<(bytesG x).size):(((bytesG x)[k]).toNat:Nat)=x/256^k%256:=by
 have hk:k<nB x:=by rw[bytesG_size]at h;exact h
 have e:=(digs_ndg (B:=256) (by decide) x).1
 have hg:(digs 256 x)[k]?=some (x/256^k%256):=by rw[e];exact digP_get 256 x hk
 have h':k<((digs 256 x).map UInt8.ofNat).toArray.size:=h
 show(((digs 256 x).map UInt8.ofNat).toArray[k]'h').toNat=_
 simp only[List.getElem_toArray,List.getElem_map];have hl:k<(digs 256 x).length:=hk;rw[List.getElem?_eq_getElem hl]at hg;rw[Option.some.inj hg]
 simp
def WPost(x:Nat)(w:World)(e:Ending)(w':World):Prop:=∃g,e=.returned (.slice (some ⟨g,0,none⟩) (nW x) (nW x))/\OwnW w' w.heap.size g (nW x) x/\Below w.heap.size w w'
theorem gwords_any(x:Nat)(hx:nB x<=1000000)(w:World):Calls Tryz.prog 43 #[natG x] w (WPost x w):=by
 have HS:=lh (bytesG_size x);have HG:=lh (fun k(h:k<(bytesG x).size)=>bytesG_get x h);have HXB:Hid (x<256^nB x):=(digs_ndg (B:=256) (by decide) x).2.1;unfold natG;obtain⟨w0,hw0⟩:=nm (w.alloc (.cells #[.string (bytesG x)] 36))
 have hb0:Below w.heap.size w w0:=by rw[hw0];exact ba _ _
 have q0:Blk w0 w.heap.size #[.string (bytesG x)] 36:=by rw[hw0];exact Blk.new _ _ _
 have k0:=q0.cell 0;have kz:=q0.lt;generalize bytesG x=s at*
 have hsz:s.size<=1000000:=by rw[HS.o];exact hx
 obtain⟨L,hL⟩:=nm ((s.size+3)/4)
 have hLw:nW x=L:=by rw[hL,HS.o];rfl
 have HML:Hid (L<=maxLen):=by show _<=_;unfold maxLen;omega
 have HZ:Hid (w.heap.size<=w0.heap.size):=hb0.size
 have hLi:(((s.size:Int)+3)/4)=(L:Int):=by omega
 unfold WPost;rw[hLw];go_enter Tryz.func43,Tryz.ntmps43;have HB0:=lh hb0;have HQ0:=lh q0;clear hb0 q0;go_wp2_with(at_make;go_loud(refine mk elem32 rfl _ _ rfl w.heap.size .i64 .i64 _ _ L rfl rfl hLi hLi (by omega) HML.o (by rw[<-hw0];exact HZ.o) Q32 0 rfl ?_));intro w1 ho1 hg1;rw[<-hw0]at hg1;have hb1:Below w0.heap.size w0 w1:=(Below.refl _ _).grown hg1 (Nat.le_refl _) (by simp);obtain⟨g,hg⟩:=nm w0.heap.size;have hgw':=hg
 have hgw:g=w.heap.size+1:=by rw[hg,hw0,World.size_alloc]
 have HO1:Hid (OwnW w1 w.heap.size g L (x%256^0)):=by
  show OwnL _ _ _ _ _ _ _
  rw[Nat.pow_zero,Nat.mod_one,digP_zero,hg,hw0];exact ho1
 have HQ1:=lh (HQ0.o.later hb1);have HB1:=bt HB0 hb1
 have HGZ:Hid (w.heap.size<g):=by show _<_;rw[hg];exact HQ0.o.lt
 have HL:=lh hL;clear ho1 hg1 hg hb1 k0 kz HB0 HQ0 hL hLi hLw;have k0:=HQ1.o.cell 0;have kz:=HQ1.o.lt;rw[<-hw0,<-hgw'];clear hw0 hgw hgw';go_wp2_with fail;clear k0 kz
 go_loopw[14](fun i wr=>∃k:Nat,k<=s.size/\i=.int .i64 k/\OwnW wr w.heap.size g L (x%256^k)/\Blk wr w.heap.size #[.string s] 36/\Below w.heap.size w wr)(fun i _=>s.size-(intOf i).toNat)
 case atStart=>exact⟨0,Nat.zero_le _,rfl,HO1.o,HQ1.o,HB1.o⟩
 obtain⟨k,hk,rfl,ho,hq,hb⟩:=hrel;have HO:=lh ho;have HQ:=lh hq;have HB:=lh hb;clear ho hq hb
 by_cases hlt:k<s.size
 ·have hki:(k:Int)<(s.size:Int):=by omega
  have k0:=HQ.o.cell 0;have kz:=HQ.o.lt;obtain⟨j,hj⟩:=nm (k/4);obtain⟨r,hr⟩:=nm (k%4)
  have hjL:j<L:=by have:=HL.o;omega
  have e1:(k:Int)/4=(j:Int):=by omega
  have e2:(k:Int)%4=(r:Int):=by omega
  have hjl:(j:Int)<(L:Int):=by omega
  have c0:=HO.o.cell hjL;have f0:=HO.o.fr j;have gz:=HO.o.lt.1;obtain⟨w1',w2'⟩:=word_byte (x:=x) hj hr
  have HWO:Hid (∀i,i<L->i≠j->x%256^k/W32^i%W32=x%256^(k+1)/W32^i%W32):=fun i _ hi=>word_other (by rw[<-hj];exact hi)
  have hr3:(r:Int)<=3:=by omega
  have hb0:=HG.o k hlt;have hD:x%256^k/W32^j%W32<4294967296:=Nat.mod_lt _ (by decide)
  have HVAL:Hid (bits .or .u32 ((x%256^k/W32^j%W32:Nat):Int) (((s[k]).toNat:Int)%4294967296*2^(8*r)%4294967296)=((x%256^(k+1)/W32^j%W32:Nat):Int)):=by
   show _=_
   rw[w1',<-hb0];rw[<-hb0]at w2';have hlt8:=(s[k]).toNat_lt;generalize(s[k]).toNat=b at*;rw[Int.emod_eq_of_lt (a:=(b:Int)) (by omega) (by omega),show(b:Int)*2^(8*r)=((b*2^(8*r):Nat):Int)by push_cast;rfl,Int.emod_eq_of_lt (by omega) (by omega)];exact u32_or_nat _ _ hD w2'
  generalize x%256^k/W32^j%W32=D at c0 HVAL;clear hj hr w1' w2' hb0 hD
  go_upto_region 5 with fail
  go_region;rw[HVAL.o];have HO2:=lh (HO.o.put hjL HWO.o rfl);have HB2:Hid (Below w.heap.size w (wr.setCell ⟨g,j,none⟩ (.int .u32 ((x%256^(k+1)/W32^j%W32:Nat):Int)))):=HB.o.setCell (by have:=HGZ.o;dsimp only;omega) _;have HQ2:Hid (Blk (wr.setCell ⟨g,j,none⟩ (.int .u32 ((x%256^(k+1)/W32^j%W32:Nat):Int))) w.heap.size #[.string s] 36):=HQ.o.other _ _ (by have:=HGZ.o;dsimp only;omega);generalize(wr.setCell ⟨g,j,none⟩ (.int .u32 ((x%256^(k+1)/W32^j%W32:Nat):Int)))=w5 at*;clear k0 kz c0 f0 gz;go_wp2_with fail;go_roundw
  case rel=>exact⟨k+1,by omega,by go_num,HO2.o.drew,HQ2.o,HB2.o.drew⟩
  case measure=>simp[intOf];omega
 obtain rfl:k=s.size:=by omega
 have hkn:¬((s.size:Int)<(s.size:Int)):=by omega
 have HF:Hid (OwnW wr w.heap.size g L x):=by
  have h:=HO.o;rw[HS.o,Nat.mod_eq_of_lt HXB.o]at h;exact h
 go_wp2;go_ret;exact⟨g,rfl,HF.o,HB.o⟩
def Q8y(x:Nat):List Value:=[.int .u8 (x:Int)]
theorem Q8y_len(x:Nat):(Q8y x).length=1:=rfl
theorem elem8:Elem 50 5 1 1 (.int .u8 0):=.mk Tryz.underlying50 (by kernel_rfl) rfl (by decide)
def OwnBy(w:World)(base g L x:Nat):Prop:=OwnL Q8y 5 1 w base (.slice (some ⟨g,0,none⟩) L L) (digP 256 L x)
theorem OwnBy.cell{w:World}{base g L x k:Nat}(h:OwnBy w base g L x)(hk:k<L):w.cell? ⟨g,k,none⟩=some (.int .u8 ((x/256^k%256:Nat):Int)):=by
 have:=OwnL.cell (digP_len _ _ _).symm h Q8y_len k 0 (by rw[digP_len];exact hk) (by omega)
 simp[Q8y,digP]at this
 simpa using this
theorem OwnBy.fr{w:World}{base g L x:Nat}(h:OwnBy w base g L x)(k:Nat):w.frozen? ⟨g,k,none⟩=false:=OwnL.fr (digP_len _ _ _).symm h k
theorem OwnBy.lt{w:World}{base g L x:Nat}(h:OwnBy w base g L x):g<w.heap.size/\base<=g:=OwnL.lt h
theorem OwnBy.put{w:World}{base g L x y k d:Nat}(h:OwnBy w base g L x)(hk:k<L)(hj:∀j,j<L->j≠k->x/256^j%256=y/256^j%256)(hd:d=y/256^k%256):OwnBy (w.setCell ⟨g,k,none⟩ (.int .u8 (d:Int))) base g L y:=by
 have:=OwnL.put1 (digP_len _ _ _).symm h Q8y_len k (by rw[digP_len];exact hk) d _ rfl;rw[hd,digP_set hk hj]at this;rw[hd];exact this
def Wd(w:World)(g L x:Nat):Prop:=∀k,k<L->w.cell? ⟨g,k,none⟩=some (.int .u32 ((x/W32^k%W32:Nat):Int))
theorem Wd.keep{w w':World}{g L x:Nat}(h:Wd w g L x)(hb:Below w.heap.size w w'):Wd w' g L x:=fun k hk=>zab hb (h k hk)
theorem OwnW.wd{w:World}{base g L x:Nat}(h:OwnW w base g L x):Wd w g L x:=fun _ hk=>h.cell hk
theorem conv_bytes{w:World}{base g N x n:Nat}(h:OwnBy w base g N x)(hn:n<=N)(hx:x<256^n)(h0:n=0\/x/256^(n-1)%256≠0)(c:Nat):
 (convert 50 9 (.slice (some ⟨g,0,none⟩) n c)).run Tryz.prog w=.ok (.string (bytesG x)) w:=by
 have hl:((digP 256 n x).map Int.ofNat).length=n:=by rw[List.length_map,digP_len]
 have:=run_convert_bytes_arg (P:=Tryz.prog) w 50 5 rfl rfl g 0 n c ((digP 256 n x).map Int.ofNat) hl (fun i hi=>by
  rw[Nat.zero_add,h.cell (by omega)]
  congr 2
  simp[List.getD_eq_getElem?_getD,digP_get 256 x hi]) 9 rfl
 rw[this]
 congr 2
 have e:strOfNums ((digP 256 n x).map Int.ofNat)=bytesG x:=by
  unfold bytesG;rw[digs_eq (by decide) hx h0];have h1:=strOfNums_data ((digP 256 n x).map Int.ofNat);rw[List.map_map]at h1;have h2:(fun m:Int=>UInt8.ofNat m.toNat)∘Int.ofNat=UInt8.ofNat:=rfl;rw[h2]at h1
  cases hs:strOfNums ((digP 256 n x).map Int.ofNat)with
  |mk d=>
    rw[hs]at h1
    congr 1
    exact Array.toList_inj.1 (by simpa using h1)
 rw[e]
theorem gfrom_any(p L c x:Nat)(w:World)(hL:L<=1000000)(hx:x<W32^L)(hw:Wd w p L x):Calls Tryz.prog 23 #[.slice (some ⟨p,0,none⟩) L c] w fun e w'=>e=.returned (natG x)/\Below w.heap.size w w':=by
 obtain⟨w0,hw0⟩:=nm (w.alloc (.cells #[.string ⟨#[]⟩] 36))
 have hb0:Below w.heap.size w w0:=by rw[hw0];exact ba _ _
 have q0:Blk w0 w.heap.size #[.string ⟨#[]⟩] 36:=by rw[hw0];exact Blk.new _ _ _
 obtain⟨N,hN⟩:=nm (4*L)
 have HML:Hid (N<=maxLen):=by show _<=_;unfold maxLen;omega
 have HZ:Hid (w.heap.size<=w0.heap.size):=hb0.size
 have HNI:Hid ((4*(L:Int))=(N:Int)):=by show _=_;omega
 have HX:Hid (x<256^N):=by show _<_;rw[hN,<-pow_words];exact hx
 have HW:=lh (fun V(hV:Below w.heap.size w V)=>hw.keep hV);have HB0:=lh hb0;have HQ0:=lh q0;have HN:=lh hN;clear hb0 q0 hw hx hN;go_enter Tryz.func23,Tryz.ntmps23;go_wp2_with(at_make;go_loud(refine mk elem8 rfl _ _ rfl w.heap.size .i64 .i64 _ _ N rfl rfl HNI.o HNI.o (by have:=HN.o;omega) HML.o (by rw[<-hw0];exact HZ.o) Q8y 0 rfl ?_));intro w1 ho1 hg1;rw[<-hw0]at hg1;have hb1:Below w0.heap.size w0 w1:=(Below.refl _ _).grown hg1 (Nat.le_refl _) (by simp);obtain⟨g,hg⟩:=nm w0.heap.size
 have hgw:g=w.heap.size+1:=by rw[hg,hw0,World.size_alloc]
 have HO1:Hid (OwnBy w1 w.heap.size g N (x%256^0)):=by
  show OwnL _ _ _ _ _ _ _
  rw[Nat.pow_zero,Nat.mod_one,digP_zero,hgw];exact ho1
 have HQ1:=lh (HQ0.o.later hb1);have HB1:=bt HB0 hb1
 have HGZ:Hid (w.heap.size<g):=by show _<_;rw[hg];exact HQ0.o.lt
 rw[<-hgw];clear ho1 hg1 hb1 HB0 HQ0 hw0 hg hgw;go_wp2_with fail
 go_loopw[12](fun i wr=>∃k:Nat,k<=N/\i=.int .i64 k/\OwnBy wr w.heap.size g N (x%256^k)/\Blk wr w.heap.size #[.string ⟨#[]⟩] 36/\Below w.heap.size w wr)(fun i _=>N-(intOf i).toNat)
 case atStart=>exact⟨0,Nat.zero_le _,rfl,HO1.o,HQ1.o,HB1.o⟩
 obtain⟨k,hk,rfl,ho,hq,hb⟩:=hrel;have HO:=lh ho;have HQ:=lh hq;have HB:=lh hb;clear ho hq hb
 by_cases hlt:k<N
 ·have hki:(k:Int)<(N:Int):=by omega
  obtain⟨j,hj⟩:=nm (k/4);obtain⟨r,hr⟩:=nm (k%4)
  have hjL:j<L:=by have:=HN.o;omega
  have e1:(k:Int)/4=(j:Int):=by omega
  have e2:(k:Int)%4=(r:Int):=by omega
  have hjl:(j:Int)<(L:Int):=by omega
  have hr3:(r:Int)<=3:=by omega
  have c0:=HW.o _ HB.o j hjL;have c1:=HO.o.cell hlt;have f1:=HO.o.fr k;have gz:=HO.o.lt.1;have pz:=zai c0
  have HVAL:Hid (((x/W32^j%W32:Nat):Int)/2^(8*r)%256=((x%256^(k+1)/256^k%256:Nat):Int)):=by
   show _=_
   have hbw:x/W32^j%W32/2^(8*r)%256=x/256^k%256:=byte_word hj hr;rw[<-byte_same,<-hbw];generalize x/W32^j%W32=D
   push_cast;rfl
  generalize x/W32^j%W32=D at c0 HVAL;generalize x%256^k/256^k%256=E at c1;clear hj hr
  go_upto_region 6 with fail
  rw[HVAL.o];have HO2:=lh (HO.o.put hlt (fun i _ hi=>byte_other hi) rfl);have HB2:Hid (Below w.heap.size w (wr.setCell ⟨g,k,none⟩ (.int .u8 ((x%256^(k+1)/256^k%256:Nat):Int)))):=HB.o.setCell (by have:=HGZ.o;dsimp only;omega) _;have HQ2:Hid (Blk (wr.setCell ⟨g,k,none⟩ (.int .u8 ((x%256^(k+1)/256^k%256:Nat):Int))) w.heap.size #[.string ⟨#[]⟩] 36):=HQ.o.other _ _ (by have:=HGZ.o;dsimp only;omega);generalize(wr.setCell ⟨g,k,none⟩ (.int .u8 ((x%256^(k+1)/256^k%256:Nat):Int)))=w5 at*;clear c0 c1 f1 gz pz;go_wp2_with fail;go_roundw
  case rel=>exact⟨k+1,by omega,by go_num,HO2.o,HQ2.o,HB2.o⟩
  case measure=>simp[intOf];omega
 obtain rfl:k=N:=by omega
 have hkn:¬((k:Int)<(k:Int)):=by omega
 have HF:Hid (OwnBy wr w.heap.size g k x):=by
  have h:=HO.o;rw[Nat.mod_eq_of_lt HX.o]at h;exact h
 have hk4:k<=4000000:=by have:=HN.o;omega
 clear HO HW
 obtain⟨wq,rfl⟩:∃wq:World,wq=wr:=⟨_,rfl⟩
 have r0:=HQ.o.cell 0;have rf:=HQ.o.fr 0;have rz:=HQ.o.lt;go_wp2_with fail
 go_loopw[5](fun v wr=>∃n:Nat,n<=k/\v=.int .i64 n/\x<256^n/\wr=wq)(fun v _=>(intOf v).toNat)
 case atStart=>exact⟨k,Nat.le_refl _,rfl,HX.o,rfl⟩
 obtain⟨n,hn,rfl,hxn,rfl⟩:=hrel;have HXN:=lh hxn
 cases n with
 |zero=>
   have hc:=conv_bytes HF.o (Nat.zero_le _) hxn (.inl rfl) k;clear hxn;go_wp2_with fail;have g0:=(HQ.o.set 0 (.string (bytesG x))).cell 0;exact bodyPost_ret (v:=.agg #[.string (bytesG x)]) (by simp[results,Tryz.results23,go_sem,g0]) rfl ⟨rfl,HB.o.setCell (Nat.le_refl _) _⟩
 |succ n=>
   have c1:=HF.o.cell (k:=n) (by omega);have gz:=HF.o.lt.1
   have hnk:(n:Int)+1<=(k:Int):=by omega
   by_cases h0:x/256^n%256=0
   ·have ht:=lh (top_zero hxn h0);rw[h0]at c1;clear hxn h0;go_wp2_with fail;exact⟨⟨n,by omega,rfl,ht.out,trivial⟩,by simp[intOf]⟩
   have hc:=conv_bytes HF.o hn hxn (.inr h0) k
   have h0i:¬(((x/256^n%256:Nat):Int)=0):=by omega
   generalize x/256^n%256=D at c1 h0i
   have h0d:decide ((D:Int)=0)=false:=by simpa using h0i
   clear hxn h0;go_wp2_with fail;have g0:=(HQ.o.set 0 (.string (bytesG x))).cell 0;exact bodyPost_ret (v:=.agg #[.string (bytesG x)]) (by simp[results,Tryz.results23,go_sem,g0]) rfl ⟨rfl,HB.o.setCell (Nat.le_refl _) _⟩
end Go.Proofs.YtnlaakmglhjjmaaGreatDoor
namespace Cen
theorem low_lt{B k v d:Nat}(hB:0<B)(hd:d<B):v%B^k+d*B^k<B^(k+1):=by
 have h1:v%B^k<B^k:=Nat.mod_lt _ (Nat.pow_pos hB);have h2:(d+1)*B^k<=B*B^k:=Nat.mul_le_mul_right _ hd;rw[Nat.pow_succ,Nat.mul_comm (B^k)];rw[Nat.add_mul,Nat.one_mul]at h2;omega
def setD(B V k d:Nat):Nat:=V%B^k+d*B^k+V/B^(k+1)*B^(k+1)
theorem three(B V k:Nat):V=V%B^k+V/B^k%B*B^k+V/B^(k+1)*B^(k+1):=by
 have h1:=Nat.div_add_mod V (B^(k+1));have h2:=mod_pow_succ' B V k;rw[h2]at h1;rw[Nat.mul_comm (B^(k+1))]at h1;omega
theorem setD_add(B V k d:Nat):setD B V k d+V/B^k%B*B^k=V+d*B^k:=by
 have h:=three B V k;unfold setD;generalize V%B^k=a at*;generalize V/B^k%B*B^k=b at*;generalize V/B^(k+1)*B^(k+1)=c at*;omega
theorem setD_same{B V k d:Nat}(hB:0<B)(hd:d<B):setD B V k d/B^k%B=d:=by
 unfold setD;rw[dig_low hB (Nat.dvd_mul_left _ _),Nat.mul_comm d,Nat.add_mul_div_left _ _ (Nat.pow_pos hB),Nat.div_eq_of_lt (Nat.mod_lt _ (Nat.pow_pos hB)),Nat.zero_add,Nat.mod_eq_of_lt hd]
theorem setD_high{B V k d j:Nat}(hB:0<B)(hd:d<B)(hj:k<j):setD B V k d/B^j=V/B^j:=by
 obtain⟨e,rfl⟩:∃e,j=k+1+e:=⟨j-(k+1),by omega⟩
 rw[Nat.pow_add,<-Nat.div_div_eq_div_mul,<-Nat.div_div_eq_div_mul]
 congr 1
 unfold setD;rw[Nat.mul_comm (V/B^(k+1)),Nat.add_mul_div_left _ _ (Nat.pow_pos hB),Nat.div_eq_of_lt (low_lt hB hd),Nat.zero_add]
theorem mod_dig{B V k j:Nat}(hB:0<B)(hj:j<k):V%B^k/B^j%B=V/B^j%B:=by
 conv=>rhs;rw[<-Nat.mod_add_div V (B^k)]
 rw[dig_low hB (Nat.dvd_trans (Nat.pow_dvd_pow B hj) (Nat.dvd_mul_right _ _))]
theorem setD_other{B V k d j:Nat}(hB:0<B)(hd:d<B)(hj:j≠k):setD B V k d/B^j%B=V/B^j%B:=by
 by_cases h:j<k
 ·unfold setD;rw[dig_low hB (Nat.dvd_trans (Nat.pow_dvd_pow B (by omega)) (Nat.dvd_mul_left _ _)),dig_low hB (Nat.dvd_trans (Nat.pow_dvd_pow B h) (Nat.dvd_mul_left _ _)),mod_dig hB h]
 rw[setD_high hB hd (by omega)]
structure MulS(B i P f y k V c:Nat):Prop where
 eq:V+c*B^(i+k)=P+f*(y%B^k)*B^i
 hi:V/B^(i+k)=P/B^(i+k)
 lt:c<B
theorem MulS.start(B i P f y:Nat)(hB:0<B):MulS B i P f y 0 P 0:=⟨by simp[Nat.mod_one],rfl,hB⟩
theorem MulS.sum{B i P f y k V c:Nat}(h:MulS B i P f y k V c)(hf:f<B):c+(V/B^(i+k)%B+f*(y/B^k%B))<B*B:=by
 have h1:=h.lt
 have hB:0<B:=by omega
 have h2:V/B^(i+k)%B<B:=Nat.mod_lt _ hB;have h3:y/B^k%B<B:=Nat.mod_lt _ hB;generalize V/B^(i+k)%B=d at*;generalize y/B^k%B=e at*;have h4:f*e<=(B-1)*(B-1):=Nat.mul_le_mul (by omega) (by omega)
 obtain⟨b,rfl⟩:∃b,B=b+1:=⟨B-1,by omega⟩
 simp only[Nat.add_sub_cancel]at h4
 have h5:(b+1)*(b+1)=b*b+b+b+1:=by rw[Nat.mul_add,Nat.add_mul];omega
 omega
theorem MulS.step{B i P f y k V c t:Nat}(h:MulS B i P f y k V c)(hf:f<B)(ht:t=c+(V/B^(i+k)%B+f*(y/B^k%B))):MulS B i P f y (k+1) (setD B V (i+k) (t%B)) (t/B):=by
 have hB:0<B:=by have:=h.lt;omega
 have hs:=h.sum hf;rw[<-ht]at hs;refine⟨?_,?_,by rw[Nat.div_lt_iff_lt_mul hB];exact hs⟩
 ·have e1:=setD_add B V (i+k) (t%B);have e2:=h.eq;have e3:y%B^(k+1)=y%B^k+y/B^k%B*B^k:=mod_pow_succ' B y k
  have e4:t/B*B^(i+(k+1))+t%B*B^(i+k)=t*B^(i+k):=by
   rw[<-Nat.add_assoc,Nat.pow_succ,Nat.mul_comm (B^(i+k)) B,<-Nat.mul_assoc,<-Nat.add_mul,Nat.mul_comm (t/B),Nat.div_add_mod]
  have e5:t*B^(i+k)=c*B^(i+k)+V/B^(i+k)%B*B^(i+k)+f*(y/B^k%B)*B^(i+k):=by rw[ht,Nat.add_mul,Nat.add_mul,Nat.add_assoc]
  have e6:f*(y/B^k%B)*B^(i+k)=f*(y/B^k%B*B^k)*B^i:=by rw[Nat.pow_add,Nat.mul_comm (B^i),Nat.mul_assoc,Nat.mul_assoc,Nat.mul_assoc]
  rw[e3,Nat.mul_add,Nat.add_mul];generalize setD B V (i+k) (t%B)=V' at*;generalize t/B*B^(i+(k+1))=a1 at*;generalize t%B*B^(i+k)=a2 at*;generalize t*B^(i+k)=a3 at*;generalize c*B^(i+k)=a4 at*;generalize V/B^(i+k)%B*B^(i+k)=a5 at*;generalize f*(y/B^k%B)*B^(i+k)=a6 at*;generalize f*(y/B^k%B*B^k)*B^i=a7 at*;generalize f*(y%B^k)*B^i=a8 at*;omega
 rw[setD_high hB (Nat.mod_lt _ hB) (by omega)];have:=h.hi;rw[<-Nat.add_assoc,Nat.pow_succ,<-Nat.div_div_eq_div_mul,<-Nat.div_div_eq_div_mul,this]
theorem MulS.close{B i P f y k V c:Nat}(h:MulS B i P f y k V c)(hy:y<B^k)(hP:P<B^(i+k)):setD B V (i+k) c=P+f*y*B^i:=by
 have hB:0<B:=by have:=h.lt;omega
 have e0:V/B^(i+k)=0:=by rw[h.hi,Nat.div_eq_of_lt hP]
 have e1:=setD_add B V (i+k) c;have e2:=h.eq;rw[Nat.mod_eq_of_lt hy]at e2;rw[e0,Nat.zero_mod,Nat.zero_mul,Nat.add_zero]at e1;rw[e1,e2]
theorem mul_next(B x y i:Nat):x%B^(i+1)*y=x%B^i*y+x/B^i%B*y*B^i:=by
 rw[mod_pow_succ',Nat.add_mul]
 congr 1
 rw[Nat.mul_assoc,Nat.mul_assoc,Nat.mul_comm y]
theorem mul_lt{B x y i n:Nat}(hB:0<B)(hy:y<B^n):x%B^i*y<B^(i+n):=by
 rw[Nat.pow_add];exact Nat.mul_lt_mul'' (Nat.mod_lt _ (Nat.pow_pos hB)) hy
end Cen
namespace Go.Proofs.YtnlaakmglhjjmaaGreatDoor
open Go.RowKit Cen
theorem nW_lt(x:Nat):x<W32^nW x:=by
 have h:=(digs_ndg (B:=256) (by decide) x).2.1
 show x<4294967296^nW x
 rw[pow_words];exact Nat.lt_of_lt_of_le h (Nat.pow_le_pow_right (by decide) (by unfold nW nB;omega))
theorem nW_le{x:Nat}(h:nB x<=1000000):nW x<=250000:=by unfold nW;omega
theorem OwnW.set{w:World}{base g L x k d:Nat}(h:OwnW w base g L x)(hk:k<L)(hd:d<W32):OwnW (w.setCell ⟨g,k,none⟩ (.int .u32 (d:Int))) base g L (setD W32 x k d):=h.put hk (fun _ _ hj=>(setD_other (by decide) hd hj).symm) (setD_same (by decide) hd).symm
theorem drewN_w{B:Nat}(w:World)(n:Nat):Below B w (w.drewN n):=let h:=Below.refl B w;⟨h.os,h.tape,h.output,h.size,h.block⟩
theorem u64w{x:Nat}(h:x<18446744073709551616):IntKind.u64.wrap (x:Int)=(x:Int):=by simp[IntKind.wrap,IntKind.bits,IntKind.signed];omega
theorem mul_term{q d f e T:Nat}(hd:d<4294967296)(he:e<4294967296)(hT:T=q+(d+f*e))(h:T<18446744073709551616):IntKind.u64.wrap ((q:Int)+IntKind.u64.wrap (IntKind.u64.wrap (d:Int)+IntKind.u64.wrap ((f:Int)*IntKind.u64.wrap (e:Int))))=(T:Int):=by
 have hz:(f:Int)*(e:Int)=((f*e:Nat):Int):=by push_cast;rfl
 rw[u64w (x:=d) (by omega),u64w (x:=e) (by omega),hz];generalize f*e=z at*;rw[u64w (x:=z) (by omega),show(d:Int)+(z:Int)=((d+z:Nat):Int)by omega,u64w (by omega),show(q:Int)+((d+z:Nat):Int)=(T:Int)by omega,u64w h]
def WXY(W:World)(Lx Ly x y:Nat)(sx sy:Value)(wx:World):Prop:=∃gx gy,sx=.slice (some ⟨gx,0,none⟩) Lx Lx/\sy=.slice (some ⟨gy,0,none⟩) Ly Ly/\OwnW wx W.heap.size gx Lx x/\OwnW wx W.heap.size gy Ly y/\gx≠gy/\Below W.heap.size W wx
theorem gmul_any(x y:Nat)(hx:nB x<=1000000)(hy:nB y<=1000000)(w:World):Calls Tryz.prog 47 #[natG x,natG y] w fun e w'=>e=.returned (natG (x*y))/\Below w.heap.size w w':=by
 have hwx:=fun V=>gwords_any x hx V
 have hwy:=fun V=>gwords_any y hy V
 have hlx:=nW_lt x;have hly:=nW_lt y;have hLx:=nW_le hx;have hLy:=nW_le hy;unfold natG WPost at hwx hwy;rw[show natG x=.agg #[.string (bytesG x)]from rfl,show natG y=.agg #[.string (bytesG y)]from rfl];generalize bytesG x=s at*;generalize bytesG y=t at*;generalize nW x=Lx at*;generalize nW y=Ly at*;have HWX:=lh hwx;have HWY:=lh hwy;have HLX:=lh hlx;have HLY:=lh hly;clear hwx hwy hx hy hlx hly;go_enter Tryz.func47,Tryz.ntmps47;go_wp2_with fail
 have k0:=(((Blk.new w #[.string s] 36).alloc (.cells #[.string t] 36)).alloc (.cells #[.string ⟨#[]⟩] 36))
 have k1:=((Blk.new' (w.alloc (.cells #[.string s] 36)) (b:=w.heap.size+1) (by simp) #[.string t] 36).alloc (.cells #[.string ⟨#[]⟩] 36))
 have k2:=Blk.new' ((w.alloc (.cells #[.string s] 36)).alloc (.cells #[.string t] 36)) (b:=w.heap.size+1+1) (by simp) #[.string ⟨#[]⟩] 36;have hb:Below w.heap.size w (((w.alloc (.cells #[.string s] 36)).alloc (.cells #[.string t] 36)).alloc (.cells #[.string ⟨#[]⟩] 36)):=(((Below.refl _ w).alloc (Nat.le_refl _) _).alloc (by simp) _).alloc (by simp;omega) _;generalize(((w.alloc (.cells #[.string s] 36)).alloc (.cells #[.string t] 36)).alloc (.cells #[.string ⟨#[]⟩] 36))=W at*;have HK2:=lh k2;have HB:=lh hb;have c0:W.cell? ⟨w.heap.size,0,none⟩=some (.string s):=k0.cell 0
 have c1:W.cell? ⟨w.heap.size+1,0,none⟩=some (.string t):=k1.cell 0
 have HKS:Hid (∀w':World,Below W.heap.size W w'->w'.cell? ⟨w.heap.size,0,none⟩=some (.string s)/\w'.cell? ⟨w.heap.size+1,0,none⟩=some (.string t)/\Below W.heap.size W w'):=lh fun w' hb=>⟨zab hb c0,zab hb c1,hb⟩
 clear k0 k1 k2 hb
 go_upto_region 2 with fail
 go_cut[5,6](fun sx sy wx=>WXY W Lx Ly x y sx sy wx)
 case first=>
  go_region_with (go_at_call 43
                  first
                   | (with_reducible refine Calls.mono (HWX.o W.drew) ?_
                      rintro e v5⟨gx,rfl,hk5,hb5⟩;have hv5:Below W.heap.size W v5:=(Below.refl W.heap.size W).drew.trans (hb5.mono (Nat.le_refl _));have d0:=zab hv5 c0
                      have d1:=zab hv5 c1)
                   | (with_reducible refine Calls.mono (HWY.o _) ?_
                      rintro e v6⟨gy,rfl,hk6,hb6⟩))
  all_goals(go_wp2_with fail;go_meet;exact⟨gx,gy,rfl,rfl,hk5.later hb6,OwnL.lower hk6 hv5.size,by have:=hk5.lt.1;have:=hk6.lt.2;omega,hv5.trans (hb6.mono hv5.size)⟩)
 obtain⟨gx,gy,rfl,rfl,hX,hY,hne,hbw⟩:=hcut
 rename World=>wx
 have HX:=lh hX.wd;have HY:=lh hY.wd;have HXZ:=lh hX.lt.1;have HYZ:=lh hY.lt.1;have HR:=lh (HK2.o.later hbw);have HBW:=bt HB hbw;clear hX hY hne hbw HKS c0 c1 HWX HWY HK2 HB;obtain⟨N,hN⟩:=nm (Lx+Ly)
 have HNI:Hid ((Lx:Int)+(Ly:Int)=(N:Int)):=by show _=_;omega
 have HML:Hid (N<=maxLen):=by show _<=_;unfold maxLen;omega
 have HN:=lh hN
 have hN5:N<=500000:=by omega
 clear hN;go_wp2_with(at_make;go_loud(refine mk elem32 rfl _ _ rfl wx.heap.size .i64 .i64 _ _ N rfl rfl HNI.o HNI.o (by omega) HML.o (Nat.le_refl _) Q32 0 rfl ?_));intro w1 ho1 hg1;have hb1:Below wx.heap.size wx w1:=(Below.refl _ _).grown hg1 (Nat.le_refl _) (by simp);obtain⟨g,hg⟩:=nm wx.heap.size
 have HO1:Hid (OwnW w1 wx.heap.size g N (x%W32^0*y)):=by
  show OwnL _ _ _ _ _ _ _
  rw[Nat.pow_zero,Nat.mod_one,Nat.zero_mul,digP_zero,hg];exact ho1
 have HB1:=lh hb1;rw[<-hg];have HG:=lh hg;clear ho1 hg1 hb1 hg;go_wp2_with fail
 go_loopw[24](fun i wr=>∃k:Nat,k<=Lx/\i=.int .i64 k/\OwnW wr wx.heap.size g N (x%W32^k*y)/\Below wx.heap.size wx wr)(fun i _=>Lx-(intOf i).toNat)
 case atStart=>exact⟨0,Nat.zero_le _,rfl,HO1.o,HB1.o⟩
 obtain⟨i,hi,rfl,ho,hb⟩:=hrel;have HO:=lh ho;have HB:=lh hb;clear ho hb
 by_cases hlt:i<Lx
 ·have hii:(i:Int)<(Lx:Int):=by omega
  have x0:=HX.o.keep HB.o i hlt;have xz:=zai x0;have hf:x/W32^i%W32<4294967296:=Nat.mod_lt _ (by decide);have HP1:Hid (x%W32^(i+1)*y=x%W32^i*y+x/W32^i%W32*y*W32^i):=mul_next _ _ _ _;have HPL:Hid (x%W32^i*y<W32^(i+Ly)):=mul_lt (by decide) HLY.o;generalize x/W32^i%W32=f at*;generalize x%W32^i*y=P at*;go_wp2_with fail;clear x0 xz
  go_loopw[10,31](fun c v wi=>∃(k V q:Nat),k<=Ly/\v=.int .i64 k/\c=.int .u64 q/\MulS W32 i P f y k V q/\OwnW wi wx.heap.size g N V/\Below wx.heap.size wx wi)(fun _ v _=>Ly-(intOf v).toNat)
  case atStart=>exact⟨0,P,0,Nat.zero_le _,rfl,rfl,MulS.start _ _ _ _ _ (by decide),HO.o,HB.o⟩
  rename World=>wi
  obtain⟨k,V,q,hk,rfl,rfl,hS,ho,hb⟩:=hrel;have HS:=lh hS;have HOI:=lh ho;have HBI:=lh hb;have hq:=hS.lt;clear hS ho hb
  by_cases hkt:k<Ly
  ·have hki:(k:Int)<(Ly:Int):=by omega
   have hik:i+k<N:=by have:=HN.o;omega
   have hiki:(i:Int)+(k:Int)<(N:Int):=by omega
   have y0:=HY.o.keep HBI.o k hkt;have yz:=zai y0;have v0:=HOI.o.cell hik;have vf:=HOI.o.fr (i+k);have vz:=HOI.o.lt.1;have HSM:=lh (HS.o.sum hf);have HST:=lh (HS.o.step hf rfl);have hd:V/W32^(i+k)%W32<4294967296:=Nat.mod_lt _ (by decide);have he:y/W32^k%W32<4294967296:=Nat.mod_lt _ (by decide);generalize V/W32^(i+k)%W32=d at*;generalize y/W32^k%W32=e at*;have hq2:q<4294967296:=hq;obtain⟨T,hT⟩:=nm (q+(d+f*e));rw[<-hT]at HSM HST;have HT:Hid (IntKind.u64.wrap ((q:Int)+IntKind.u64.wrap (IntKind.u64.wrap (d:Int)+IntKind.u64.wrap ((f:Int)*IntKind.u64.wrap (e:Int))))=(T:Int)):=mul_term hd he hT HSM.o
   have HTM:Hid (T%W32<W32):=Nat.mod_lt _ (by decide)
   have e32:(T:Int)%4294967296=((T%W32:Nat):Int):=by simp[W32]
   have e33:(T:Int)/4294967296=((T/W32:Nat):Int):=by simp[W32]
   have E32:=lh e32;have E33:=lh e33;generalize T%W32=Tm at*;generalize T/W32=Td at*;clear hT hd he hq2 e32 e33
   go_upto_region 10 with fail
   go_quiet(fail)
   rw[HT.o];obtain⟨w3,hw3⟩:=nm (wi.drewN nq)
   have HO3:Hid (OwnW w3 wx.heap.size g N V):=by rw[hw3];exact HOI.o
   have HB3:Hid (Below wx.heap.size wx w3):=by show Below _ _ _;rw[hw3];exact HBI.o.trans (drewN_w _ _)
   rw[<-hw3];clear v0 vf vz y0 yz hw3;have v0:=HO3.o.cell hik;have vf:=HO3.o.fr (i+k);have vz:=HO3.o.lt.1
   go_upto_region 13 with fail
   rw[E32.o,E33.o];have HO4:=lh (HO3.o.set hik HTM.o);have HB4:Hid (Below wx.heap.size wx (w3.setCell ⟨g,i+k,none⟩ (.int .u32 (Tm:Int)))):=HB3.o.setCell (by have:=HG.o;dsimp only;omega) _;generalize(w3.setCell ⟨g,i+k,none⟩ (.int .u32 (Tm:Int)))=w4 at*;clear v0 vf vz;go_wp2_with fail;go_roundw
   case rel=>exact⟨k+1,_,Td,by omega,by go_num,rfl,HST.o,HO4.o,HB4.o⟩
   case measure=>simp[intOf];omega
  obtain rfl:k=Ly:=by omega
  have hkn:¬((k:Int)<(k:Int)):=by omega
  have hik:i+k<N:=by have:=HN.o;omega
  have hiki:(i:Int)+(k:Int)<(N:Int):=by omega
  have v0:=HOI.o.cell hik;have vf:=HOI.o.fr (i+k);have vz:=HOI.o.lt.1
  have HO2:Hid (OwnW (wi.setCell ⟨g,i+k,none⟩ (.int .u32 (q:Int))) wx.heap.size g N (x%W32^(i+1)*y)):=by
   have h:=HOI.o.set hik hq;rw[HS.o.close HLY.o HPL.o,<-HP1.o]at h;exact h
  have HB2:Hid (Below wx.heap.size wx (wi.setCell ⟨g,i+k,none⟩ (.int .u32 (q:Int)))):=HBI.o.setCell (by have:=HG.o;dsimp only;omega) _
  have eq32:(q:Int)%4294967296=(q:Int):=by have h:q<4294967296:=hq;omega
  go_wp2_with fail;generalize(wi.setCell ⟨g,i+k,none⟩ (.int .u32 (q:Int)))=w4 at*;clear v0 vf vz;go_roundw
  case rel=>exact⟨i+1,by omega,by go_num,HO2.o,HB2.o⟩
  case measure=>simp[intOf];omega
 obtain rfl:i=Lx:=by omega
 have hkn:¬((i:Int)<(i:Int)):=by omega
 have HF:Hid (OwnW wr wx.heap.size g N (x*y)):=by
  have h:=HO.o;rw[Nat.mod_eq_of_lt HLX.o]at h;exact h
 have HXY:Hid (x*y<W32^N):=by
  show _<_
  rw[HN.o,Nat.pow_add];exact Nat.mul_lt_mul'' HLX.o HLY.o
 have hfr:=gfrom_any g N N (x*y) wr (by omega) HXY.o HF.o.wd;have HFR:=lh hfr;unfold natG at HFR;clear hfr;have HRR:=lh (HR.o.later HB.o);go_wp2_with fail;refine HFR.o.mono ?_;rintro e w5⟨rfl,hb5⟩;have hr5:=HRR.o.later hb5;have HBF:=lh (HBW.o.trans ((HB.o.trans (hb5.mono HB.o.size)).mono HBW.o.size));have r0:=hr5.cell 0;have rf:=hr5.fr 0;have rz:=hr5.lt;clear hb5;go_wp2_with fail;have g0:=(hr5.set 0 (.string (bytesG (x*y)))).cell 0;exact bodyPost_ret (v:=.agg #[.string (bytesG (x*y))]) (by simp[results,Tryz.results47,go_sem,g0]) rfl ⟨rfl,HBF.o.setCell (by dsimp only;omega) _⟩
def shV(B d x i:Nat):Nat:=x%B^i+x/B^i/d*B^i
theorem shV_top{B d x i:Nat}(h:x<B^i):shV B d x i=x:=by unfold shV;rw[Nat.div_eq_of_lt h,Nat.zero_div,Nat.zero_mul,Nat.mod_eq_of_lt h,Nat.add_zero]
theorem shV_zero(B d x:Nat):shV B d x 0=x/d:=by unfold shV;rw[Nat.pow_zero,Nat.mod_one,Nat.div_one,Nat.zero_add,Nat.mul_one]
theorem shV_dig{B d x i:Nat}(hB:0<B):shV B d x (i+1)/B^i%B=x/B^i%B:=by
 unfold shV;rw[dig_low hB (Nat.dvd_mul_left _ _),mod_dig hB (by omega)]
theorem shV_step{B d x i:Nat}(hB:0<B)(hd:0<d):setD B (shV B d x (i+1)) i ((x/B^(i+1)%d*B+x/B^i%B)/d)=shV B d x i/\(x/B^(i+1)%d*B+x/B^i%B)%d=x/B^i%d:=by
 have e1:x/B^i=x/B^(i+1)*B+x/B^i%B:=by
  rw[Nat.pow_succ,<-Nat.div_div_eq_div_mul,Nat.mul_comm (x/B^i/B)];exact(Nat.div_add_mod _ _).symm
 have e2:shV B d x (i+1)%B^i=x%B^i:=by
  unfold shV;rw[show x/B^(i+1)/d*B^(i+1)=B^i*(x/B^(i+1)/d*B)by rw[Nat.pow_succ,Nat.mul_left_comm],Nat.add_mul_mod_self_left,Nat.pow_succ,Nat.mod_mul_right_mod]
 have e3:shV B d x (i+1)/B^(i+1)=x/B^(i+1)/d:=by
  unfold shV;rw[Nat.mul_comm,Nat.add_mul_div_left _ _ (Nat.pow_pos hB),Nat.div_eq_of_lt (Nat.mod_lt _ (Nat.pow_pos hB)),Nat.zero_add]
 generalize hH:x/B^(i+1)=H at*;generalize hD:x/B^i%B=D at*
 have e4:H*B+D=d*(H/d*B)+(H%d*B+D):=by
  have:=Nat.div_add_mod H d
  conv=>lhs;rw[<-this]
  rw[Nat.add_mul,Nat.mul_assoc,Nat.add_assoc]
 constructor
 ·unfold setD;rw[e2,e3];unfold shV;rw[e1,e4,Nat.mul_add_div hd,Nat.add_mul,Nat.pow_succ];rw[show H/d*B*B^i=H/d*(B^i*B)by rw[Nat.mul_assoc,Nat.mul_comm B]];omega
 rw[e1,e4,Nat.mul_add_mod]
def OwnCw(w:World)(base g L c x:Nat):Prop:=OwnL Q32 62 1 w base (.slice (some ⟨g,0,none⟩) L c) (digP W32 L x)
theorem OwnW.c{w:World}{base g L x:Nat}(h:OwnW w base g L x):OwnCw w base g L L x:=h
theorem OwnCw.cell{w:World}{base g L c x k:Nat}(h:OwnCw w base g L c x)(hk:k<L):w.cell? ⟨g,k,none⟩=some (.int .u32 ((x/W32^k%W32:Nat):Int)):=by
 have:=OwnL.cell (digP_len _ _ _).symm h Q32_len k 0 (by rw[digP_len];exact hk) (by omega)
 simp[Q32,digP]at this
 simpa using this
theorem OwnCw.fr{w:World}{base g L c x:Nat}(h:OwnCw w base g L c x)(k:Nat):w.frozen? ⟨g,k,none⟩=false:=OwnL.fr (digP_len _ _ _).symm h k
theorem OwnCw.lt{w:World}{base g L c x:Nat}(h:OwnCw w base g L c x):g<w.heap.size/\base<=g:=OwnL.lt h
theorem OwnCw.wd{w:World}{base g L c x:Nat}(h:OwnCw w base g L c x):Wd w g L x:=fun _ hk=>h.cell hk
theorem OwnCw.kept{M:Nat->Prop}{w w':World}{base g L c x:Nat}(h:OwnCw w base g L c x)(hb:Kp M w w')(hm:¬M g):OwnCw w' base g L c x:=OwnL.kept h hb (fun k hk=>by simp[Value.ownBlock]at hk;subst hk;exact hm)
theorem OwnCw.set{w:World}{base g L c x k d:Nat}(h:OwnCw w base g L c x)(hk:k<L)(hd:d<W32):OwnCw (w.setCell ⟨g,k,none⟩ (.int .u32 (d:Int))) base g L c (setD W32 x k d):=by
 have:=OwnL.put1 (digP_len _ _ _).symm h Q32_len k (by rw[digP_len];exact hk) d _ rfl
 have h2:(digP W32 L x).set k d=digP W32 L (setD W32 x k d):=by
  have h3:=digP_set (B:=W32) (x:=x) (y:=setD W32 x k d) hk (fun _ _ hj=>(setD_other (by decide) hd hj).symm);rw[setD_same (by decide) hd]at h3;exact h3
 rw[h2]at this;exact this
theorem gshrink_any(g L c d x base:Nat)(w:World)(hL:L<=1000000)(hx:x<W32^L)(hd:0<d)(hd2:d<W32)(ho:OwnCw w base g L c x):
 Calls Tryz.prog 44 #[.slice (some ⟨g,0,none⟩) L c,.int .u32 (d:Int)] w fun e w'=>e=.returned (.int .u32 ((x%d:Nat):Int))/\OwnCw w' base g L c (x/d)/\Kp (fun y=>y=g) w w':=by
 have HX:=lh hx;have HO:=lh ho;have HD:=lh hd;have HD2:=lh hd2
 have hd4:(d:Int)<4294967296:=by have h:d<4294967296:=hd2;omega
 have hd0:(0:Int)<(d:Int):=by omega
 clear hx ho hd hd2;go_enter Tryz.func44,Tryz.ntmps44;go_wp2_with fail
 go_loopw[5,6](fun r v wr=>∃i:Nat,i<=L/\v=.int .i64 ((i:Int)-1)/\r=.int .u64 ((x/W32^i%d:Nat):Int)/\OwnCw wr base g L c (shV W32 d x i)/\Kp (fun y=>y=g) w wr)(fun _ v _=>((intOf v)+1).toNat)
 case atStart=>exact⟨L,Nat.le_refl _,rfl,by rw[Nat.div_eq_of_lt HX.o,Nat.zero_mod];rfl,by rw[shV_top HX.o];exact HO.o,Kp.refl _ _⟩
 obtain⟨i,hi,rfl,rfl,ho,hk⟩:=hrel;have HO:=lh ho;have HK:=lh hk;clear ho hk
 cases i with
 |zero=>
   have HF:Hid (OwnCw wr base g L c (x/d)):=by have h:=HO.o;rw[shV_zero]at h;exact h
   have HM:Hid (((x/W32^0%d:Nat):Int)%4294967296=((x%d:Nat):Int)):=by
    show _=_
    rw[Nat.pow_zero,Nat.div_one];have:=Nat.mod_lt x HD.o;have h:d<4294967296:=HD2.o;omega
   generalize x/W32^0%d=R at*;go_wp2_with fail;rw[HM.o];go_ret;exact⟨rfl,HF.o,HK.o⟩
 |succ i=>
   have hiL:i<L:=by omega
   have hil:(i:Int)<(L:Int):=by omega
   have c0:=HO.o.cell hiL;have f0:=HO.o.fr i;have gz:=HO.o.lt.1;obtain⟨s1,s2⟩:=shV_step (B:=W32) (d:=d) (x:=x) (i:=i) (by decide) HD.o;have hdg:=shV_dig (B:=W32) (d:=d) (x:=x) (i:=i) (by decide);rw[hdg]at c0;have hD4:x/W32^i%W32<4294967296:=Nat.mod_lt _ (by decide);have hR4:x/W32^(i+1)%d<d:=Nat.mod_lt _ HD.o;have HS1:=lh s1;have HS2:=lh s2;generalize x/W32^i%W32=D at*;generalize x/W32^(i+1)%d=R at*
   have HVAL:Hid (bits .or .u64 ((R:Int)*4294967296) (D:Int)=((R*W32+D:Nat):Int)):=by
    have hd:d<4294967296:=HD2.o
    show _=((R*4294967296+D:Nat):Int)
    rw[show(R:Int)*4294967296=((R*4294967296:Nat):Int)by omega,u64_or_nat _ _ (by omega) (by omega)];have h:=Nat.shiftLeft_add_eq_or_of_lt (i:=32) (show D<2^32 by omega) R;rw[Nat.shiftLeft_eq]at h;rw[<-h]
   clear s1 s2 hdg
   go_upto_region 6 with fail
   rw[HVAL.o]
   have hyd:(R*W32+D)/d<W32:=by
    rw[Nat.div_lt_iff_lt_mul HD.o];have h1:(R+1)*4294967296<=d*4294967296:=Nat.mul_le_mul_right _ hR4
    show R*4294967296+D<4294967296*d
    rw[Nat.mul_comm 4294967296 d];omega
   have HYD:=lh hyd;clear hyd;generalize R*W32+D=y at*;clear HVAL
   have HQ4:Hid (IntKind.u64.wrap ((y:Int)/(d:Int))%4294967296=((y/d:Nat):Int)):=by
    have h:y/d<4294967296:=HYD.o
    show _=_
    rw[show(y:Int)/(d:Int)=((y/d:Nat):Int)by push_cast;rfl];generalize y/d=Z at h⊢;rw[u64w (by omega)];omega
   have HM4:Hid ((y:Int)%(d:Int)=((x/W32^i%d:Nat):Int)):=by
    show _=_
    rw[<-HS2.o];push_cast;rfl
   go_upto_region 4 with fail
   rw[HQ4.o,HM4.o];have HO2:=lh (HO.o.set hiL HYD.o);rw[HS1.o]at HO2;have HK2:Hid (Kp (fun y=>y=g) w (wr.setCell ⟨g,i,none⟩ (.int .u32 ((y/d:Nat):Int)))):=HK.o.trans (Kp.setCell _ _ _ rfl);generalize(wr.setCell ⟨g,i,none⟩ (.int .u32 ((y/d:Nat):Int)))=w2 at*;clear c0 f0 gz
   have hi1:((i+1:Nat):Int)-1=(i:Int):=by omega
   go_wp2_with fail;go_roundw
   case rel=>exact⟨i,by omega,by go_num,rfl,HO2.o,HK2.o⟩
   case measure=>simp[intOf]
end Go.Proofs.YtnlaakmglhjjmaaGreatDoor
