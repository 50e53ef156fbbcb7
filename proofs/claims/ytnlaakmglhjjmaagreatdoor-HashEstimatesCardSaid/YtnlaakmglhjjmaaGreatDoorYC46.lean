/- Parts of the proofs of laws. Texts: Kf, ArgB, Arg2, Arg4, ArgV, ArgP. -/
import Derived.Test.YtnlaakmglhjjmaaGreatDoorYC45
import Derived.Test.YtnlaakmglhjjmaaGreatDoorRows
import Derived.LaidMore
import Derived.LaidSub
import Derived.Stop.Joined
import Derived.Lib.SmallJoins
import Derived.Lay
set_option maxHeartbeats 8000000
set_option maxRecDepth 100000
set_option linter.all false
namespace Go.Proofs.YtnlaakmglhjjmaaGreatDoor
open Go.RowKit Cen
theorem text_any(x:Nat)(hx:x<65536)(w:World):Calls Tryz.prog 16 #[.agg #[.string (natB x)]] w fun e w'=>e=.returned (.string (decB x))/\Below w.heap.size w w':=by
 rw[natB_eq];exact gtext_any x (nB_small hx) w
theorem OwnP5.pc{w:World}{base:Nat}{l:List Pr}{a:Option Addr}{c:Nat}(h:OwnP5 w base (.slice a l.length c) l):PrCells w a l:=fun k hk=>by
 rcases h.shape with⟨_,h2⟩|⟨g,cap,h1,_⟩
 ·subst h2;simp at hk
 simp only[Value.slice.injEq]at h1;obtain⟨rfl,_,_⟩:=h1;have c0:=OwnL.cell rfl h zax k 0 hk (by omega);have c1:=OwnL.cell rfl h zax k 1 hk (by omega);have c2:=OwnL.cell rfl h zax k 2 hk (by omega)
 have e:l.getD k default=l[k]:=by simp[List.getD_eq_getElem?_getD,hk]
 rw[e];simp only[prc,Nat.add_zero,List.getElem?_cons_zero,List.getElem?_cons_succ]at c0 c1 c2;exact⟨g,0,rfl,by rw[Nat.zero_add];exact c0,by rw[Nat.zero_add];exact c1,by rw[Nat.zero_add];exact c2⟩
theorem cell_many(n:Int)(ta:Option Addr)(tc:Nat)(t:List Cl)(la:Option Addr)(lc ll:Nat)(w:World)(hx:LsCells w ta t)(ht:t.length<=1073741824)(htl:∀c∈t,c.length<=1073741824)(hc:chkT n t=0)(hl:16<ll):
 Calls Tryz.prog 12 #[.agg #[.int .i64 n,.slice ta t.length tc],.slice la ll lc] w (zls 0 1 w):=by
 obtain⟨w0,hw0⟩:=nm ((w.alloc (.cells #[.int .i64 n,.slice ta t.length tc] 26)).alloc (.cells #[.string ⟨#[]⟩] 36))
 have hb0:Below w.heap.size w w0:=by rw[hw0];exact(ba _ _).alloc (by simp) _
 have q0:Blk w0 w.heap.size #[.int .i64 n,.slice ta t.length tc] 26:=by rw[hw0];exact(Blk.new _ _ _).alloc _
 have q1:Blk w0 (w.heap.size+1) #[.string ⟨#[]⟩] 36:=by rw[hw0];exact Blk.new' _ (by simp) _ _
 have HCK:=lh (fun V(hV:Below w.heap.size w V)=>zbj n ta tc t V ht htl (hx.keep hV));rw[hc]at HCK;have HB0:=lh hb0;have HQ1:=lh q1
 have hl16:(16:Int)<(ll:Int):=by omega
 have k0:=q0.cell 0;have k1:=q0.cell 1;have kz:=q0.lt;clear hb0 q0 q1 hx ht htl hc hl;go_enter Tryz.func12,Tryz.ntmps12;go_wp2_with fail;rw[<-hw0];clear hw0;refine(HCK.o _ HB0.o).mono ?_;rintro e w1⟨rfl,hb1⟩;have HB1:=bt HB0 hb1;have HA1:=lh (HQ1.o.later hb1);clear hb1 k0 k1 kz HCK;have a0:=HA1.o.cell 0;have af:=HA1.o.fr 0;have al:=HA1.o.lt;go_wp2_with fail;have g0:=(HA1.o.set 0 (.string ⟨#[]⟩)).cell 0;exact bodyPost_ret (v:=.tuple #[.agg #[.string ⟨#[]⟩],.int .i64 1]) (by simp[results,Tryz.results12,go_sem,g0]) rfl ⟨rfl,HB1.o.setCell (show w.heap.size<=w.heap.size+1 by omega) _⟩
def lgt45(z:Int)(t:List Cl):Bool:=zdz t&&(decide (z<=8)||!decide (chkT z t=0))
theorem light45_any(z:Int)(a:Option Addr)(cap:Nat)(t:List Cl)(w:World)(hl:t.length<=9223372036854775807)(hx:LsCells w a t):
 Calls Tryz.prog 13 #[.agg #[.int .i64 z,.slice a t.length cap]] w fun e w'=>e=.returned (.bool (lgt45 z t))/\Below w.heap.size w w':=by
 obtain⟨w0,hw0⟩:=nm (w.alloc (.cells #[.int .i64 z,.slice a t.length cap] 26))
 have hb0:Below w.heap.size w w0:=by rw[hw0];exact ba _ _
 have q0:Blk w0 w.heap.size #[.int .i64 z,.slice a t.length cap] 26:=by rw[hw0];exact Blk.new _ _ _
 have HLI:=lh (zla z a cap t w0 hl (hx.keep hb0));have HB0:=lh hb0;have HQ0:=lh q0;have HXC:=lh (fun V(hV:Below w.heap.size w V)=>hx.keep hV);have HLE:Hid (lgt45 z t=(zdz t&&(decide (z<=8)||!decide (chkT z t=0)))):=rfl
 have HLL:Hid (zdz t=true->t.length<=1073741824):=fun h=>by
  unfold zdz at h;simp only[Bool.and_eq_true,decide_eq_true_eq]at h;omega
 have k0:=q0.cell 0;have k1:=q0.cell 1;have kz:=q0.lt;generalize lgt45 z t=R at*;clear hb0 q0 hx hl;go_enter Tryz.func13,Tryz.ntmps13;go_wp2_with fail;rw[<-hw0];clear hw0
 cases hlt:zdz t with
 |false=>
   rw[hlt]at HLI HLE;have HR:Hid (R=false):=HLE.o;clear hlt HLL;refine HLI.o.mono ?_;rintro e w1⟨rfl,hb1⟩;have HB1:=bt HB0 hb1;clear hb1 k0 k1 kz;go_wp2;go_ret;exact⟨by rw[HR.o];rfl,HB1.o⟩
 |true=>
   have h30:=HLL.o hlt;rw[hlt,Bool.true_and]at HLE;rw[hlt]at HLI;clear hlt HLL;refine HLI.o.mono ?_;rintro e w1⟨rfl,hb1⟩;have HB1:=bt HB0 hb1;have HQ1:=lh (HQ0.o.later hb1);clear hb1 k0 k1 kz;have k0:=HQ1.o.cell 0;have k1:=HQ1.o.cell 1;have kz:=HQ1.o.lt
   by_cases h8:z<=8
   ·have HR:Hid (R=true):=by show _=_;rw[HLE.o,decide_eq_true h8,Bool.true_or]
    go_wp2;go_ret;exact⟨by rw[HR.o];rfl,HB1.o⟩
   have HCK:=lh (check5_all z a cap t w1 h30 (HXC.o _ HB1.o))
   have h8d:decide (z<=8)=false:=by simpa using h8
   rw[h8d,Bool.false_or]at HLE
   have HCR:Hid ((chkT z t !=0)=R):=by
    show _=_
    rw[HLE.o]
    by_cases h:chkT z t=0
    ·rw[h];rfl
    rw[decide_eq_false h];simpa using h
   generalize chkT z t=c at*;clear h8;go_wp2_with fail;refine HCK.o.mono ?_;rintro e w2⟨rfl,hb2⟩;have HB2:=bt HB1 hb2;clear hb2 k0 k1 kz;go_wp2;go_ret;exact⟨by rw[<-HCR.o];rfl,HB2.o⟩
theorem cells_both(z:Int)(a:Option Addr)(cap:Nat)(t:List Cl)(la:Option Addr)(lc:Nat)(l:List Pr)(w:World)(h5:lgt45 z t=true)(h20:l.length<=20)(hx:LsCells w a t)(hp:PrCells w la l)(hok:∀p∈l,p.ok)(htab:Tab w)(hdt:Dtab w):
 ∃(Q:Nat)(c:Int),Q<65536/\(∀V,Below w.heap.size w V->Calls Tryz.prog 12 #[.agg #[.int .i64 z,.slice a t.length cap],.slice la l.length lc] V (zls Q c V))/\
  ∀V lb ld,Below w.heap.size w V->PrCells V lb l->Calls Tryz.prog 14 #[.agg #[.int .i64 z,.slice a t.length cap],.slice lb l.length ld] V (R45 (decB Q) c V):=by
 unfold lgt45 at h5;rw[Bool.and_eq_true]at h5;obtain⟨hl5,h5⟩:=h5
 have h60:t.length<=60/\∀c∈t,c.length<=140:=by
  unfold zdz at hl5;simp only[Bool.and_eq_true,List.all_eq_true,decide_eq_true_eq]at hl5;exact⟨hl5.2,hl5.1⟩
 have hd0:decB 0=⟨#[48]⟩:=by unfold decB decL;rw[if_pos rfl]
 have htl:∀c∈t,c.length<=1073741824:=fun c hc=>by have:=h60.2 c hc;omega
 by_cases hc:chkT z t=0
 ·have hz:0<=z/\z<=128:=Classical.byContradiction fun h=>by
   unfold chkT at hc;rw[if_pos (by omega)]at hc;simp at hc
  have hz8:z<=8:=by rw[hc]at h5;simpa using h5
  obtain⟨n,rfl⟩:=Int.eq_ofNat_of_zero_le hz.1
  have hn8:n<=8:=by omega
  have htk:tOk n t:=(zng (by omega)).1 hc
  have hv:val45 n t l=if 16<l.length\/l.any (outP n)=true then(⟨#[48]⟩,1)else(decB (cellT n t l),0):=rfl
  by_cases h16:16<l.length
  ·rw[if_pos (.inl h16)]at hv;refine⟨0,1,by decide,fun V hV=>cell_many n a cap t la lc l.length V (hx.keep hV) (by omega) htl hc h16,fun V lb ld hV hq=>?_⟩;have h:=cell45_good n a cap t lb ld l V hn8 htk (hx.keep hV) h20 hq hok;rw[hv]at h;rw[hd0];exact h
  by_cases ho:l.any (outP n)=true
  ·rw[if_pos (.inr ho)]at hv;refine⟨0,1,by decide,fun V hV=>cell_out n a cap t la lc l V (hx.keep hV) (by omega) htl hc (by omega) (hp.keep hV) hok ho,fun V lb ld hV hq=>?_⟩;have h:=cell45_good n a cap t lb ld l V hn8 htk (hx.keep hV) h20 hq hok;rw[hv]at h;rw[hd0];exact h
  have hin:InP n l:=fun p hp=>by
   refine⟨hok p hp,(zyc (hok p hp)).1 ?_⟩
   cases hq:outP n p with
   |false=>rfl
   |true=>exact absurd (List.any_eq_true.2 ⟨p,hp,hq⟩) ho
  rw[if_neg (by simp[ho];omega)]at hv
  have hg:Gdt n t []:=⟨by omega,by omega,fun c hc=>(htk.cl c hc).1,by unfold zc3;rw[if_neg (by rw[hc];simp),if_neg (by simp)]⟩
  refine⟨cellT n t l,0,?_,fun V hV=>cellT_any hg hn8 a cap la lc l V (hx.keep hV) (by omega) (hp.keep hV) hin (htab.keep hV) (hdt.keep hV),fun V lb ld hV hq=>?_⟩
  ·have h1:cellT n t l<=2^n:=zfh _ _ _;exact Nat.lt_of_le_of_lt h1 (Nat.lt_of_le_of_lt (Nat.pow_le_pow_right (by decide) hn8) (by decide))
  have h:=cell45_good n a cap t lb ld l V hn8 htk (hx.keep hV) h20 hq hok;rw[hv]at h;exact h
 refine⟨0,chkT z t,by decide,fun V hV=>cell_bad z a cap t la lc l.length (chkT z t) V (hx.keep hV) (by omega) htl rfl hc,fun V lb ld hV hq=>?_⟩;rw[hd0];exact cell45_bad z a cap t lb ld l.length (chkT z t) V (hx.keep hV) (by omega) rfl hc
theorem hcells_any(z:Int)(a:Option Addr)(cap:Nat)(t:List Cl)(la:Option Addr)(lc:Nat)(l:List Pr)(w:World)(hl:t.length<=9223372036854775807)(hx:LsCells w a t)(hll:l.length<=9223372036854775807)(hp:PrCells w la l)(hok:∀p∈l,p.ok)(htab:Tab w)(hdt:Dtab w):
 Calls Tryz.prog 4 #[.agg #[.int .i64 z,.slice a t.length cap],.slice la l.length lc] w fun e w'=>e=.returned (.bool true)/\Below w.heap.size w w':=by
 obtain⟨w0,hw0⟩:=nm (w.alloc (.cells #[.int .i64 z,.slice a t.length cap] 26))
 have hb0:Below w.heap.size w w0:=by rw[hw0];exact ba _ _
 have q0:Blk w0 w.heap.size #[.int .i64 z,.slice a t.length cap] 26:=by rw[hw0];exact Blk.new _ _ _
 have HLI:=lh (light45_any z a cap t w0 hl (hx.keep hb0));have HWK:=lh (fun V(hV:Below w.heap.size w V)=>zfz V (htab.keep hV) (hdt.keep hV));have HB0:=lh hb0;have HQ0:=lh q0;have k0:=q0.cell 0;have k1:=q0.cell 1;have kz:=q0.lt
 by_cases hc:lgt45 z t=true/\l.length<=20
 case' neg=>
  cases hlt:lgt45 z t
  case' true=>
   have h20:(20:Int)<(l.length:Int):=by
    have:¬l.length<=20:=fun h=>hc ⟨hlt,h⟩
    omega
  all_goals
   rw[hlt]at HLI;clear hb0 q0 hx hl hlt hll hp hok htab hdt hc;go_enter Tryz.func4,Tryz.ntmps4;go_wp2_with fail;rw[<-hw0];clear hw0;refine HLI.o.mono ?_;rintro e w1⟨rfl,hb1⟩;have HB1:=bt HB0 hb1;clear hb1 k0 k1 kz;go_wp2_with fail;refine(HWK.o _ HB1.o).mono ?_;rintro e w2⟨rfl,hb2⟩;go_wp2;go_ret;exact⟨rfl,HB1.o.trans (hb2.mono HB1.o.size)⟩
 obtain⟨hlt,h20⟩:=hc;obtain⟨Q,c,hQ,hca,hcb⟩:=cells_both z a cap t la lc l w hlt h20 hx hp hok htab hdt;have HCA:=lh hca;have HCB:=lh hcb;have HTX:=lh (fun V=>text_any Q hQ V);have HSP:=lh (fun V(hV:Below w.heap.size w V)=>spec45_any la lc l V (by omega) (hp.keep hV))
 have h20i:¬(20:Int)<(l.length:Int):=by omega
 rw[hlt]at HLI;clear hb0 q0 hx hl hlt hll hp hok htab hdt hca hcb hQ h20;go_enter Tryz.func4,Tryz.ntmps4;go_wp2_with fail;rw[<-hw0];clear hw0;refine HLI.o.mono ?_;rintro e w1⟨rfl,hb1⟩;have HB1:=bt HB0 hb1;have HQ1:=lh (HQ0.o.later hb1);clear hb1 k0 k1 kz HLI HB0 HQ0;have k0:=HQ1.o.cell 0;have k1:=HQ1.o.cell 1;have kz:=HQ1.o.lt;go_wp2_with fail;refine(HCA.o _ HB1.o).mono ?_;rintro e w2⟨rfl,hb2⟩;have HB2:=bt HB1 hb2;have HQ2:=lh (HQ1.o.later hb2);clear hb2 k0 k1 kz HQ1 HB1 HCA;obtain⟨nb,hnb⟩:=nm w2.heap.size;obtain⟨w3,hw3⟩:=nm (w2.alloc (.cells #[.string (natB Q)] 36))
 have hb3:Below w2.heap.size w2 w3:=by rw[hw3];exact ba _ _
 have q3:Blk w3 nb #[.string (natB Q)] 36:=by rw[hw3,hnb];exact Blk.new _ _ _
 have HB3:=bt HB2 hb3;have HQ3:=lh (HQ2.o.later hb3);have HN3:=lh q3
 go_upto_region 4 with fail
 rw[<-hw3,<-hnb];clear hw3 hnb hb3 q3 HQ2 HB2;have k0:=HQ3.o.cell 0;have k1:=HQ3.o.cell 1;have kz:=HQ3.o.lt
 have HKS:Hid (∀w':World,Below w3.heap.size w3 w'->(fun w'=>w'.cell? ⟨w.heap.size,0,none⟩=some (.int .i64 z)/\w'.cell? ⟨w.heap.size,1,none⟩=some (.slice a t.length cap)) w'):=fun w' hb=>⟨zab hb k0,zab hb k1⟩
 go_cut[7,8](fun s e wx=>s=.string (decB Q)/\e=.int .i64 c/\Below w3.heap.size w3 wx)
 case first=>
  refine wp_region_held_drew (S:=(fun w'=>w'.cell? ⟨w.heap.size,0,none⟩=some (.int .i64 z)/\w'.cell? ⟨w.heap.size,1,none⟩=some (.slice a t.length cap))) (by kernel_rfl) (by exact HKS.o _ ((Below.refl w3.heap.size w3).drew)) fun hH=>?_
  refine tkV 0 25 rfl rfl ?_;try simp only[tkS]
  refine tkV 1 26 rfl rfl ?_;try simp only[tkS]
  refine tkR 2 (.cons rfl (fun K hK=>?_) .nil);go_simp;go_at_call 15;refine Calls.mono (HSP.o _ (Below.trans HB3.o (Below.mono (Below.refl w3.heap.size w3).drew HB3.o.size))) ?_;rintro e V21⟨oa,oc,rfl,ho21,hb21⟩;have hv21:Below w3.heap.size w3 V21:=Below.trans (Below.refl w3.heap.size w3).drew (Below.mono hb21 (Below.size (Below.refl w3.heap.size w3).drew));have hp21:=ho21.pc;clear hb21 ho21;go_wp2_with fail
  refine hK.out _ _ (by exact HKS.o _ hv21) fun hH=>?_
  clear hK K
  try simp only[tkS]
  refine tkR 3 (.cons rfl (fun K hK=>?_) .nil);go_simp;go_at_call 14;refine Calls.mono (HCB.o _ _ _ (Below.trans HB3.o (Below.mono hv21 HB3.o.size)) hp21) ?_;rintro e V22⟨rfl,hb22⟩;have hv22:Below w3.heap.size w3 V22:=Below.trans hv21 (Below.mono hb22 (Below.size hv21));clear hb22;go_wp2_with fail
  refine hK.out _ _ (by exact HKS.o _ hv22) fun hH=>?_
  clear hK K
  try simp only[tkS]
  refine tkV 4 24 rfl rfl ?_;try simp only[tkS]
  refine tkV 5 29 rfl rfl ?_;try simp only[tkS]
  refine tkV 6 30 rfl rfl ?_;try simp only[tkS]
  refine tkV 7 7 rfl rfl ?_;try simp only[tkS]
  refine tkV 8 8 rfl rfl ?_;try simp only[tkS]
  refine wpAnyH_done (by kernel_rfl) ?_ _;go_wp2_with fail
  go_meet
  exact⟨rfl,rfl,hv22⟩
 obtain⟨rfl,rfl,hbx⟩:=hcut
 rename World=>wx
 have HBX:=bt HB3 hbx;have q4:=HN3.o.later hbx;have n0:=q4.cell 0;have nz:=q4.lt;clear hbx k0 k1 kz HKS;go_wp2_with fail;refine(HTX.o _).mono ?_;rintro e w5⟨rfl,hb5⟩;have HB5:=bt HBX hb5;clear hb5 n0 nz q4;go_wp2_with fail;refine(HWK.o _ HB5.o).mono ?_;rintro e w6⟨rfl,hb6⟩;go_wp2;go_ret;exact⟨rfl,HB5.o.trans (hb6.mono HB5.o.size)⟩
end Go.Proofs.YtnlaakmglhjjmaaGreatDoor
namespace Go.Proofs.YtnlaakmglhjjmaaGreatDoor
open Go.Joins Go.ChangeShapes Go.WideShapes Go.ChangeAt Go.Deep Go.RowKit Cen
theorem ycy:ownKnob Tryz.prog.godebug=none:=by kernel_rfl
theorem zdy:laidOutB Tryz.prog=true:=by kernel_rfl
def laidOf:List (String×DataW Unit):=[("math/bits.deBruijn32tab",Rows.laid_math_bits_deBruijn32tab),("math/bits.deBruijn64tab",Rows.laid_math_bits_deBruijn64tab),("internal/strconv.uint64pow10",Rows.laid_internal_strconv_uint64pow10)]
theorem laid_plain:(laidOf.all fun x=>x.2.handleName?.isNone)=true:=by kernel_rfl
theorem zj3{W:World}(h:laidMetH Tryz.prog laidOf W):Tab W:=by
 have h2:=h.filter (fun x=>x.1== "internal/strconv.uint64pow10")
 have e:(laidOf.filter fun x=>x.1== "internal/strconv.uint64pow10")=("internal/strconv.uint64pow10",Lib.tabData .u64 Lib.pow10Tab)::[]:=by kernel_rfl
 rw[e,MakeChecks.laidMetH_plain _ _ _ (by kernel_rfl)]at h2;exact Lib.tabIs_of_head (g:=1) (by kernel_rfl) (by kernel_rfl) Tryz.underlying257 Tryz.underlying27 (by kernel_rfl) (by kernel_rfl) h2
section
variable{H:Type}{enc:TypeId×Value->H}{P:Program}{w:World}{base:Nat}{spare:Nat->Bool}{held:Bool}
theorem zgi{f:Func}{s:ChangeSpec}{apart fresh handsOn again:Bool}{W W':World}{args:Array Value}{v:Value}{ds gs:List (DataW H)}{before pa pv:List MemPlace}
 (hW:DataW.Whole enc P f.params.toList s.vars apart W args.toList ds gs before)
 (hres:∀(b:Nat)(sp:Nat->Bool)(hd:Bool),DataW.TrodAll enc P W' b sp hd f.resultTypes.toList (v.resultList f.resultTypes.size) (s.fn H (ds++gs)).results [])
 (hargs:∀sp:Nat->Bool,(∀p∈before,sp p.block=true)->DataW.TrodAll enc P W' 0 sp true f.params.toList args.toList (s.fn H (ds++gs)).args pa)
 (hvars:∀sp:Nat->Bool,(∀p∈before,sp p.block=true)->DataW.TrodVars enc P W' sp s.vars (s.fn H (ds++gs)).vars pv)
 (hps:before=pa++pv)(hb:Below W.heap.size W W')
 (hok:∀(j:Nat)(t:TypeId)(r:Value),f.resultTypes[j]?=some t->(v.resultList f.resultTypes.size)[j]?=some r->Value.okWide P W' .any 0 t r):
 s.post enc P f apart fresh handsOn again W args v W':=by
 have hlt:∀p∈before,p.block<W.heap.size:=fun p hp=>hW.lt p hp
 have hold:∀p∈before,(fun b=>decide (b<W.heap.size)) p.block=true:=fun p hp=>by simpa using hlt p hp
 refine⟨ds,gs,before,[],pa,pv,hW,hres _ _ _,hargs _ hold,hvars _ hold,World.keptBut_mono (fun p hp=>⟨hp,?_⟩) (hb.frame (·∈before)),fun _=>?_⟩
 ·rw[hps,List.mem_append]at hp;exact Or.inr hp
 obtain⟨_,_,_,_,_,hz,hn⟩:=hW;refine⟨hok,_,_,([]++pa)++pv,⟨[]++pa,pv,trodAll_append (hargs _ (fun _ _=>rfl)) (hres _ _ _),hvars _ (fun _ _=>rfl),rfl,?_,?_⟩,?_⟩
 ·intro b off hp
  have hin:MemPlace.cell b off∈before:=by rw[hps];simpa using hp
  rw[hb.frozen (hlt _ hin)];exact hz b off hin
 ·intro ha;have:=hn ha;rw[hps]at this
  simpa using this
 intro p hp _;rw[hps]
 simpa using hp
end
theorem zvb{α:Type}[Inhabited α]{Q:Nat->α->Prop}:∀(n:Nat),(∀i,i<n->∃x,Q i x)->∃l:List α,l.length=n/\∀i,i<n->Q i (l.getD i default)
 |0,_=>⟨[],rfl,fun i h=>absurd h (Nat.not_lt_zero _)⟩
 |n+1,h=>by
   obtain⟨l,hl,hq⟩:=zvb n fun i hi=>h i (by omega)
   obtain⟨x,hx⟩:=h n (by omega);refine⟨l++[x],by simp[hl],fun i hi=>?_⟩
   by_cases e:i<n
   ·have:(l++[x]).getD i default=l.getD i default:=by simp[List.getD_eq_getElem?_getD,List.getElem?_append_left (show i<l.length by omega)]
    rw[this];exact hq i e
   have e2:i=n:=by omega
   subst e2
   have:(l++[x]).getD i default=x:=by simp[List.getD_eq_getElem?_getD,<-hl]
   rw[this];exact hx
theorem zts{w:World}{a:Addr}{n:Nat}{v:Value}(h:w.cell? (a.add n)=some v):w.cell? ⟨a.block,a.off+n,none⟩=some v:=by
 by_cases e:n=0
 ·subst e;have h2:w.cell? a=some v:=h;obtain⟨b,o,s⟩:=a
  cases s with
  |none=>exact h2
  |some k=>
    exfalso
    unfold World.cell? at h2
    split at h2<;>simp at h2
 simpa[Addr.add,e]using h
theorem zv5{w:World}{a:Addr}{v:Value}(h:w.cell? (a.add 0)=some v):a=⟨a.block,a.off,none⟩:=by
 obtain⟨b,o,s⟩:=a
 cases s with
 |none=>rfl
 |some k=>
   exfalso
   unfold World.cell? Addr.add at h
   split at h<;>simp at h
section
variable{H:Type}{enc:TypeId×Value->H}{W:World}{base:Nat}{spare:Nat->Bool}{held:Bool}
theorem ybf{fuel:Nat}{v:Value}{x:DataW H×List MemPlace}(h:DataW.trod enc Tryz.prog W base spare held fuel 75 [v]=some x):
 ∃(a:Option Addr)(l:List Int)(cap:Nat),v=.slice a l.length cap/\l.length<=9223372036854775807/\IntCells W a l/\∀z∈l,(Lit.int .i64 z).wf=true:=by
 rcases open_ints Tryz.underlying75 Tryz.underlying3 (by kernel_rfl) h with⟨hcs,_⟩|⟨a,len,cap,zs,hcs,_,hl,hm,hz,_,hc,hw⟩
 ·simp only[List.cons.injEq,and_true]at hcs;subst hcs;exact⟨none,[],0,rfl,by simp,IntCells.nil _ _,by simp⟩
 simp only[List.cons.injEq,and_true]at hcs;subst hcs
 have hlz:len<=zs.length:=by rw[hz];split<;>omega
 have hlt:(zs.take len).length=len:=by simp;omega
 refine⟨some a,zs.take len,cap,by rw[hlt],?_,fun i hi=>?_,fun z hzz=>hw z (List.mem_of_mem_take hzz)⟩
 ·rw[hlt];have:maxLen=9223372036854775807:=rfl;omega
 rw[hlt]at hi
 have e:(zs.take len).getD i 0=zs.getD i 0:=by simp[List.getD_eq_getElem?_getD,hi]
 have ea:=zv5 (hc 0 (by omega));exact⟨a.block,a.off,by rw[<-ea],by rw[e];exact zts (hc i (by omega))⟩
end
theorem zyz{z:Int}(h:(Lit.int .u8 z).wf=true):0<=z/\z<=255:=by
 simp only[Lit.wf,Bool.and_eq_true,decide_eq_true_eq]at h
 have h1:IntKind.u8.min=0:=by decide
 have h2:IntKind.u8.max=255:=by decide
 omega
section
variable{H:Type}{enc:TypeId×Value->H}{W:World}{base:Nat}{spare:Nat->Bool}{held:Bool}
end
theorem zho{W:World}(h:laidMetH Tryz.prog laidOf W):Dtab W:=by
 have h2:=h.filter (fun x=>x.1== "math/bits.deBruijn64tab")
 have e:(laidOf.filter fun x=>x.1== "math/bits.deBruijn64tab")=("math/bits.deBruijn64tab",Lib.tabData .u8 (Lib.deBruijn64tab.map Int.ofNat))::[]:=by kernel_rfl
 rw[e,MakeChecks.laidMetH_plain _ _ _ (by kernel_rfl)]at h2;have h3:=Lib.tabIs_of_head (g:=0) (by kernel_rfl) (by kernel_rfl) Tryz.underlying220 Tryz.underlying5 (by kernel_rfl) (by kernel_rfl) h2;intro j hj
 have hl:(Lib.deBruijn64tab.map Int.ofNat).length=64:=by decide+kernel
 have h4:=h3.cell (g:=0) (by kernel_rfl) j (by rw[hl];exact hj);rw[h4]
 congr 2
 have hl2:Lib.deBruijn64tab.length=64:=by decide+kernel
 simp[List.getD_eq_getElem?_getD,hl2,hj]
section
variable{H:Type}{enc:TypeId×Value->H}{W:World}{base:Nat}{spare:Nat->Bool}{held:Bool}
theorem zrl{r:Reach}{b0:Nat}{v:Value}{d:DataW H}{p:List MemPlace}(hv:Value.okWide Tryz.prog W r b0 29 v)(h:DataW.Trod enc Tryz.prog W base spare held 29 v d p):
 ∃s:St,v=stv s/\s.ok:=by
 simp only[Value.okWide,Tryz.underlying29]at hv;obtain⟨cs,rfl,_,_⟩:=hv;obtain⟨fuel,hf⟩:=h;obtain⟨ys,k,rfl,_,hl,hyl,hat⟩:=DataW.trod_array Tryz.underlying29 hf
 have hc2:Tryz.prog.cellsOf 29=2:=by kernel_rfl
 have hc1:Tryz.prog.cellsOf 27=1:=by kernel_rfl
 rw[hc2]at hl
 have hcs:(Value.agg cs).cells.toList=cs.toList:=by simp[Value.cells]
 rw[hcs]at hl hat
 obtain⟨a0,a1,he⟩:∃a0 a1,cs.toList=[a0,a1]:=by
  match h:cs.toList,hl with
  |[a0,a1],_=>exact⟨a0,a1,rfl⟩
 have hcs2:cs=#[a0,a1]:=by
  apply Array.toList_inj.1;rw[he]
 subst hcs2;have g0:=hat 0 (by omega);have g1:=hat 1 (by omega);rw[hc1]at g0 g1;have e0:ys[0]?=some (ys[0]'(by omega)):=List.getElem?_eq_getElem (by omega);have e1:ys[1]?=some (ys[1]'(by omega)):=List.getElem?_eq_getElem (by omega);rw[e0]at g0;rw[e1]at g1;simp only[Nat.zero_mul,List.drop_zero,List.take_succ_cons,List.take_zero,Nat.one_mul,List.drop_succ_cons]at g0 g1;obtain⟨z0,f0,_,w0⟩:=DataW.trod_int Tryz.underlying27 g0;obtain⟨z1,f1,_,w1⟩:=DataW.trod_int Tryz.underlying27 g1;simp only[List.cons.injEq,and_true]at f0 f1;subst f0;subst f1
 simp[Lit.wf,IntKind.min,IntKind.max,IntKind.signed,IntKind.bits]at w0 w1
 obtain⟨n0,rfl⟩:=Int.eq_ofNat_of_zero_le w0.1;obtain⟨n1,rfl⟩:=Int.eq_ofNat_of_zero_le w1.1;exact⟨⟨n0,n1⟩,rfl,by show n0<U64;unfold U64;omega,by show n1<U64;unfold U64;omega⟩
end
section
variable{H:Type}{enc:TypeId×Value->H}{W:World}{base:Nat}{spare:Nat->Bool}{held:Bool}
theorem zvp{fuel:Nat}{v:Value}{x:DataW H×List MemPlace}(h:DataW.trod enc Tryz.prog W base spare held fuel 24 [v]=some x):
 ∃(a:Option Addr)(l:List Cl)(cap:Nat),v=.slice a l.length cap/\l.length<=9223372036854775807/\LsCells W a l/\∀c∈l,∀z∈c,(Lit.int .i64 z).wf=true:=by
 rcases open_slice Tryz.underlying24 h with⟨hcs,_⟩|⟨a,len,cap,m,n,D,Pl,hcs,_,hl,hm,hmm,_,hi⟩
 ·simp only[List.cons.injEq,and_true]at hcs;subst hcs;exact⟨none,[],0,rfl,by simp,fun i h=>absurd h (Nat.not_lt_zero _),fun c h=>by simp at h⟩
 simp only[List.cons.injEq,and_true]at hcs;subst hcs
 have hlm:len<=m:=by rw[hmm];split<;>omega
 clear hmm
 have hC:Tryz.prog.cellsOf 75=1:=by kernel_rfl
 have each:∀i,i<len->∃x:Cl,∃ai ci,W.cell? (a.add i)=some (.slice ai x.length ci)/\IntCells W ai x/\∀z∈x,(Lit.int .i64 z).wf=true:=by
  intro i hil;obtain⟨cs',hc,ht'⟩:=hi i (by omega);rw[hC,Nat.mul_one]at hc;obtain⟨_,hcl,hat⟩:=World.cells?_some hc
  obtain⟨v0,rfl⟩:∃v0,cs'=[v0]:=by
   match cs',hcl with
   |[v0],_=>exact⟨v0,rfl⟩
  have hcell:=hat 0 (by omega);rw[Go.Deep.add_add,Nat.add_zero]at hcell;obtain⟨ai,li,ci,e2,_,h3,h4⟩:=ybf ht';subst e2;exact⟨li,ai,ci,hcell,h3,h4⟩
 obtain⟨l,hll,hq⟩:=zvb len each;refine⟨some a,l,cap,by rw[hll],?_,fun i hil=>?_,fun c hc=>?_⟩
 ·have:maxLen=9223372036854775807:=rfl;omega
 ·rw[hll]at hil;obtain⟨ai,ci,h1,h2,_⟩:=hq i hil;have ea:=zv5 (hq 0 (by omega)).choose_spec.choose_spec.1;exact⟨a.block,a.off,ai,ci,by rw[<-ea],zts h1,h2⟩
 obtain⟨i,hi2,rfl⟩:=List.getElem_of_mem hc;obtain⟨_,_,_,_,h5⟩:=hq i (by omega)
 have e:l.getD i default=l[i]:=by simp[List.getD_eq_getElem?_getD,hi2]
 rw[e]at h5;exact h5
theorem zhq{r:Reach}{b0:Nat}{v:Value}{d:DataW H}{p:List MemPlace}(hv:Value.okWide Tryz.prog W r b0 26 v)(h:DataW.Trod enc Tryz.prog W base spare held 26 v d p):
 ∃(n:Int)(a:Option Addr)(l:List Cl)(cap:Nat),v=.agg #[.int .i64 n,.slice a l.length cap]/\l.length<=9223372036854775807/\LsCells W a l/\(∀c∈l,∀z∈c,-9223372036854775808<=z/\z<=9223372036854775807):=by
 obtain⟨v0,v1,y0,y1,n,rfl,_,_,t0,t1⟩:=open_agg2 Tryz.underlying26 (by kernel_rfl) (by kernel_rfl) hv h;obtain⟨z0,e0,_,w0⟩:=DataW.trod_int Tryz.underlying3 t0;obtain⟨a,l,cap,e1,h1,h2,h3⟩:=zvp t1;simp only[List.cons.injEq,and_true]at e0;subst e0;subst e1
 exact⟨z0,a,l,cap,rfl,h1,h2,fun c hc z hz=>by
  have:=h3 c hc z hz;simp only[Lit.wf,Bool.and_eq_true,decide_eq_true_eq]at this
  have e1:IntKind.i64.min=-9223372036854775808:=by decide
  have e2:IntKind.i64.max=9223372036854775807:=by decide
  omega⟩
end
section
variable{H:Type}{enc:TypeId×Value->H}{W:World}{base:Nat}{spare:Nat->Bool}{held:Bool}
theorem open_set_cells{fuel:Nat}{cs:List Value}{x:DataW H×List MemPlace}(h:DataW.trod enc Tryz.prog W base spare held fuel 29 cs=some x):
 ∃s:St,cs=[.int .u64 (s.a:Int),.int .u64 (s.b:Int)]/\s.ok:=by
 obtain⟨ys,k,rfl,_,hl,hyl,hat⟩:=DataW.trod_array Tryz.underlying29 h
 have hc2:Tryz.prog.cellsOf 29=2:=by kernel_rfl
 have hc1:Tryz.prog.cellsOf 27=1:=by kernel_rfl
 rw[hc2]at hl
 obtain⟨a0,a1,rfl⟩:∃a0 a1,cs=[a0,a1]:=by
  match cs,hl with
  |[a0,a1],_=>exact⟨a0,a1,rfl⟩
 have g0:=hat 0 (by omega);have g1:=hat 1 (by omega);rw[hc1]at g0 g1;have e0:ys[0]?=some (ys[0]'(by omega)):=List.getElem?_eq_getElem (by omega);have e1:ys[1]?=some (ys[1]'(by omega)):=List.getElem?_eq_getElem (by omega);rw[e0]at g0;rw[e1]at g1;simp only[Nat.zero_mul,List.drop_zero,List.take_succ_cons,List.take_zero,Nat.one_mul,List.drop_succ_cons]at g0 g1;obtain⟨z0,f0,_,w0⟩:=DataW.trod_int Tryz.underlying27 g0;obtain⟨z1,f1,_,w1⟩:=DataW.trod_int Tryz.underlying27 g1;simp only[List.cons.injEq,and_true]at f0 f1;subst f0;subst f1
 simp[Lit.wf,IntKind.min,IntKind.max,IntKind.signed,IntKind.bits]at w0 w1
 obtain⟨n0,rfl⟩:=Int.eq_ofNat_of_zero_le w0.1;obtain⟨n1,rfl⟩:=Int.eq_ofNat_of_zero_le w1.1;exact⟨⟨n0,n1⟩,rfl,by show n0<U64;unfold U64;omega,by show n1<U64;unfold U64;omega⟩
theorem open_pr{fuel:Nat}{cs:List Value}{x:DataW H×List MemPlace}(h:DataW.trod enc Tryz.prog W base spare held fuel 31 cs=some x):
 ∃p:Pr,cs=[.int .u64 (p.v.a:Int),.int .u64 (p.v.b:Int),.bool p.odd]/\p.ok:=by
 obtain⟨ys,n',_,_,hlen,hyl,hf⟩:=DataW.trod_struct Tryz.underlying31 h
 have hc3:Tryz.prog.cellsOf 31=3:=by kernel_rfl
 have hc2:Tryz.prog.cellsOf 29=2:=by kernel_rfl
 have hc1:Tryz.prog.cellsOf 4=1:=by kernel_rfl
 rw[hc3]at hlen
 obtain⟨a0,a1,a2,rfl⟩:∃a0 a1 a2,cs=[a0,a1,a2]:=by
  match cs,hlen with
  |[a0,a1,a2],_=>exact⟨a0,a1,a2,rfl⟩
 have g0:DataW.trod enc Tryz.prog W base spare held n' 29 (List.take (Tryz.prog.cellsOf 29) (List.drop 0 [a0,a1,a2]))=ys[0]?:=hf 0 _ rfl;have g1:DataW.trod enc Tryz.prog W base spare held n' 4 (List.take (Tryz.prog.cellsOf 4) (List.drop 2 [a0,a1,a2]))=ys[1]?:=hf 1 _ rfl;have hy2:ys.length=2:=hyl;rw[hc2]at g0;rw[hc1]at g1;simp only[List.drop_zero,List.take_succ_cons,List.take_zero,List.drop_succ_cons]at g0 g1;rw[List.getElem?_eq_getElem (by omega)]at g0 g1;obtain⟨s,e0,hs⟩:=open_set_cells g0;obtain⟨o,e1,_⟩:=DataW.trod_bool Tryz.underlying4 g1;simp only[List.cons.injEq,and_true]at e0 e1
 obtain⟨rfl,rfl⟩:=e0;subst e1;exact⟨⟨s,o⟩,rfl,hs⟩
theorem open_prs{fuel:Nat}{v:Value}{x:DataW H×List MemPlace}(h:DataW.trod enc Tryz.prog W base spare held fuel 22 [v]=some x):
 ∃(a:Option Addr)(l:List Pr)(cap:Nat),v=.slice a l.length cap/\l.length<=9223372036854775807/\PrCells W a l/\∀p∈l,p.ok:=by
 rcases open_slice Tryz.underlying22 h with⟨hcs,_⟩|⟨a,len,cap,m,n,D,Pl,hcs,_,hl,hm,hmm,_,hi⟩
 ·simp only[List.cons.injEq,and_true]at hcs;subst hcs;exact⟨none,[],0,rfl,by simp,fun i h=>absurd h (Nat.not_lt_zero _),fun p h=>by simp at h⟩
 simp only[List.cons.injEq,and_true]at hcs;subst hcs
 have hlm:len<=m:=by rw[hmm];split<;>omega
 clear hmm
 have hC:Tryz.prog.cellsOf 31=3:=by kernel_rfl
 have each:∀i,i<len->∃p:Pr,W.cell? (a.add (i*3))=some (.int .u64 (p.v.a:Int))/\W.cell? (a.add (i*3+1))=some (.int .u64 (p.v.b:Int))/\W.cell? (a.add (i*3+2))=some (.bool p.odd)/\p.ok:=by
  intro i hil;obtain⟨cs',hc,ht'⟩:=hi i (by omega);rw[hC]at hc;obtain⟨_,hcl,hat⟩:=World.cells?_some hc;obtain⟨p,rfl,hp⟩:=open_pr ht';have c0:=hat 0 (by omega);have c1:=hat 1 (by omega);have c2:=hat 2 (by omega);rw[Go.Deep.add_add]at c0 c1 c2;exact⟨p,c0,c1,c2,hp⟩
 obtain⟨l,hll,hq⟩:=zvb len each;refine⟨some a,l,cap,by rw[hll],?_,fun i hil=>?_,fun p hp=>?_⟩
 ·have:maxLen=9223372036854775807:=rfl;omega
 ·rw[hll]at hil;obtain⟨c0,c1,c2,_⟩:=hq i hil;have ea:=zv5 (by have:=(hq 0 (by omega)).1;simpa using this);exact⟨a.block,a.off,by rw[<-ea],zts c0,zts c1,zts c2⟩
 obtain⟨i,hi2,rfl⟩:=List.getElem_of_mem hp;obtain⟨_,_,_,h5⟩:=hq i (by omega)
 have e:l.getD i default=l[i]:=by simp[List.getD_eq_getElem?_getD,hi2]
 rw[e]at h5;exact h5
theorem open_pars{r:Reach}{b0:Nat}{v:Value}{d:DataW H}{p:List MemPlace}(hv:Value.okWide Tryz.prog W r b0 22 v)(h:DataW.Trod enc Tryz.prog W base spare held 22 v d p):
 ∃(a:Option Addr)(l:List Pr)(cap:Nat),v=.slice a l.length cap/\l.length<=9223372036854775807/\PrCells W a l/\∀p∈l,p.ok:=by
 obtain⟨a0,la,ca,rfl⟩:=okWide_slice Tryz.underlying22 hv;obtain⟨fuel,hf⟩:=h;exact open_prs (v:=.slice a0 la ca) hf
end
end Go.Proofs.YtnlaakmglhjjmaaGreatDoor
