/- Parts of the proofs of laws. Texts: Kl. -/
import Derived.Test.YtnlaakmglhjjmaaGreatDoorYC47
import Derived.Test.YtnlaakmglhjjmaaGreatDoorYC43
set_option maxHeartbeats 8000000
set_option maxRecDepth 100000
set_option linter.all false
namespace Go.Proofs.YtnlaakmglhjjmaaGreatDoor
open Go.RowKit Cen
theorem dig_less{d e:Nat}(hd:d<10)(he:e<10):decide (UInt8.ofNat (48+d)<UInt8.ofNat (48+e))=decide (d<e)/\(UInt8.ofNat (48+d)==UInt8.ofNat (48+e))=decide (d=e):=by
 have h:∀d,d<10->∀e,e<10->decide (UInt8.ofNat (48+d)<UInt8.ofNat (48+e))=decide (d<e)/\(UInt8.ofNat (48+d)==UInt8.ofNat (48+e))=decide (d=e):=by decide
 exact h d hd e he
theorem less_step{P a b d e:Nat}(ha:a<P)(hb:b<P):(decide (d<e)||(decide (d=e)&&decide (a<b)))=decide (a+d*P<b+e*P):=by
 rw[Bool.eq_iff_iff];simp only[Bool.or_eq_true,Bool.and_eq_true,decide_eq_true_eq]
 rcases Nat.lt_trichotomy d e with h|h|h
 ·have:=Nat.mul_le_mul_right P h;rw[Nat.succ_mul]at this;exact⟨fun _=>by omega,fun _=>.inl h⟩
 ·subst h;exact⟨fun h=>by omega,fun h=>.inr ⟨rfl,by omega⟩⟩
 have:=Nat.mul_le_mul_right P h;rw[Nat.succ_mul]at this;exact⟨fun _=>by omega,fun _=>by omega⟩
theorem less_digs:∀(n x y:Nat),Go.Op.bytesLess ((digP 10 n x).reverse.map fun d=>UInt8.ofNat (48+d)) ((digP 10 n y).reverse.map fun d=>UInt8.ofNat (48+d))=decide (x%10^n<y%10^n)
 |0,x,y=>by simp[digP,Go.Op.bytesLess,Nat.mod_one]
 |n+1,x,y=>by
   have e:∀z,((digP 10 (n+1) z).reverse.map fun d=>UInt8.ofNat (48+d))=UInt8.ofNat (48+z/10^n%10)::((digP 10 n z).reverse.map fun d=>UInt8.ofNat (48+d)):=fun z=>by rw[digP_snoc,List.reverse_append];rfl
   obtain⟨h1,h2⟩:=dig_less (Nat.mod_lt (x/10^n) (by decide:10>0)) (Nat.mod_lt (y/10^n) (by decide:10>0));rw[e x,e y,Go.Op.bytesLess,less_digs n x y,h1,h2,mod_pow_succ' 10 x n,mod_pow_succ' 10 y n];exact less_step (Nat.mod_lt _ (Nat.pow_pos (by decide))) (Nat.mod_lt _ (Nat.pow_pos (by decide)))
theorem less_irr:∀l:List UInt8,Go.Op.bytesLess l l=false
 |[]=>rfl
 |a::l=>by rw[Go.Op.bytesLess,less_irr l];simp
theorem dec_less{x y:Nat}(h:nD x=nD y):Go.Op.bytesLess (decB x).toList (decB y).toList=decide (x<y):=by
 unfold decB;rw[ByteArray.toList_mk,ByteArray.toList_mk,decL_eq,decL_eq,<-h,less_digs,Nat.mod_eq_of_lt (nD_lt x),Nat.mod_eq_of_lt (h▸nD_lt y)]
theorem dec_eq(x y:Nat):((decB x).toList==(decB y).toList)=decide (x=y):=by
 by_cases h:x=y
 ·subst h;simp
 rw[decide_eq_false h,beq_eq_false_iff_ne];intro e
 have hs:nD x=nD y:=by
  have:=congrArg List.length e;unfold decB at this;rw[ByteArray.toList_mk,ByteArray.toList_mk]at this;have h1:=decB_size x;have h2:=decB_size y
  have e1:(decB x).size=(decL x).length:=by show((decL x).toArray).size=_;simp
  have e2:(decB y).size=(decL y).length:=by show((decL y).toArray).size=_;simp
  omega
 have h1:=dec_less hs;have h2:=dec_less hs.symm;rw[e,less_irr]at h1 h2;have h3:=of_decide_eq_false h1.symm;have h4:=of_decide_eq_false h2.symm;omega
theorem nD_low{x:Nat}(h:2<=nD x):10^(nD x-1)<=x:=by
 unfold nD at h⊢
 split at h
 ·omega
 rename_i h0
 rw[if_neg h0]
 rcases(digs_ndg (B:=10) (by decide) x).2.2 with h1|h1
 ·omega
 refine Nat.le_of_not_lt fun h2=>h1 ?_
 rw[Nat.div_eq_of_lt h2]
theorem nD_mono{x y:Nat}(h:nD x<nD y):x<y:=by
 have h1:=nD_pos x;have h2:=nD_low (x:=y) (by omega);have h3:10^nD x<=10^(nD y-1):=Nat.pow_le_pow_right (by decide) (by omega);have h4:=nD_lt x;omega
theorem cmp10_any(x y:Nat)(hx:nD x<=100000)(hy:nD y<=100000)(w:World):Calls Tryz.prog 53 #[.string (decB x),.string (decB y)] w fun e w'=>e=.returned (.int .i64 (cmp3 x y))/\w'=w:=by
 have hsx:=decB_size x;have hsy:=decB_size y
 have hT:=fun h:nD x=nD y=>dec_less h
 have hE:=dec_eq x y
 have hL:=fun h:nD x<nD y=>nD_mono h
 have hG:=fun h:nD y<nD x=>nD_mono h
 obtain⟨c,hc⟩:=nm (cmp3 x y)
 have hlt:x<y->c=-1:=fun h=>by rw[hc];unfold cmp3;rw[if_neg (by omega),if_pos h]
 have hgt:y<x->c=1:=fun h=>by rw[hc];unfold cmp3;rw[if_neg (by omega),if_neg (by omega)]
 have heq:x=y->c=0:=fun h=>by rw[hc];unfold cmp3;rw[if_pos h]
 rw[<-hc];clear hc;generalize decB x=s at*;generalize decB y=t at*;generalize nD x=m at*;generalize nD y=n at*;subst hsx hsy
 by_cases h1:s.size<t.size
 ·have h1i:(s.size:Int)<(t.size:Int):=by omega
  obtain rfl:=hlt (hL h1);clear hT hE hL hG hlt hgt heq h1;go_enter Tryz.func53,Tryz.ntmps53;go_wp2;go_ret;exact⟨rfl,rfl⟩
 have h1i:¬(s.size:Int)<(t.size:Int):=by omega
 by_cases h2:s.size=t.size
 ·have ht:=hT h2
  have h2i:((s.size:Int)==(t.size:Int))=true:=by rw[beq_iff_eq];omega
  by_cases h3:x<y
  ·obtain rfl:=hlt h3;rw[decide_eq_true h3]at ht;clear hT hE hL hG hlt hgt heq h1 h2;go_enter Tryz.func53,Tryz.ntmps53;go_wp2;go_ret;exact⟨rfl,rfl⟩
  rw[decide_eq_false h3]at ht
  by_cases h4:x=y
  ·obtain rfl:=heq h4;rw[decide_eq_true h4]at hE;clear hT hL hG hlt hgt heq h1 h2 h4 h3;go_enter Tryz.func53,Tryz.ntmps53;go_wp2;go_ret;exact⟨rfl,rfl⟩
  obtain rfl:=hgt (by omega);rw[decide_eq_false h4]at hE;clear hT hL hG hlt hgt heq h1 h2 h4 h3;go_enter Tryz.func53,Tryz.ntmps53;go_wp2;go_ret;exact⟨rfl,rfl⟩
 have h5:=hG (by omega);obtain rfl:=hgt h5
 have h2i:((s.size:Int)==(t.size:Int))=false:=by rw[beq_eq_false_iff_ne];omega
 rw[decide_eq_false (by omega)]at hE;clear hT hL hG hlt hgt heq h1 h2 h5;go_enter Tryz.func53,Tryz.ntmps53;go_wp2;go_ret;exact⟨rfl,rfl⟩
end Go.Proofs.YtnlaakmglhjjmaaGreatDoor
