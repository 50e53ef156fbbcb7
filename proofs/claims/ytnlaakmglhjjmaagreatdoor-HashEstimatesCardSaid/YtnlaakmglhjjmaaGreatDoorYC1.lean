/- Parts of the proofs of laws. Texts: Tk. -/
import Derived.Deep.RegionHeld3
import Derived.BigRegion
import Derived.Lib.Hide
set_option maxHeartbeats 8000000
set_option maxRecDepth 100000
set_option linter.all false
namespace Go.RowKit
theorem Hid.o{p:Prop}(h:Hid p):p:=h
end Go.RowKit
namespace Go.Proofs.YtnlaakmglhjjmaaGreatDoor
open Go.RowKit
section
variable{P:Program}{ops:Array Oper}{Q:Exit->Act->World->Prop}{md:Region.Mode}{S:World->Prop}{oi:Oper}{v:Value}{fuel:Nat}{listed:Array Bool}{a:Act}{w:World}
theorem tkV(i d:Nat)(hi:ops[i]?=some oi)(hd:oi.dst=some d)(h:wpAnyH P md ops Q S fuel (listed.setIfInBounds i true) (a.put (some d) v) w)
 (hs:Region.noSelect ops=true:=by kernel_rfl)(hf:Region.free md ops listed i=true:=by kernel_rfl)(hr:(Region.ready md ops listed).contains i=true:=by kernel_rfl)(hQ:∀c a w,Q (.panic c) (a.put oi.dst v) w->Q (.panic c) a w:=by exact fun _ _ _ h=>h)
 (hw:Region.wanted oi (yielded ops a.tmps)=true:=by rfl)(hy:∀w,S w->(execOp a.eval oi).run P w=.ok (.value v) w:=by(intro w hSw;(try dsimp only at hSw);first|(go_simp;done)|(go_simp;with_reducible rfl)))(hS:S w:=by assumption):
 wpAnyH P md ops Q S (fuel+1) listed a w:=wpAnyH_take hi hs hf hr hQ (.inl ⟨hw,hy⟩) hS (by rw[hd];exact h)
theorem tkO(i d:Nat)(hi:ops[i]?=some oi)(hd:oi.dst=some d)(h:wpAnyH P md ops Q S fuel (listed.setIfInBounds i true) (a.put (some d) undef) w)
 (hs:Region.noSelect ops=true:=by kernel_rfl)(hf:Region.free md ops listed i=true:=by kernel_rfl)(hr:(Region.ready md ops listed).contains i=true:=by kernel_rfl)(hQ:∀c a w,Q (.panic c) (a.put oi.dst undef) w->Q (.panic c) a w:=by exact fun _ _ _ h=>h)
 (hw:Region.wanted oi (yielded ops a.tmps)=false:=by kernel_rfl)(hS:S w:=by assumption):
 wpAnyH P md ops Q S (fuel+1) listed a w:=wpAnyH_take hi hs hf hr hQ (.inr ⟨hw,rfl⟩) hS (by rw[hd];exact h)
theorem tkR(i:Nat)(h:AllReadyH P md ops Q S fuel listed a w [i])(hr:Region.ready md ops listed=[i]:=by kernel_rfl):wpAnyH P md ops Q S (fuel+1) listed a w:=wpAnyH_ready hr (by simp) h
end
theorem lh{p:Prop}(h:p):Hid p:=Lib.hid h
theorem nm{α:Type}(x:α):∃y,y=x:=⟨x,rfl⟩
theorem bt{w w1 w2:World}(h:Hid (Below w.heap.size w w1))(k:Below w1.heap.size w1 w2):Hid (Below w.heap.size w w2):=lh (Below.trans h.o (Below.mono k h.o.size))
theorem ba(w:World)(o:Obj):Below w.heap.size w (w.alloc o):=(Below.refl _ _).alloc (Nat.le_refl _) o
theorem tkS:(∀(a:Act)(d:Tmp)(v:Value),a.put (some d) v={a with tmps:=a.tmps.setIfInBounds d v})/\(∀(α:Type)(l:List α)(i:Nat)(x:α),l.toArray.setIfInBounds i x=(l.set i x).toArray)/\(∀(α:Type)(x y:α)(l:List α),(x::l).set 0 y=y::l)/\∀(α:Type)(x y:α)(l:List α)(n:Nat),(x::l).set (n+1) y=x::l.set n y:=
 ⟨fun _ _ _=>rfl,fun _ _ _ _=>by simp,fun _ _ _ _=>rfl,fun _ _ _ _ _=>rfl⟩
end Go.Proofs.YtnlaakmglhjjmaaGreatDoor
