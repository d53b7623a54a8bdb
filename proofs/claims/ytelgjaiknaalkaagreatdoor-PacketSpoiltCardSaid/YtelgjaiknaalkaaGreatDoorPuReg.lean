/- Steps of a region that draws its order, in short. -/
import Derived.Deep.RegionHeld
import Derived.WalkKit
open Go.Region renaming ready → Jl, wanted → Jv
namespace Go.Proofs.YtelgjaiknaalkaaGreatDoor
abbrev qf:=List (BitVec 8)
structure vM(p:Prop):Prop where
 open1::
 shown:p
theorem qe{p:Prop}(h:p):vM p:=⟨h⟩
theorem vM.out{p:Prop}(h:vM p):p:=h.shown
section
variable{P:Program}{md:Region.Mode}{ops:Array Oper}{Q:Exit→Act→World→Prop}{S:World→Prop}{fuel:Nat}{listed:Array Bool}{a:Act}{w:World}
theorem tkH(i:Nat)(v:Value){oi:Oper}{D:Tmp}(hy:∀w,S w→(execOp a.eval oi).run P w= .ok (.value v) w)(hS:S w)
 (h:wpAnyH P md ops Q S fuel (listed.setIfInBounds i true) (a.put (some D) v) w)
 (hi:ops[i]?=some oi:=by exact rfl)(hd:oi.dst=some D:=by exact rfl)(hc:(Region.noSelect ops&&(Region.free md ops listed i&&(Jl md ops listed).contains i))=true:=by kernel_rfl)
 (hQ:∀c a w,Q (.panic c) (a.put oi.dst v) w→Q (.panic c) a w:=by exact fun _ _ _ h=>h)(hw:Jv oi (yielded ops a.tmps)=true:=by exact rfl):wpAnyH P md ops Q S (fuel+1) listed a w:=by
 simp only[Bool.and_eq_true]at hc
 rw[←hd]at h
 exact wpAnyH_take hi hc.1 hc.2.1 hc.2.2 hQ (.inl ⟨hw,hy⟩) hS h
theorem tkK(i:Nat)(v:Value){oi:Oper}{D:Tmp}(hi:ops[i]?=some oi)(hd:oi.dst=some D)(hy:YieldsIf P ops S oi v a)(hS:S w)
 (h:wpAnyH P md ops Q S fuel (listed.setIfInBounds i true) (a.put (some D) v) w)
 (hc:(Region.noSelect ops&&(Region.free md ops listed i&&(Jl md ops listed).contains i))=true:=by kernel_rfl)
 (hQ:∀c a w,Q (.panic c) (a.put oi.dst v) w→Q (.panic c) a w:=by exact fun _ _ _ h=>h):wpAnyH P md ops Q S (fuel+1) listed a w:=by
 simp only[Bool.and_eq_true]at hc
 rw[←hd]at h
 exact wpAnyH_take hi hc.1 hc.2.1 hc.2.2 hQ hy hS h
theorem tkA(i:Nat)(v:Value){oi:Oper}{D:Tmp}(hS:S w)
 (h:wpAnyH P md ops Q S fuel (listed.setIfInBounds i true) (a.put (some D) v) w)
 (hi:ops[i]?=some oi:=by exact rfl)(hd:oi.dst=some D:=by exact rfl)(hc:(Region.noSelect ops&&(Region.free md ops listed i&&(Jl md ops listed).contains i))=true:=by kernel_rfl)
 (hQ:∀c a w,Q (.panic c) (a.put oi.dst v) w→Q (.panic c) a w:=by exact fun _ _ _ h=>h)(hw:Jv oi (yielded ops a.tmps)=true:=by exact rfl)
 (hy:∀w,S w→(execOp a.eval oi).run P w= .ok (.value v) w:=by(try simp only[and_imp]);intros;go_simp):wpAnyH P md ops Q S (fuel+1) listed a w:=
 tkH i v hy hS h hi hd hc hQ hw
theorem rdH(i:Nat){o:Oper}
 (h:∀K':Act→World→Prop,Shut (∀(a:Act) (w:World),S w→(S w→wpAnyH P md ops Q S fuel (listed.setIfInBounds i true) a w)→K' a w)→if Jv o (yielded ops a.tmps)=true then Oper.wp P o a w K' Q else K' (a.put o.dst undef) w)
 (hr:Jl md ops listed=[i]:=by kernel_rfl)(hi:ops[i]?=some o:=by exact rfl):wpAnyH P md ops Q S (fuel+1) listed a w:=
 wpAnyH_ready hr (by simp) (AllReadyH.cons hi h AllReadyH.nil)
end
end Go.Proofs.YtelgjaiknaalkaaGreatDoor
