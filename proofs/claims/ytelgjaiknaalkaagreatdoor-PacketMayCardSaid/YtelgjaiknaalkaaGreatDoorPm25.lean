/- Lemmas, joined and made smaller by a program. -/
import Derived.Test.YtelgjaiknaalkaaGreatDoorPm11
import Derived.Test.YtelgjaiknaalkaaGreatDoorPm12
set_option linter.unusedVariables false
set_option linter.unusedSimpArgs false
namespace Go.Proofs.YtelgjaiknaalkaaGreatDoor
open Go.RowKit
section
variable{P:Program}{ops:Array Oper}{md:Region.Mode}{Q:Exit→Act→World→Prop}{S:World→Prop}{z:Nat}
def wpAnyY(P:Program)(md:Region.Mode)(ops:Array Oper)(Q:Exit→Act→World→Prop)(S:World→Prop)(z:Nat):Nat→Array Bool→Act→World→Prop
 |0,L,a,w=>Region.ready md ops L=[]∧Q .normal a w
 |f+1,L,a,w=>(Region.ready md ops L=[]→Q .normal a w)∧∀i∈Region.ready md ops L,wpOp P ops Q i (fun a' w'=>(L.getD z true=false→i≠z→S w')∧wpAnyY P md ops Q S z f (L.setIfInBounds i true) a' w') a w
theorem wpAny_of_Y:∀(f:Nat) (L:Array Bool) (a:Act) (w:World),wpAnyY P md ops Q S z f L a w→wpAny P md ops Q f L a w
 |0,_,_,_,h=>h
 |f+1,_,_,_,h=>⟨h.1,fun i hi=>wpOp_mono (fun a' w' h'=>wpAny_of_Y f _ a' w' h'.2) (h.2 i hi)⟩
theorem not_waits{i:Nat}{oj:Oper}{L:Array Bool}(hr:i∈Region.ready md ops L)(hall:∀e∈oj.after,Region.binds md e=true→L.getD e.on false=true):∀e∈oj.after,Region.binds md e=true→e.on≠i:=fun e he hb heq=>by
 have g1:=hall e he hb
 have g0:=(mem_ready.1 hr).1
 rw[heq]at g1
 rcases Nat.lt_or_ge i L.size with h'|h'
 ·simp[h']at g0 g1;rw[g0]at g1;cases g1
 ·simp[Array.getElem?_eq_none h']at g1
theorem wpAnyY_first{i:Nat}{oi:Oper}{v:Value}(hi:ops[i]?=some oi)(hsel:Region.noSelect ops=true)(hw:waitsB md ops z i=true)(hQ:∀c a w,Q (.panic c) (a.put oi.dst v) w→Q (.panic c) a w):
 ∀(f:Nat) (L:Array Bool) (a:Act) (w:World),(∀j oj,ops[j]?=some oj→j≠i→L.getD j true=false→(∀e∈oj.after,Region.binds md e=true→e.on≠i)→oi.apart ops oj=true)→
  i∈Region.ready md ops L→YieldsIf P ops S oi v a→L.getD z true=false→S w→wpAnyY P md ops Q S z f (L.setIfInBounds i true) (a.put oi.dst v) w→wpAnyY P md ops Q S z (f+1) L a w:=by
 intro f
 induction f with
 |zero=>
  intro L a w _ hr hy hz hS H
  refine⟨fun h=>(by rw[h]at hr;cases hr),fun j hj=>?_⟩
  by_cases e:j=i
  ·subst e;exact hy.wpOp hi hS ⟨fun _ _=>hS,H⟩
  ·have:=ready_mono hj e
   rw[H.1]at this;cases this
 |succ f ih=>
  intro L a w hfree hr hy hz hS H
  refine⟨fun h=>(by rw[h]at hr;cases hr),fun j hj=>?_⟩
  by_cases e:j=i
  ·subst e;exact hy.wpOp hi hS ⟨fun _ _=>hS,H⟩
  ·have h1:=H.2 j (ready_mono hj e)
   obtain⟨hjun,oj,hoj,hall⟩:=mem_ready.1 hj
   have hnot:=not_waits hr hall
   have hjz:j≠z:=fun ez=>by
    subst ez
    unfold waitsB at hw
    rw[hoj]at hw
    obtain⟨x,hx,hxe⟩:=Array.any_eq_true'.1 hw
    simp only[Bool.and_eq_true,beq_iff_eq]at hxe
    exact hnot x hx hxe.1 hxe.2
   have hiz:i≠z:=fun ez=>by
    subst ez
    obtain⟨x,hx,hxe⟩:∃x,x∈oi.after∧(Region.binds md x=true∧x.on=i):=by
     unfold waitsB at hw
     rw[hi]at hw
     obtain⟨x,hx,hxe⟩:=Array.any_eq_true'.1 hw
     simp only[Bool.and_eq_true,beq_iff_eq]at hxe
     exact⟨x,hx,hxe⟩
    obtain⟨-,oi',hoi',hall'⟩:=mem_ready.1 hr
    rw[hi]at hoi';cases hoi'
    exact not_waits hr hall' x hx hxe.1 hxe.2
   have h2:=wpOp_putIf hoj (hfree j oj hoj e hjun hnot) (fun cs b=>Region.noSelect_spec hsel i oi cs b hi) (fun cs b=>Region.noSelect_spec hsel j oj cs b hoj) hQ hy h1
   refine wpOp_mono (fun a' w' h3=>?_) h2
   have hzi:(L.setIfInBounds i true).getD z true=false:=by rw[getD_set_ne true hiz];exact hz
   have hS':=h3.2.1 hzi hjz
   refine⟨fun _ _=>hS',ih _ a' w' (fun k ok hk hki hun hno=>hfree k ok hk hki ?_ hno) (ready_mono hr (Ne.symm e)) h3.1 (by rw[getD_set_ne true hjz];exact hz) hS' ?_⟩
   ·by_cases hjk:j=k
    ·subst hjk;exact hjun
    ·rw[getD_set_ne true hjk]at hun;exact hun
   ·rw[Array.setIfInBounds_comm _ _ e]
    exact h3.2.2
theorem wpAnyY_firstP{i:Nat}{oi:Oper}{v:Value}(hi:ops[i]?=some oi)(hsel:Region.noSelect ops=true)(hiz:i≠z)(hQ:∀c a w,Q (.panic c) (a.put oi.dst v) w→Q (.panic c) a w):
 ∀(f:Nat) (L:Array Bool) (a:Act) (w:World),(∀j oj,ops[j]?=some oj→j≠i→L.getD j true=false→(∀e∈oj.after,Region.binds md e=true→e.on≠i)→oi.apart ops oj=true)→
  i∈Region.ready md ops L→YieldsIf P ops (fun _=>True) oi v a→(L.getD z true=false→S w)→wpAnyY P md ops Q S z f (L.setIfInBounds i true) (a.put oi.dst v) w→wpAnyY P md ops Q S z (f+1) L a w:=by
 intro f
 induction f with
 |zero=>
  intro L a w _ hr hy hS H
  refine⟨fun h=>(by rw[h]at hr;cases hr),fun j hj=>?_⟩
  by_cases e:j=i
  ·subst e;exact hy.wpOp hi trivial ⟨fun hz _=>hS hz,H⟩
  ·have:=ready_mono hj e
   rw[H.1]at this;cases this
 |succ f ih=>
  intro L a w hfree hr hy hS H
  refine⟨fun h=>(by rw[h]at hr;cases hr),fun j hj=>?_⟩
  by_cases e:j=i
  ·subst e;exact hy.wpOp hi trivial ⟨fun hz _=>hS hz,H⟩
  ·have h1:=H.2 j (ready_mono hj e)
   obtain⟨hjun,oj,hoj,hall⟩:=mem_ready.1 hj
   have hnot:=not_waits hr hall
   have h2:=wpOp_putIf hoj (hfree j oj hoj e hjun hnot) (fun cs b=>Region.noSelect_spec hsel i oi cs b hi) (fun cs b=>Region.noSelect_spec hsel j oj cs b hoj) hQ hy h1
   refine wpOp_mono (fun a' w' h3=>?_) h2
   refine⟨fun hz hjz=>h3.2.1 (by rw[getD_set_ne true hiz];exact hz) hjz,ih _ a' w' (fun k ok hk hki hun hno=>hfree k ok hk hki ?_ hno) (ready_mono hr (Ne.symm e)) h3.1 (fun hz=>?_) ?_⟩
   ·by_cases hjk:j=k
    ·subst hjk;exact hjun
    ·rw[getD_set_ne true hjk]at hun;exact hun
   ·by_cases hjz:j=z
    ·subst hjz
     rcases Nat.lt_or_ge j L.size with h'|h'
     ·simp[h']at hz
     ·simp[Array.getElem?_eq_none h']at hz
    ·exact h3.2.1 (by rw[getD_set_ne true hiz];rw[getD_set_ne true hjz]at hz;exact hz) hjz
   ·rw[Array.setIfInBounds_comm _ _ e]
    exact h3.2.2
theorem wpAnyY_take{i:Nat}{oi:Oper}{v:Value}{f:Nat}{L:Array Bool}{a:Act}{w:World}(hi:ops[i]?=some oi)(hs:Region.noSelect ops=true)(hw:waitsB md ops z i=true)(hz:L.getD z true=false)(hf:Region.free md ops L i=true)(hr:(Region.ready md ops L).contains i=true)
 (hQ:∀c a w,Q (.panic c) (a.put oi.dst v) w→Q (.panic c) a w)(hy:YieldsIf P ops S oi v a)(hS:S w)(h:wpAnyY P md ops Q S z f (L.setIfInBounds i true) (a.put oi.dst v) w):wpAnyY P md ops Q S z (f+1) L a w:=
 wpAnyY_first hi hs hw hQ f L a w (Region.free_spec hi hf) (by simpa using hr) hy hz hS h
theorem wpAnyY_pure{i:Nat}{oi:Oper}{v:Value}{f:Nat}{L:Array Bool}{a:Act}{w:World}(hi:ops[i]?=some oi)(hs:Region.noSelect ops=true)(hiz:decide (i≠z)=true)(hf:Region.free md ops L i=true)(hr:(Region.ready md ops L).contains i=true)
 (hQ:∀c a w,Q (.panic c) (a.put oi.dst v) w→Q (.panic c) a w)(hy:YieldsIf P ops (fun _=>True) oi v a)(hS:S w)(h:wpAnyY P md ops Q S z f (L.setIfInBounds i true) (a.put oi.dst v) w):wpAnyY P md ops Q S z (f+1) L a w:=
 wpAnyY_firstP hi hs (of_decide_eq_true hiz) hQ f L a w (Region.free_spec hi hf) (by simpa using hr) hy (fun _=>hS) h
theorem wpAnyY_one{i:Nat}{o:Oper}{f:Nat}{L:Array Bool}{a:Act}{w:World}(hr:Region.ready md ops L=[i])(ho:ops[i]?=some o)
 (h:∀K':Act→World→Prop,(∀a w,(i≠z→S w)→wpAnyY P md ops Q S z f (L.setIfInBounds i true) a w→K' a w)→if Region.wanted o (yielded ops a.tmps)=true then o.wp P a w K' Q else K' (a.put o.dst undef) w):wpAnyY P md ops Q S z (f+1) L a w:=by
 refine⟨fun h0=>(by rw[h0]at hr;cases hr),fun j hj=>?_⟩
 rw[hr,List.mem_singleton]at hj
 subst hj
 have h1:=h (fun a' w'=>(L.getD z true=false→j≠z→S w')∧wpAnyY P md ops Q S z f (L.setIfInBounds j true) a' w') (fun _ _ h1 h2=>⟨fun _=>h1,h2⟩)
 unfold wpOp
 rw[ho]
 dsimp only
 split
 ·rename_i hw;rw[if_pos hw]at h1;exact .inl h1
 ·rename_i hw;rw[if_neg hw]at h1;exact h1
theorem wpAnyY_done{L:Array Bool}{a:Act}{w:World}(hr:Region.ready md ops L=[])(h:Q .normal a w):∀f,wpAnyY P md ops Q S z f L a w
 |0=>⟨hr,h⟩
 |_+1=>⟨fun _=>h,by rw[hr];simp⟩
theorem wp_region_Y{id:Nat}{a:Act}{w:World}(hm:P.follows .mixedOrders=true)(S:World→Prop)(z:Nat)
 (h:wpAnyY P .any ops Q S z ops.size (Array.replicate ops.size false) a w.drew):(Code.region id ops true).wp P Q a w:=wp_region_any hm (wpAny_of_Y _ _ _ _ h)
end
end Go.Proofs.YtelgjaiknaalkaaGreatDoor
