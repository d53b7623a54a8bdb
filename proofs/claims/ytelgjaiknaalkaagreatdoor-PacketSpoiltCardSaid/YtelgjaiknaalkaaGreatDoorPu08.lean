/- Lemmas. -/
import Derived.Test.YtelgjaiknaalkaaGreatDoorPu07
open Go.Proofs.Tryz
open List renaming setIfInBounds_toArray → qj
open List renaming set_cons_zero → qz
open List renaming set_cons_succ → qv
open List renaming set_append → JR, flatMap_append → JG, length_append → QO, mem_append → QS, mem_singleton → Je, nodup_append → J9, mem_cons → Ja, flatMap_cons → JW, cons_append → JL, take_of_length_le → Js, length_take → QV, append_assoc → Jb, length_map → QN, nil_append → Ji, map_cons → Jd, map_nil → Jt, getElem?_map → Jn, range → Q6, length_cons → Jr, take_append_drop → JV, replicate → QL, getD → QR, length_drop → Jf, getElem?_append_right → JA
open Nat renaming le_trans → QX, lt_or_ge → Jo, le_refl → QI, pow_succ → JB, mul_assoc → JY, mul_add → JN, shiftRight_eq_div_pow → Zw, mul_comm → Jw
open Go.Region renaming ready → Jl, wanted → Jv
open Bool renaming and_eq_true → JC
open BitVec renaming ofInt → QU, ofNat → QP, toNat_ofNat → Q8, toNat_add → JQ, toNat_mul → Zy, ofNat_eq_ofNat → ZB, add_eq_or_of_and_eq_zero → ZE, toNat → JO, toNat_ushiftRight → Zr, toNat_sub → ZG, toNat_setWidth → Zo, eq_of_toNat_eq → JX
open Go.RowKit.Below renaming refl → QK
open Go.IntWalk renaming i64_in → Jc
open Go.Act renaming put → QJ
open Go.World renaming size_alloc → QQ, alloc → QY
open Go.Value renaming int → QM
open Go.AllReadyH renaming cons → Jm, nil → J1
set_option linter.unusedVariables false
set_option linter.unusedSimpArgs false
set_option maxRecDepth 100000
set_option maxHeartbeats 8000000
namespace Go.Proofs.YtelgjaiknaalkaaGreatDoor
section
open Go.RowKit
section
variable{w w':World}{base gB:Nat}{b:BX}
theorem qI.row_ne(h:qI w base gB b):b.v.ownBlock≠some gB:=fun e=>by
 obtain⟨-,-,cs,h1⟩:=kW h.row e;have h2:w.heap[gB]?=some (.cells b.cells.toArray 76 (0,0)):=h.blk;rw[h2]at h1;injection h1 with h1;injection h1 with _ hT _;exact absurd hT (by decide)
theorem qI.gB_notin(h:qI w base gB b):∀e∈b.es,gB∉e.foot:=fun e he=>h.gB_out he h.blk (by decide) (by decide) (by decide)
theorem qI.row_notin(h:qI w base gB b){g:Nat}(hg:b.v.ownBlock=some g):∀e∈b.es,g∉e.foot:=fun e he=>by
 obtain⟨-,-,cs,h1⟩:=kW h.row hg;exact h.gB_out he h1 (by decide) (by decide) (by decide)
theorem qI.regroup(h:qI w base gB b)(grp:qf)(hl:grp.length=32)(hk:Blk w' gB 76 (BX.cells ⟨grp,b.v,b.es,b.clr⟩))(hg:w.grownBy w' (some gB)):qI w' base gB ⟨grp,b.v,b.es,b.clr⟩:=by
 refine⟨hk,hl,uR h.row (fun g e=>hg.block g (kW h.row e).2.1 (fun e2=>h.row_ne (by rw[e,e2]))),fun e he=>(h.ch e he).of_same (fun k hk'=>hg.block k ((h.ch e he).foot_lt k hk') (fun e2=>?_)),h.bnd,h.rise,h.many,h.nd,h.low⟩;injection e2 with e2;exact h.gB_notin e he (by rw[←e2];exact hk')
theorem qI.pushed(h:qI w base gB b){w6:World}(hm:b.es.length≤4)(e:EP)(N:Nat)(hc:zo w e.gC e.gl e.xs)(hnew:∀k∈e.foot,N≤k)(hold:∀k∈BX.foot gB b,k<N)(hN:N≤w.heap.size)
 (hbnd:e.leaf<e.xs.length∧e.xs.length≤32∧0≤e.no∧e.no≤4294967295)(hlast:∀x∈b.es,x.no<e.no){v':Value}(hrow:w6.ownsRow base 80 3 v' (b.es.length+1) (b.es.flatMap EP.cells++e.cells))(hg:kU w w6 b.v v'):
 qI (w6.setCell ⟨gB,32,none⟩ v') base gB ⟨b.grp,v',b.es++ [e],b.clr⟩∧Frm w (w6.setCell ⟨gB,32,none⟩ v') (BX.foot gB b)∧∀k∈BX.foot gB ⟨b.grp,v',b.es++ [e],b.clr⟩,k∈BX.foot gB b∨N≤k:=by
 have hby:=hg.by_;have h6:w.heap.size≤w6.heap.size:=hby.size;have hbase:base≤N:=by have:=hold gB (by simp[BX.foot]);have:=h.low.1;omega
 have hgs:=qM w6 gB 32 v';have hB6:Blk w6 gB 76 b.cells:=h.blk.grown hby (fun e=>h.row_ne e.symm);have hset:b.cells.set 32 v'=BX.cells ⟨b.grp,v',b.es++ [e],b.clr⟩:=by
  unfold BX.cells;rw[JR,if_neg (by simp[h.glen])];simp[h.glen]
 have hef:BX.efoot ⟨b.grp,v',b.es++ [e],b.clr⟩=b.efoot++e.foot:=by unfold BX.efoot;rw[JG];simp
 have hv':∀g,v'.ownBlock=some g→(b.v.ownBlock=some g∨N≤g):=fun g hgv=>by
  rcases hg.at_ with h1|h1
  ·exact .inl (by rw[←h1];exact hgv)
  ·rw[h1]at hgv;injection hgv with hgv;exact .inr (by omega)
 have hfar:∀x,x∈b.es∨x=e→∀k∈x.foot,(w6.setCell ⟨gB,32,none⟩ v').heap[k]?=w.heap[k]?:=fun x hx k hk=>by
  have hch:zo w x.gC x.gl x.xs:=by
   rcases hx with hx|rfl
   ·exact h.ch x hx
   ·exact hc
  have hlt:k<w.heap.size:=hch.foot_lt k hk;have h1:some k≠some gB:=fun e2=>by
   injection e2 with e2;exact hch.out (T:=76) (cs:=b.cells.toArray) h.blk (by decide) (by decide) (by decide) (by rw[←e2];exact hk)
  have h2:some k≠b.v.ownBlock:=fun e2=>by
   obtain⟨-,-,cs,h3⟩:=kW h.row e2.symm;exact hch.out h3 (by decide) (by decide) (by decide) hk
  exact(hgs.block k (by omega) h1).trans (hby.block k hlt h2)
 refine⟨⟨(hB6.set_ 32 v').cast hset,h.glen,?_,?_,?_,?_,?_,?_,⟨h.low.1,?_⟩⟩,?_,?_⟩
 ·show(w6.setCell ⟨gB,32,none⟩ v').ownsRow base _ 3 v' (b.es++ [e]).length ((b.es++ [e]).flatMap EP.cells)
  rw[QO,JG,List.length_singleton,show[e].flatMap EP.cells=e.cells by simp];refine uR hrow (fun g hgv=>hgs.block g (kW hrow hgv).2.1 (fun e2=>?_));injection e2 with e2;obtain⟨-,-,cs,h3⟩:=kW hrow hgv;have h4:w6.heap[gB]?=some (.cells b.cells.toArray 76 (0,0)):=hB6;rw[←e2,h3]at h4;injection h4 with h4;injection h4 with _ hT _;exact absurd hT (by decide)
 ·intro x hx
  rcases QS.1 hx with hx|hx
  ·exact(h.ch x hx).of_same (hfar x (.inl hx))
  ·rw[Je]at hx;subst hx
   exact hc.of_same (hfar x (.inr rfl))
 ·intro x hx
  rcases QS.1 hx with hx|hx
  ·exact h.bnd x hx
  ·rw[Je]at hx;subst hx;exact hbnd
 ·refine List.pairwise_append.2 ⟨h.rise,List.pairwise_singleton _ _,fun x hx y hy=>?_⟩
  rw[Je]at hy;subst hy;exact hlast x hx
 ·show(b.es++ [e]).length≤5
  rw[QO,List.length_singleton];omega
 ·rw[hef]
  refine J9.2 ⟨h.nd,hc.foot_nd,fun x hx y hy e2=>?_⟩;subst e2;have h1:=hold x (by simp only[BX.foot,Ja,QS];exact .inr (.inr hx));have h2:=hnew x hy;omega
 ·intro k hk
  rw[hef]at hk;rcases QS.1 hk with hk|hk
  ·exact h.low.2 k hk
  ·have:=hnew k hk;omega
 ·refine⟨hgs.os.trans hby.os,hgs.tape.trans hby.tape,hgs.output.trans hby.output,QX hby.size hgs.size,fun k hk hn=>?_⟩
  have h1:some k≠some gB:=fun e2=>by injection e2 with e2;subst e2;exact hn (by simp[BX.foot])
  have h2:some k≠b.v.ownBlock:=fun e2=>hn (by simp[BX.foot,←e2])
  exact(hgs.block k (by omega) h1).trans (hby.block k hk h2)
 ·intro k hk
  simp only[BX.foot,Ja,QS,Option.mem_toList,hef]at hk ⊢;rcases hk with hk|hk|hk|hk
  ·exact .inl (.inl hk)
  ·rcases hv' k hk with h1|h1
   ·exact .inl (.inr (.inl h1))
   ·exact .inr h1
  ·exact .inl (.inr (.inr hk))
  ·exact .inr (hnew k hk)
theorem qI.deleted{g c:Nat}(h:qI w base gB b)(hv:b.v= .slice (some ⟨g,0,none⟩) 5 c)(h5:b.es.length=5){w8:World}(hrow:w8.ownsRow base 80 3 (.slice (some ⟨g,0,none⟩) 4 c) 4 ((b.es.flatMap EP.cells).drop 3))(hg:w.grownBy w8 (some g)):
 qI (w8.setCell ⟨gB,32,none⟩ (.slice (some ⟨g,0,none⟩) 4 c)) base gB ⟨b.grp,.slice (some ⟨g,0,none⟩) 4 c,b.es.tail,b.clr⟩∧Frm w (w8.setCell ⟨gB,32,none⟩ (.slice (some ⟨g,0,none⟩) 4 c)) (BX.foot gB b)∧
  ∀k∈BX.foot gB ⟨b.grp,.slice (some ⟨g,0,none⟩) 4 c,b.es.tail,b.clr⟩,k∈BX.foot gB b:=by
 obtain⟨e0,es,he⟩:∃e0 es,b.es=e0::es:=by
  cases hb:b.es with
  |nil=>rw[hb]at h5;cases h5
  |cons x r=>exact⟨x,r,rfl⟩
 have hvo:b.v.ownBlock=some g:=by rw[hv];rfl
 have hgb:g≠gB:=fun e=>h.row_ne (by rw[hvo,e])
 have hgs:=qM w8 gB 32 (.slice (some ⟨g,0,none⟩) 4 c);have hB8:Blk w8 gB 76 b.cells:=h.blk.grown hg (fun e=>hgb (by injection e with e;exact e.symm));have hset:b.cells.set 32 (.slice (some ⟨g,0,none⟩) 4 c)=BX.cells ⟨b.grp,.slice (some ⟨g,0,none⟩) 4 c,b.es.tail,b.clr⟩:=by
  unfold BX.cells;rw[JR,if_neg (by simp[h.glen])];simp[h.glen]
 have ht:b.es.tail=es:=by rw[he];rfl
 have hfe:b.efoot=e0.foot++es.flatMap EP.foot:=by unfold BX.efoot;rw[he,JW]
 have hcd:(b.es.flatMap EP.cells).drop 3=es.flatMap EP.cells:=by rw[he,JW,List.drop_left' e0.cells_len]
 have hl4:es.length=4:=by rw[he]at h5;simpa using h5
 rw[hcd]at hrow;have hmem:∀x∈es,x∈b.es:=fun x hx=>by rw[he];exact List.mem_cons_of_mem _ hx
 have hs8:w.heap.size≤w8.heap.size:=hg.size;rw[ht]at hset ⊢;refine⟨⟨(hB8.set_ 32 _).cast hset,h.glen,?_,?_,fun x hx=>h.bnd x (hmem x hx),?_,?_,?_,⟨h.low.1,?_⟩⟩,?_,?_⟩
 ·show(w8.setCell ⟨gB,32,none⟩ _).ownsRow base _ 3 _ es.length (es.flatMap EP.cells)
  rw[hl4];refine uR hrow (fun k hk=>hgs.block k (kW hrow hk).2.1 (fun e2=>?_));injection e2 with e2;injection hk with hk;have hk':g=k:=hk;exact hgb (by rw[hk',e2])
 ·intro x hx
  have c:=h.ch x (hmem x hx);refine c.of_same (fun k hk=>?_);have hlt:=c.foot_lt k hk;have h1:some k≠some gB:=fun e2=>by injection e2 with e2;exact h.gB_notin x (hmem x hx) (by rw[←e2];exact hk)
  have h2:some k≠some g:=fun e2=>by injection e2 with e2;exact h.row_notin hvo x (hmem x hx) (by rw[←e2];exact hk)
  exact(hgs.block k (by omega) h1).trans (hg.block k hlt h2)
 ·have:=h.rise;rw[he]at this;exact(List.pairwise_cons.1 this).2
 ·show es.length≤5;omega
 ·have:=h.nd;rw[hfe]at this;exact(J9.1 this).2.1
 ·intro k hk
  exact h.low.2 k (by rw[hfe];exact QS.2 (.inr hk))
 ·refine⟨hgs.os.trans hg.os,hgs.tape.trans hg.tape,hgs.output.trans hg.output,QX hg.size hgs.size,fun k hk hn=>?_⟩
  have h1:some k≠some gB:=fun e2=>by injection e2 with e2;subst e2;exact hn (by simp[BX.foot])
  have h2:some k≠some g:=fun e2=>hn (by injection e2 with e2;subst e2;simp[BX.foot,hvo])
  exact(hgs.block k (by omega) h1).trans (hg.block k hk h2)
 ·intro k hk
  simp only[BX.foot,Ja,QS,Option.mem_toList]at hk ⊢;rcases hk with hk|hk|hk
  ·exact .inl hk
  ·exact .inr (.inl (by rw[hvo];exact hk))
  ·exact .inr (.inr (by rw[hfe];exact QS.2 (.inr hk)))
end
section
variable{P:Program}{ops:Array Oper}{md:Region.Mode}{Q:Exit→Act→World→Prop}{S:World→Prop}{z:Nat}
def jw(P:Program)(md:Region.Mode)(ops:Array Oper)(Q:Exit→Act→World→Prop)(S:World→Prop)(z:Nat):Nat→Array Bool→Act→World→Prop
 |0,L,a,w=>Jl md ops L=[]∧Q .normal a w
 |f+1,L,a,w=>(Jl md ops L=[]→Q .normal a w)∧∀i∈Jl md ops L,wpOp P ops Q i (fun a' w'=>(L.getD z true=false→i≠z→S w')∧jw P md ops Q S z f (L.setIfInBounds i true) a' w') a w
theorem qd8:∀(f:Nat) (L:Array Bool) (a:Act) (w:World),jw P md ops Q S z f L a w→wpAny P md ops Q f L a w
 |0,_,_,_,h=>h
 |f+1,_,_,_,h=>⟨h.1,fun i hi=>wpOp_mono (fun a' w' h'=>qd8 f _ a' w' h'.2) (h.2 i hi)⟩
theorem qcG{i:Nat}{oj:Oper}{L:Array Bool}(hr:i∈Jl md ops L)(hall:∀e∈oj.after,Region.binds md e=true→L.getD e.on false=true):∀e∈oj.after,Region.binds md e=true→e.on≠i:=fun e he hb heq=>by
 have g1:=hall e he hb;have g0:=(mem_ready.1 hr).1;rw[heq]at g1;rcases Jo i L.size with h'|h'
 ·simp[h']at g0 g1;rw[g0]at g1;cases g1
 ·simp[Array.getElem?_eq_none h']at g1
theorem qfV{i:Nat}{oi:Oper}{v:Value}(hi:ops[i]?=some oi)(hsel:Region.noSelect ops=true)(hw:kV md ops z i=true)(hQ:∀c a w,Q (.panic c) (a.put oi.dst v) w→Q (.panic c) a w):
 ∀(f:Nat) (L:Array Bool) (a:Act) (w:World),(∀j oj,ops[j]?=some oj→j≠i→L.getD j true=false→(∀e∈oj.after,Region.binds md e=true→e.on≠i)→oi.apart ops oj=true)→
  i∈Jl md ops L→YieldsIf P ops S oi v a→L.getD z true=false→S w→jw P md ops Q S z f (L.setIfInBounds i true) (a.put oi.dst v) w→jw P md ops Q S z (f+1) L a w:=by
 intro f
 induction f with
 |zero=>
  intro L a w _ hr hy hz hS H;refine⟨fun h=>(by rw[h]at hr;cases hr),fun j hj=>?_⟩;by_cases e:j=i
  ·subst e;exact hy.wpOp hi hS ⟨fun _ _=>hS,H⟩
  ·have:=ready_mono hj e
   rw[H.1]at this;cases this
 |succ f ih=>
  intro L a w hfree hr hy hz hS H;refine⟨fun h=>(by rw[h]at hr;cases hr),fun j hj=>?_⟩;by_cases e:j=i
  ·subst e;exact hy.wpOp hi hS ⟨fun _ _=>hS,H⟩
  ·have h1:=H.2 j (ready_mono hj e)
   obtain⟨hjun,oj,hoj,hall⟩:=mem_ready.1 hj;have hnot:=qcG hr hall;have hjz:j≠z:=fun ez=>by
    subst ez;unfold kV at hw;rw[hoj]at hw;obtain⟨x,hx,hxe⟩:=Array.any_eq_true'.1 hw;simp only[JC,beq_iff_eq]at hxe;exact hnot x hx hxe.1 hxe.2
   have hiz:i≠z:=fun ez=>by
    subst ez;obtain⟨x,hx,hxe⟩:∃x,x∈oi.after∧(Region.binds md x=true∧x.on=i):=by
     unfold kV at hw;rw[hi]at hw;obtain⟨x,hx,hxe⟩:=Array.any_eq_true'.1 hw;simp only[JC,beq_iff_eq]at hxe;exact⟨x,hx,hxe⟩
    obtain⟨-,oi',hoi',hall'⟩:=mem_ready.1 hr;rw[hi]at hoi';cases hoi';exact qcG hr hall' x hx hxe.1 hxe.2
   have h2:=wpOp_putIf hoj (hfree j oj hoj e hjun hnot) (fun cs b=>Region.noSelect_spec hsel i oi cs b hi) (fun cs b=>Region.noSelect_spec hsel j oj cs b hoj) hQ hy h1;refine wpOp_mono (fun a' w' h3=>?_) h2;have hzi:(L.setIfInBounds i true).getD z true=false:=by rw[getD_set_ne true hiz];exact hz
   have hS':=h3.2.1 hzi hjz;refine⟨fun _ _=>hS',ih _ a' w' (fun k ok hk hki hun hno=>hfree k ok hk hki ?_ hno) (ready_mono hr (Ne.symm e)) h3.1 (by rw[getD_set_ne true hjz];exact hz) hS' ?_⟩
   ·by_cases hjk:j=k
    ·subst hjk;exact hjun
    ·rw[getD_set_ne true hjk]at hun;exact hun
   ·rw[Array.setIfInBounds_comm _ _ e]
    exact h3.2.2
theorem qeE{i:Nat}{oi:Oper}{v:Value}(hi:ops[i]?=some oi)(hsel:Region.noSelect ops=true)(hiz:i≠z)(hQ:∀c a w,Q (.panic c) (a.put oi.dst v) w→Q (.panic c) a w):
 ∀(f:Nat) (L:Array Bool) (a:Act) (w:World),(∀j oj,ops[j]?=some oj→j≠i→L.getD j true=false→(∀e∈oj.after,Region.binds md e=true→e.on≠i)→oi.apart ops oj=true)→
  i∈Jl md ops L→YieldsIf P ops (fun _=>True) oi v a→(L.getD z true=false→S w)→jw P md ops Q S z f (L.setIfInBounds i true) (a.put oi.dst v) w→jw P md ops Q S z (f+1) L a w:=by
 intro f
 induction f with
 |zero=>
  intro L a w _ hr hy hS H;refine⟨fun h=>(by rw[h]at hr;cases hr),fun j hj=>?_⟩;by_cases e:j=i
  ·subst e;exact hy.wpOp hi trivial ⟨fun hz _=>hS hz,H⟩
  ·have:=ready_mono hj e
   rw[H.1]at this;cases this
 |succ f ih=>
  intro L a w hfree hr hy hS H;refine⟨fun h=>(by rw[h]at hr;cases hr),fun j hj=>?_⟩;by_cases e:j=i
  ·subst e;exact hy.wpOp hi trivial ⟨fun hz _=>hS hz,H⟩
  ·have h1:=H.2 j (ready_mono hj e)
   obtain⟨hjun,oj,hoj,hall⟩:=mem_ready.1 hj;have hnot:=qcG hr hall;have h2:=wpOp_putIf hoj (hfree j oj hoj e hjun hnot) (fun cs b=>Region.noSelect_spec hsel i oi cs b hi) (fun cs b=>Region.noSelect_spec hsel j oj cs b hoj) hQ hy h1;refine wpOp_mono (fun a' w' h3=>?_) h2;refine⟨fun hz hjz=>h3.2.1 (by rw[getD_set_ne true hiz];exact hz) hjz,ih _ a' w' (fun k ok hk hki hun hno=>hfree k ok hk hki ?_ hno) (ready_mono hr (Ne.symm e)) h3.1 (fun hz=>?_) ?_⟩
   ·by_cases hjk:j=k
    ·subst hjk;exact hjun
    ·rw[getD_set_ne true hjk]at hun;exact hun
   ·by_cases hjz:j=z
    ·subst hjz
     rcases Jo j L.size with h'|h'
     ·simp[h']at hz
     ·simp[Array.getElem?_eq_none h']at hz
    ·exact h3.2.1 (by rw[getD_set_ne true hiz];rw[getD_set_ne true hjz]at hz;exact hz) hjz
   ·rw[Array.setIfInBounds_comm _ _ e]
    exact h3.2.2
theorem qc8{i:Nat}{oi:Oper}{v:Value}{f:Nat}{L:Array Bool}{a:Act}{w:World}(hi:ops[i]?=some oi)(hs:Region.noSelect ops=true)(hw:kV md ops z i=true)(hz:L.getD z true=false)(hf:Region.free md ops L i=true)(hr:(Jl md ops L).contains i=true)
 (hQ:∀c a w,Q (.panic c) (a.put oi.dst v) w→Q (.panic c) a w)(hy:YieldsIf P ops S oi v a)(hS:S w)(h:jw P md ops Q S z f (L.setIfInBounds i true) (a.put oi.dst v) w):jw P md ops Q S z (f+1) L a w:=
 qfV hi hs hw hQ f L a w (Region.free_spec hi hf) (by simpa using hr) hy hz hS h
theorem qc9{i:Nat}{oi:Oper}{v:Value}{f:Nat}{L:Array Bool}{a:Act}{w:World}(hi:ops[i]?=some oi)(hs:Region.noSelect ops=true)(hiz:decide (i≠z)=true)(hf:Region.free md ops L i=true)(hr:(Jl md ops L).contains i=true)
 (hQ:∀c a w,Q (.panic c) (a.put oi.dst v) w→Q (.panic c) a w)(hy:YieldsIf P ops (fun _=>True) oi v a)(hS:S w)(h:jw P md ops Q S z f (L.setIfInBounds i true) (a.put oi.dst v) w):jw P md ops Q S z (f+1) L a w:=
 qeE hi hs (of_decide_eq_true hiz) hQ f L a w (Region.free_spec hi hf) (by simpa using hr) hy (fun _=>hS) h
theorem qiM{i:Nat}{o:Oper}{f:Nat}{L:Array Bool}{a:Act}{w:World}(hr:Jl md ops L=[i])(ho:ops[i]?=some o)
 (h:∀K':Act→World→Prop,(∀a w,(i≠z→S w)→jw P md ops Q S z f (L.setIfInBounds i true) a w→K' a w)→if Jv o (yielded ops a.tmps)=true then o.wp P a w K' Q else K' (a.put o.dst undef) w):jw P md ops Q S z (f+1) L a w:=by
 refine⟨fun h0=>(by rw[h0]at hr;cases hr),fun j hj=>?_⟩;rw[hr,Je]at hj;subst hj;have h1:=h (fun a' w'=>(L.getD z true=false→j≠z→S w')∧jw P md ops Q S z f (L.setIfInBounds j true) a' w') (fun _ _ h1 h2=>⟨fun _=>h1,h2⟩);unfold wpOp;rw[ho];dsimp only;split
 ·rename_i hw;rw[if_pos hw]at h1;exact .inl h1
 ·rename_i hw;rw[if_neg hw]at h1;exact h1
theorem jq{L:Array Bool}{a:Act}{w:World}(hr:Jl md ops L=[])(h:Q .normal a w):∀f,jw P md ops Q S z f L a w
 |0=>⟨hr,h⟩
 |_+1=>⟨fun _=>h,by rw[hr];simp⟩
theorem jr{id:Nat}{a:Act}{w:World}(hm:P.follows .mixedOrders=true)(S:World→Prop)(z:Nat)
 (h:jw P .any ops Q S z ops.size (Array.replicate ops.size false) a w.drew):(Code.region id ops true).wp P Q a w:=wp_region_any hm (qd8 _ _ _ _ h)
theorem puY{P:Program}{ops:Array Oper}{md:Region.Mode}{Q:Exit→Act→World→Prop}{S:World→Prop}{z:Nat}(i:Nat)(v:Value){oi:Oper}{D:Tmp}{f:Nat}{L:Array Bool}{a:Act}{w:World}(hy:∀w:World,True→(execOp a.eval oi).run P w= .ok (.value v) w)(hS:S w)(h:jw P md ops Q S z f (L.setIfInBounds i true) (a.put (some D) v) w)
 (hi:ops[i]?=some oi:=by exact rfl)(hd:oi.dst=some D:=by exact rfl)(hc:(Region.noSelect ops&&(decide (i≠z)&&(Region.free md ops L i&&(Jl md ops L).contains i)))=true:=by kernel_rfl)
 (hQ:∀c a w,Q (.panic c) (a.put oi.dst v) w→Q (.panic c) a w:=by exact fun _ _ _ h=>h)(hw:Jv oi (yielded ops a.tmps)=true:=by exact rfl):jw P md ops Q S z (f+1) L a w:=by
 rw[JC,JC,JC]at hc;rw[←hd]at h;exact qc9 hi hc.1 hc.2.1 hc.2.2.1 hc.2.2.2 hQ (.inl ⟨hw,hy⟩) hS h
theorem tkL{P:Program}{ops:Array Oper}{md:Region.Mode}{Q:Exit→Act→World→Prop}{S:World→Prop}{z:Nat}(i:Nat)(v:Value){oi:Oper}{D:Tmp}{f:Nat}{L:Array Bool}{a:Act}{w:World}(hi:ops[i]?=some oi)(hd:oi.dst=some D)(hy:YieldsIf P ops S oi v a)(hS:S w)(h:jw P md ops Q S z f (L.setIfInBounds i true) (a.put (some D) v) w)
 (hc:(Region.noSelect ops&&(kV md ops z i&&(!L.getD z true&&(Region.free md ops L i&&(Jl md ops L).contains i))))=true:=by kernel_rfl)
 (hQ:∀c a w,Q (.panic c) (a.put oi.dst v) w→Q (.panic c) a w:=by exact fun _ _ _ h=>h):jw P md ops Q S z (f+1) L a w:=by
 rw[JC,JC,JC,JC]at hc;rw[←hd]at h;exact qc8 hi hc.1 hc.2.1 (by simpa using hc.2.2.1) hc.2.2.2.1 hc.2.2.2.2 hQ hy hS h
theorem tkY{P:Program}{ops:Array Oper}{md:Region.Mode}{Q:Exit→Act→World→Prop}{S:World→Prop}{z:Nat}(i:Nat)(v:Value){oi:Oper}{D:Tmp}{f:Nat}{L:Array Bool}{a:Act}{w:World}(hy:∀w,S w→(execOp a.eval oi).run P w= .ok (.value v) w)(hS:S w)(h:jw P md ops Q S z f (L.setIfInBounds i true) (a.put (some D) v) w)
 (hi:ops[i]?=some oi:=by exact rfl)(hd:oi.dst=some D:=by exact rfl)(hc:(Region.noSelect ops&&(kV md ops z i&&(!L.getD z true&&(Region.free md ops L i&&(Jl md ops L).contains i))))=true:=by kernel_rfl)
 (hQ:∀c a w,Q (.panic c) (a.put oi.dst v) w→Q (.panic c) a w:=by exact fun _ _ _ h=>h)(hw:Jv oi (yielded ops a.tmps)=true:=by exact rfl):jw P md ops Q S z (f+1) L a w:=
 tkL i v hi hd (.inl ⟨hw,hy⟩) hS h hc hQ
theorem onY{P:Program}{ops:Array Oper}{md:Region.Mode}{Q:Exit→Act→World→Prop}{S:World→Prop}{z:Nat}(i:Nat){o:Oper}{f:Nat}{L:Array Bool}{a:Act}{w:World}
 (h:∀K':Act→World→Prop,(∀a w,(i≠z→S w)→jw P md ops Q S z f (L.setIfInBounds i true) a w→K' a w)→if Jv o (yielded ops a.tmps)=true then o.wp P a w K' Q else K' (a.put o.dst undef) w)
 (hr:Jl md ops L=[i]:=by kernel_rfl)(ho:ops[i]?=some o:=by exact rfl):jw P md ops Q S z (f+1) L a w:=qiM hr ho h
theorem puB{P:Program}{ops:Array Oper}{md:Region.Mode}{Q:Exit→Act→World→Prop}{S:World→Prop}{z:Nat}(i:Nat)(v:Value){oi:Oper}{D:Tmp}{f:Nat}{L:Array Bool}{a:Act}{w:World}(hS:S w)(h:jw P md ops Q S z f (L.setIfInBounds i true) (a.put (some D) v) w)
 (hi:ops[i]?=some oi:=by exact rfl)(hd:oi.dst=some D:=by exact rfl)(hc:(Region.noSelect ops&&(decide (i≠z)&&(Region.free md ops L i&&(Jl md ops L).contains i)))=true:=by kernel_rfl)
 (hQ:∀c a w,Q (.panic c) (a.put oi.dst v) w→Q (.panic c) a w:=by exact fun _ _ _ h=>h)(hw:Jv oi (yielded ops a.tmps)=true:=by exact rfl)
 (hy:∀w:World,True→(execOp a.eval oi).run P w= .ok (.value v) w:=by intros;go_simp):jw P md ops Q S z (f+1) L a w:=
 puY i v hy hS h hi hd hc hQ hw
theorem tkB{P:Program}{ops:Array Oper}{md:Region.Mode}{Q:Exit→Act→World→Prop}{S:World→Prop}{z:Nat}(i:Nat)(v:Value){oi:Oper}{D:Tmp}{f:Nat}{L:Array Bool}{a:Act}{w:World}(hS:S w)(h:jw P md ops Q S z f (L.setIfInBounds i true) (a.put (some D) v) w)
 (hi:ops[i]?=some oi:=by exact rfl)(hd:oi.dst=some D:=by exact rfl)(hc:(Region.noSelect ops&&(kV md ops z i&&(!L.getD z true&&(Region.free md ops L i&&(Jl md ops L).contains i))))=true:=by kernel_rfl)
 (hQ:∀c a w,Q (.panic c) (a.put oi.dst v) w→Q (.panic c) a w:=by exact fun _ _ _ h=>h)(hw:Jv oi (yielded ops a.tmps)=true:=by exact rfl)
 (hy:∀w,S w→(execOp a.eval oi).run P w= .ok (.value v) w:=by(try simp only[and_imp]);intros;go_simp):jw P md ops Q S z (f+1) L a w:=
 tkY i v hy hS h hi hd hc hQ hw
end
def uh(n:Int)(i:Nat):BitVec 8:=QU 8 (n/(2:Int)^(8*i))
def be(n:Int):Nat→qf
 |0=> []
 |s+1=>uh n s::be n s
theorem qK(n:Int):∀s,(be n s).length=s
 |0=>rfl
 |s+1=>by simp[be,qK n s]
structure Pen(w:World)(B g:Nat)(xs:qf)(bad:Bool):Prop where
 at_:∃v,Blk w g 136 [v,.bool bad]∧Own b8 w B 5 v xs
 le:B≤g
section
variable{w w':World}{B g:Nat}{xs ys:qf}{bad bad':Bool}
theorem Pen.lt(h:Pen w B g xs bad):g<w.heap.size:=by obtain⟨⟨v,h1,h2⟩,h3⟩:=h;exact h1.lt
theorem Pen.size(h:Pen w B g xs bad):B≤w.heap.size:=by have:=h.lt;have:=h.le;omega
theorem Pen.alloc(h:Pen w B g xs bad)(o:Obj):Pen (w.alloc o) B g xs bad:=by obtain⟨⟨v,h1,h2⟩,h3⟩:=h;exact⟨⟨v,h1.alloc o,h2.alloc o⟩,h3⟩
theorem Pen.cast(h:Pen w B g xs bad)(e:xs=ys)(e':bad=bad'):Pen w B g ys bad':=by subst e;subst e';exact h
theorem Pen.setBad(h:Pen w B g xs bad)(u:Bool):Pen (w.setCell ⟨g,1,none⟩ (.bool u)) B g xs u:=by
 obtain⟨⟨v,h1,h2⟩,h3⟩:=h;exact⟨⟨v,h1.set_ 1 (.bool u),h2.kept (qM w g 1 _) (.inr (h1.not_row (by decide) h2).symm)⟩,h3⟩
def Oth(w w':World):Prop:=∀k T cs,T≠5→T≠136→Blk w k T cs→Blk w' k T cs
theorem Oth.refl(w:World):Oth w w:=fun _ _ _ _ _ h=>h
theorem Oth.trans{w1 w2 w3:World}(h:Oth w1 w2)(h':Oth w2 w3):Oth w1 w3:=fun k T cs a b c=>h' k T cs a b (h k T cs a b c)
theorem Oth.alloc(h:Oth w w')(o:Obj):Oth w (w'.alloc o):=fun k T cs a b c=>(h k T cs a b c).alloc o
theorem Oth.set_{g k0:Nat}{cs0:List Value}{u:Value}(hg:Blk w g 136 cs0):Oth w (w.setCell ⟨g,k0,none⟩ u):=fun k T cs a b c=>by
 refine c.far (p:=⟨g,k0,none⟩) ?_ u;rintro rfl;exact b (by have:=c.symm.trans hg;simp only[Option.some.injEq,Obj.cells.injEq]at this;exact this.2.1)
theorem Oth.own{B:Nat}{v:Value}{xs:qf}(h:Own b8 w B 5 v xs)(hg:w.grownBy w' v.ownBlock):Oth w w':=fun k T cs a b c=>
 c.grown hg (c.not_row a h)
theorem qbn{v v':Value}{tmp:Obj}(h1:Blk w g 136 [v,.bool bad])(h2:Own b8 w B 5 v xs)(hB:B≤g)(hg:(w.alloc tmp).grownBy w' v.ownBlock∨w.grownBy w' v.ownBlock)(h3:Own b8 w' B 5 v' ys):
 Blk w' g 136 [v,.bool bad]∧Pen (w'.setCell ⟨g,0,none⟩ v') B g ys bad∧Oth w (w'.setCell ⟨g,0,none⟩ v'):=by
 have hk:Blk w' g 136 [v,.bool bad]:=by
  rcases hg with hg|hg
  ·exact(h1.alloc tmp).grown hg (h1.not_row (by decide) h2)
  ·exact h1.grown hg (h1.not_row (by decide) h2)
 have ho:Oth w w':=by
  rcases hg with hg|hg
  ·exact fun k T cs a b c=>(c.alloc tmp).grown hg ((c.alloc tmp).not_row a (h2.alloc tmp))
  ·exact Oth.own h2 hg
 exact⟨hk,⟨⟨v',hk.set_ 0 v',h3.kept (qM w' g 0 _) (.inr (hk.not_row (by decide) h3).symm)⟩,hB⟩,ho.trans (Oth.set_ hk)⟩
end
theorem qoq{w:World}{B g:Nat}{v:Value}{xs:qf}{bad:Bool}(h1:Blk w g 136 [v,.bool bad])(h2:Own b8 w B 5 v xs)(h3:B≤g):Pen w B g xs bad:=⟨⟨v,h1,h2⟩,h3⟩
theorem qd9{w:World}{B g:Nat}{xs:qf}{bad:Bool}(hP:Pen w B g xs bad){B':Nat}{A:Option Addr}{n c:Nat}{ys:qf}(hr:Rd b8 w B' A ys)(hB':B'≤w.heap.size)(hn:ys.length=n)(hx:xs.length≤1000000000)(hy:n≤1000000000):
 Calls prog 95 #[.pointer (some ⟨g,0,none⟩),.slice A n c] w fun e w'=>e= .returned (.tuple #[])∧Pen w' B g (xs++ys) bad∧Below B w w'∧Oth w w':=by
 obtain⟨i0,hi0,hz0,hz1,hz2⟩:=info_parts jN;obtain⟨⟨v,h1,h2⟩,h3⟩:=hP;have H1:=qe h1;have H2:=qe h2;have HR:=qe hr;have HN:=qe hn;have c0:=h1.cell 0 rfl;have f0:=h1.frozen 0;have hlt:=h1.lt;clear h1 h2 hr hn;go_enter func95,ntmps95
 go_wp2_with (at_builtin;refine qh rfl (.tmp 8) (.tmp 9) 28 rfl qH B 5 i0 _ 1 underlying28 hi0 hz0 hz1 hz2 rfl _ _ rfl H2.1 B' A n c ys rfl HN.1.symm HR.1 (by simp[maxLen];have:=HN.1;omega) (by have:=HN.1;simp;omega) (by omega) ?_;intro v2 w2 hown2 hg2 hb2;obtain⟨A2,c2,rfl,-,-,-,-⟩:=hown2.shape;have hst:=qbn (tmp:= .cells #[] 0) H1.1 H2.1 h3 (.inr hg2.by_) hown2;have f2:=hst.1.frozen 0;have c2':=hst.1.cell 0 rfl;have HS2:=qe hst.2.1;have HO2:=qe hst.2.2;have HB2:=qe (hb2 B w (QI _) (QK _ _));clear hown2 hg2 hb2 hst)
 go_end0
 exact⟨rfl,by simpa using HS2.1,HB2.1.setCell (p:=⟨g,0,none⟩) h3 _,by simpa using HO2.1⟩
theorem qdo(n:Int):∀(s k i:Nat),k+i+1=s→(be n s).take (k+1)=(be n s).take k++ [uh n i]
 |0,k,i,h=>by omega
 |s+1,0,i,h=>by obtain rfl:i=s:=by omega
                simp[be]
 |s+1,k+1,i,h=>by simp only[be,List.take_succ_cons,JL];rw[qdo n s k i (by omega)]
theorem qaB(n:Int)(i:Nat):IntKind.u8.wrap (n/2^(8*i))=bv (uh n i):=by
 unfold uh bv;rw[BitVec.toNat_ofInt,kK];omega
theorem qor(n:Nat):((2:Int)^n)=((2^n:Nat):Int):=by push_cast;rfl
theorem qhl{w:World}{B g:Nat}{xs:qf}{bad:Bool}(hP:Pen w B g xs bad)(n:Int)(s:Nat)(most:Int)(hn1: -9223372036854775808≤n)(hn2:n<9223372036854775808)(hs:s≤8)(hx:xs.length≤1000000000):
 Calls prog 64 #[.pointer (some ⟨g,0,none⟩),.int .i64 n,.int .i64 s,.int .i64 most] w fun e w'=>e= .returned (.tuple #[])∧Pen w' B g (xs++be n s) (bad||(decide (n<0)||decide (most<n)))∧Below B w w'∧Oth w w':=by
 obtain⟨i0,hi0,hz0,hz1,hz2⟩:=info_parts jN;have HP:=qe hP;obtain⟨v,h1,h2⟩:=hP.at_;have hle:=hP.le;have c1:=h1.cell 1 rfl;have f1:=h1.frozen 1;have HH:=qe (show Oth w (w.setCell ⟨g,1,none⟩ (.bool true))from Oth.set_ h1);clear h1 h2 hP;by_cases hlo:n<0
 ·obtain⟨bad',hbad'⟩:∃b,b=(bad||(decide (n<0)||decide (most<n))):=⟨_,rfl⟩
  have HP':=qe (show Pen (w.setCell ⟨g,1,none⟩ (.bool true)) B g xs bad' from(HP.1.setBad true).cast rfl (by rw[hbad'];simp[hlo]));have HB':=qe (show Below B w (w.setCell ⟨g,1,none⟩ (.bool true))from(QK _ _).setCell (p:=⟨g,1,none⟩) hle _);have HO':=qe (show Oth w (w.setCell ⟨g,1,none⟩ (.bool true))from HH.1);rw[←hbad'];clear hbad';go_enter func64,ntmps64
  go_wp2
  go_loopw [8] (fun iv wr=>∃(k j:Nat),k+j=s∧iv= .int .i64 ((j:Int)-1)∧Pen wr B g (xs++(be n s).take k) bad'∧Below B w wr∧Oth w wr) (fun iv _=>(intOf iv+1).toNat)
  case atStart=>exact⟨0,s,by omega,rfl,by simpa using HP'.1,HB'.1,HO'.1⟩
  case round=>
   obtain⟨k,j,hkj,rfl,hp,hb,ho⟩:=hrel;have HOr:=qe ho;clear ho;by_cases hj:j=0
   ·subst hj
    rw[show(((0:Nat):Int)-1)= -1 by omega];go_wp2_with fail
    go_end0
    exact⟨rfl,hp.cast (by rw[Js (by rw[qK];omega)]) rfl,hb,HOr.1⟩
   ·obtain⟨i,rfl⟩:∃i,j=i+1:=⟨j-1,by omega⟩
    rw[show(((i+1:Nat):Int)-1)=(i:Int) by omega];have hi8:i<8:=by omega
    obtain⟨⟨vv,p1,p2⟩,p3⟩:=hp;have hw8:IntKind.i64.wrap (8*(i:Int))=8*(i:Int):=Jc _ (by omega);have hi0':(0:Int)≤8*(i:Int):=by omega
    have hi64:8*(i:Int)≤64:=by omega
    have hnat:(8*(i:Int)).toNat=8*i:=by omega
    have hcv:=qaB n i;have Hp1:=qe p1;have p1':Blk wr.drew g 136 [vv,.bool bad']:=p1;have Hb:=qe hb;have c0:=p1.cell 0 rfl;have hlt:=p1.lt;have htk:(be n s).take (k+1)=(be n s).take k++ [uh n i]:=qdo n s k i (by omega);have Htk:=qe htk;have hlen:(xs++(be n s).take k).length≤1000000008:=by rw[QO,QV,qK];omega
    obtain⟨ys,hys⟩:∃ys,ys=xs++(be n s).take k:=⟨_,rfl⟩;rw[←hys]at hlen p2;have Hp2:=qe p2;have Hys:=qe hys;clear p1 p2 hb htk hys;go_wp2_with fail
    refine jr (by kernel_rfl) (fun w':World=>w'.cell? ⟨g,0,none⟩=some vv) 14 ?_;have hS:(fun w':World=>w'.cell? ⟨g,0,none⟩=some vv) wr.drew:=c0;refine puB 0 (.pointer (some ⟨g,0,none⟩)) hS ?_;refine puB 1 (.pointer (some ⟨g,0,none⟩)) hS ?_;refine puB 2 (.pointer (some ⟨g,0,none⟩)) hS ?_;try simp only[QJ,qj,qz,qv]
    refine puB 3 (.pointer (some ⟨g,0,none⟩)) hS ?_;refine tkB 4 vv hS ?_;refine puB 5 (.int .i64 n) hS ?_;try simp only[QJ,qj,qz,qv]
    refine puB 6 (.int .i64 i) hS ?_;refine puB 7 (.int .i64 (8*(i:Int))) hS ?_;refine puB 8 (.int .i64 (n/(2:Int)^(8*i))) hS ?_;try simp only[QJ,qj,qz,qv]
    refine puB 9 (.int .u8 (bv (uh n i))) hS ?_;try simp only[QJ,qj,qz,qv]
    refine onY 10 (fun K' hK=>?_);go_simp;refine hK _ _ (fun _=>(p1'.alloc _).cell 0 rfl) ?_;clear hK K';try simp only[QJ,qj,qz,qv]
    refine onY 11 (fun K' hK=>?_);refine jc rfl (.tmp 29) (.tmp 35) 28 rfl qH B 5 i0 _ 1 underlying28 hi0 hz0 hz1 hz2 rfl _ _ rfl (Hp2.1.drew.alloc _) (wr.heap.size+1) _ 1 1 [uh n i] rfl rfl (Rd.new b8 wr.drew 5 [uh n i]) (by simp[maxLen];omega) (by simp;omega) (by rw[show∀W:World,W.drew.heap.size=W.heap.size from fun _=>rfl,QQ];omega) ?_;intro v7 w7 hown7 hg7 hbb7
    have hst:=qbn (w:=wr.drew) p1' Hp2.1 p3 (.inl hg7.by_) hown7;have hb7:Below B wr w7:=hbb7 _ _ (QI _) (((QK B wr).drew).alloc (by show B≤wr.heap.size;omega) _);obtain⟨A7,cv7,rfl,-,-,-,-⟩:=hown7.shape' (n:=ys.length+1) (by simp);have f7:=hst.1.frozen 0;have c7:=hst.1.cell 0 rfl;refine hK _ _ (fun _=>c7) ?_;clear hK K';try simp only[QJ,qj,qz,qv]
    refine onY 12 (fun K' hK=>?_);go_simp;refine hK _ _ (fun _=>c7) ?_;clear hK K';try simp only[QJ,qj,qz,qv]
    refine onY 13 (fun K' hK=>?_);go_simp;refine hK _ _ (fun _=>c7) ?_;clear hK K';try simp only[QJ,qj,qz,qv]
    refine onY 14 (fun K' hK=>?_);go_simp;refine hK _ _ (fun h=>absurd rfl h) (jq (by kernel_rfl) ?_ _);clear hK K' hw8 hi0' hi64 hnat hcv;have HS7:=qe hst.2.1;have HO7:=qe hst.2.2;have HB7:=qe hb7;clear hst hb7 hown7 hg7 hbb7;go_wp2_with fail
    refine⟨⟨k+1,i,by omega,rfl,HS7.1.cast (by rw[Htk.1,Hys.1,Jb]) rfl,(Hb.1.trans HB7.1).setCell (p:=⟨g,0,none⟩) p3 _,HOr.1.trans HO7.1⟩,by simp[intOf]⟩
 ·have hlo':(n<0)=False:=by simp;omega
  by_cases hhi:most<n
  ·obtain⟨bad',hbad'⟩:∃b,b=(bad||(decide (n<0)||decide (most<n))):=⟨_,rfl⟩
   have HP':=qe (show Pen (w.setCell ⟨g,1,none⟩ (.bool true)) B g xs bad' from(HP.1.setBad true).cast rfl (by rw[hbad'];simp[hhi]));have HB':=qe (show Below B w (w.setCell ⟨g,1,none⟩ (.bool true))from(QK _ _).setCell (p:=⟨g,1,none⟩) hle _);have HO':=qe (show Oth w (w.setCell ⟨g,1,none⟩ (.bool true))from HH.1);rw[←hbad'];clear hbad';go_enter func64,ntmps64
   go_wp2
   go_loopw [8] (fun iv wr=>∃(k j:Nat),k+j=s∧iv= .int .i64 ((j:Int)-1)∧Pen wr B g (xs++(be n s).take k) bad'∧Below B w wr∧Oth w wr) (fun iv _=>(intOf iv+1).toNat)
   case atStart=>exact⟨0,s,by omega,rfl,by simpa using HP'.1,HB'.1,HO'.1⟩
   case round=>
    obtain⟨k,j,hkj,rfl,hp,hb,ho⟩:=hrel;have HOr:=qe ho;clear ho;by_cases hj:j=0
    ·subst hj
     rw[show(((0:Nat):Int)-1)= -1 by omega];go_wp2_with fail
     go_end0
     exact⟨rfl,hp.cast (by rw[Js (by rw[qK];omega)]) rfl,hb,HOr.1⟩
    ·obtain⟨i,rfl⟩:∃i,j=i+1:=⟨j-1,by omega⟩
     rw[show(((i+1:Nat):Int)-1)=(i:Int) by omega];have hi8:i<8:=by omega
     obtain⟨⟨vv,p1,p2⟩,p3⟩:=hp;have hw8:IntKind.i64.wrap (8*(i:Int))=8*(i:Int):=Jc _ (by omega);have hi0':(0:Int)≤8*(i:Int):=by omega
     have hi64:8*(i:Int)≤64:=by omega
     have hnat:(8*(i:Int)).toNat=8*i:=by omega
     have hcv:=qaB n i;have Hp1:=qe p1;have p1':Blk wr.drew g 136 [vv,.bool bad']:=p1;have Hb:=qe hb;have c0:=p1.cell 0 rfl;have hlt:=p1.lt;have htk:(be n s).take (k+1)=(be n s).take k++ [uh n i]:=qdo n s k i (by omega);have Htk:=qe htk;have hlen:(xs++(be n s).take k).length≤1000000008:=by rw[QO,QV,qK];omega
     obtain⟨ys,hys⟩:∃ys,ys=xs++(be n s).take k:=⟨_,rfl⟩;rw[←hys]at hlen p2;have Hp2:=qe p2;have Hys:=qe hys;clear p1 p2 hb htk hys;go_wp2_with fail
     refine jr (by kernel_rfl) (fun w':World=>w'.cell? ⟨g,0,none⟩=some vv) 14 ?_;have hS:(fun w':World=>w'.cell? ⟨g,0,none⟩=some vv) wr.drew:=c0;refine puB 0 (.pointer (some ⟨g,0,none⟩)) hS ?_;refine puB 1 (.pointer (some ⟨g,0,none⟩)) hS ?_;refine puB 2 (.pointer (some ⟨g,0,none⟩)) hS ?_;try simp only[QJ,qj,qz,qv]
     refine puB 3 (.pointer (some ⟨g,0,none⟩)) hS ?_;refine tkB 4 vv hS ?_;refine puB 5 (.int .i64 n) hS ?_;try simp only[QJ,qj,qz,qv]
     refine puB 6 (.int .i64 i) hS ?_;refine puB 7 (.int .i64 (8*(i:Int))) hS ?_;refine puB 8 (.int .i64 (n/(2:Int)^(8*i))) hS ?_;try simp only[QJ,qj,qz,qv]
     refine puB 9 (.int .u8 (bv (uh n i))) hS ?_;try simp only[QJ,qj,qz,qv]
     refine onY 10 (fun K' hK=>?_);go_simp;refine hK _ _ (fun _=>(p1'.alloc _).cell 0 rfl) ?_;clear hK K';try simp only[QJ,qj,qz,qv]
     refine onY 11 (fun K' hK=>?_);refine jc rfl (.tmp 29) (.tmp 35) 28 rfl qH B 5 i0 _ 1 underlying28 hi0 hz0 hz1 hz2 rfl _ _ rfl (Hp2.1.drew.alloc _) (wr.heap.size+1) _ 1 1 [uh n i] rfl rfl (Rd.new b8 wr.drew 5 [uh n i]) (by simp[maxLen];omega) (by simp;omega) (by rw[show∀W:World,W.drew.heap.size=W.heap.size from fun _=>rfl,QQ];omega) ?_;intro v7 w7 hown7 hg7 hbb7
     have hst:=qbn (w:=wr.drew) p1' Hp2.1 p3 (.inl hg7.by_) hown7;have hb7:Below B wr w7:=hbb7 _ _ (QI _) (((QK B wr).drew).alloc (by show B≤wr.heap.size;omega) _);obtain⟨A7,cv7,rfl,-,-,-,-⟩:=hown7.shape' (n:=ys.length+1) (by simp);have f7:=hst.1.frozen 0;have c7:=hst.1.cell 0 rfl;refine hK _ _ (fun _=>c7) ?_;clear hK K';try simp only[QJ,qj,qz,qv]
     refine onY 12 (fun K' hK=>?_);go_simp;refine hK _ _ (fun _=>c7) ?_;clear hK K';try simp only[QJ,qj,qz,qv]
     refine onY 13 (fun K' hK=>?_);go_simp;refine hK _ _ (fun _=>c7) ?_;clear hK K';try simp only[QJ,qj,qz,qv]
     refine onY 14 (fun K' hK=>?_);go_simp;refine hK _ _ (fun h=>absurd rfl h) (jq (by kernel_rfl) ?_ _);clear hK K' hw8 hi0' hi64 hnat hcv;have HS7:=qe hst.2.1;have HO7:=qe hst.2.2;have HB7:=qe hb7;clear hst hb7 hown7 hg7 hbb7;go_wp2_with fail
     refine⟨⟨k+1,i,by omega,rfl,HS7.1.cast (by rw[Htk.1,Hys.1,Jb]) rfl,(Hb.1.trans HB7.1).setCell (p:=⟨g,0,none⟩) p3 _,HOr.1.trans HO7.1⟩,by simp[intOf]⟩
  ·obtain⟨bad',hbad'⟩:∃b,b=(bad||(decide (n<0)||decide (most<n))):=⟨_,rfl⟩
   have HP':=qe (show Pen w B g xs bad' from HP.1.cast rfl (by rw[hbad'];simp[hlo,hhi]));have HB':=qe (QK B w);have HO':=qe (Oth.refl w);have hhi':(most<n)=False:=by simp;omega
   rw[←hbad'];clear hbad';go_enter func64,ntmps64
   go_wp2
   go_loopw [8] (fun iv wr=>∃(k j:Nat),k+j=s∧iv= .int .i64 ((j:Int)-1)∧Pen wr B g (xs++(be n s).take k) bad'∧Below B w wr∧Oth w wr) (fun iv _=>(intOf iv+1).toNat)
   case atStart=>exact⟨0,s,by omega,rfl,by simpa using HP'.1,HB'.1,HO'.1⟩
   case round=>
    obtain⟨k,j,hkj,rfl,hp,hb,ho⟩:=hrel;have HOr:=qe ho;clear ho;by_cases hj:j=0
    ·subst hj
     rw[show(((0:Nat):Int)-1)= -1 by omega];go_wp2_with fail
     go_end0
     exact⟨rfl,hp.cast (by rw[Js (by rw[qK];omega)]) rfl,hb,HOr.1⟩
    ·obtain⟨i,rfl⟩:∃i,j=i+1:=⟨j-1,by omega⟩
     rw[show(((i+1:Nat):Int)-1)=(i:Int) by omega];have hi8:i<8:=by omega
     obtain⟨⟨vv,p1,p2⟩,p3⟩:=hp;have hw8:IntKind.i64.wrap (8*(i:Int))=8*(i:Int):=Jc _ (by omega);have hi0':(0:Int)≤8*(i:Int):=by omega
     have hi64:8*(i:Int)≤64:=by omega
     have hnat:(8*(i:Int)).toNat=8*i:=by omega
     have hcv:=qaB n i;have Hp1:=qe p1;have p1':Blk wr.drew g 136 [vv,.bool bad']:=p1;have Hb:=qe hb;have c0:=p1.cell 0 rfl;have hlt:=p1.lt;have htk:(be n s).take (k+1)=(be n s).take k++ [uh n i]:=qdo n s k i (by omega);have Htk:=qe htk;have hlen:(xs++(be n s).take k).length≤1000000008:=by rw[QO,QV,qK];omega
     obtain⟨ys,hys⟩:∃ys,ys=xs++(be n s).take k:=⟨_,rfl⟩;rw[←hys]at hlen p2;have Hp2:=qe p2;have Hys:=qe hys;clear p1 p2 hb htk hys;go_wp2_with fail
     refine jr (by kernel_rfl) (fun w':World=>w'.cell? ⟨g,0,none⟩=some vv) 14 ?_;have hS:(fun w':World=>w'.cell? ⟨g,0,none⟩=some vv) wr.drew:=c0;refine puB 0 (.pointer (some ⟨g,0,none⟩)) hS ?_;refine puB 1 (.pointer (some ⟨g,0,none⟩)) hS ?_;refine puB 2 (.pointer (some ⟨g,0,none⟩)) hS ?_;try simp only[QJ,qj,qz,qv]
     refine puB 3 (.pointer (some ⟨g,0,none⟩)) hS ?_;refine tkB 4 vv hS ?_;refine puB 5 (.int .i64 n) hS ?_;try simp only[QJ,qj,qz,qv]
     refine puB 6 (.int .i64 i) hS ?_;refine puB 7 (.int .i64 (8*(i:Int))) hS ?_;refine puB 8 (.int .i64 (n/(2:Int)^(8*i))) hS ?_;try simp only[QJ,qj,qz,qv]
     refine puB 9 (.int .u8 (bv (uh n i))) hS ?_;try simp only[QJ,qj,qz,qv]
     refine onY 10 (fun K' hK=>?_);go_simp;refine hK _ _ (fun _=>(p1'.alloc _).cell 0 rfl) ?_;clear hK K';try simp only[QJ,qj,qz,qv]
     refine onY 11 (fun K' hK=>?_);refine jc rfl (.tmp 29) (.tmp 35) 28 rfl qH B 5 i0 _ 1 underlying28 hi0 hz0 hz1 hz2 rfl _ _ rfl (Hp2.1.drew.alloc _) (wr.heap.size+1) _ 1 1 [uh n i] rfl rfl (Rd.new b8 wr.drew 5 [uh n i]) (by simp[maxLen];omega) (by simp;omega) (by rw[show∀W:World,W.drew.heap.size=W.heap.size from fun _=>rfl,QQ];omega) ?_;intro v7 w7 hown7 hg7 hbb7
     have hst:=qbn (w:=wr.drew) p1' Hp2.1 p3 (.inl hg7.by_) hown7;have hb7:Below B wr w7:=hbb7 _ _ (QI _) (((QK B wr).drew).alloc (by show B≤wr.heap.size;omega) _);obtain⟨A7,cv7,rfl,-,-,-,-⟩:=hown7.shape' (n:=ys.length+1) (by simp);have f7:=hst.1.frozen 0;have c7:=hst.1.cell 0 rfl;refine hK _ _ (fun _=>c7) ?_;clear hK K';try simp only[QJ,qj,qz,qv]
     refine onY 12 (fun K' hK=>?_);go_simp;refine hK _ _ (fun _=>c7) ?_;clear hK K';try simp only[QJ,qj,qz,qv]
     refine onY 13 (fun K' hK=>?_);go_simp;refine hK _ _ (fun _=>c7) ?_;clear hK K';try simp only[QJ,qj,qz,qv]
     refine onY 14 (fun K' hK=>?_);go_simp;refine hK _ _ (fun h=>absurd rfl h) (jq (by kernel_rfl) ?_ _);clear hK K' hw8 hi0' hi64 hnat hcv;have HS7:=qe hst.2.1;have HO7:=qe hst.2.2;have HB7:=qe hb7;clear hst hb7 hown7 hg7 hbb7;go_wp2_with fail
     refine⟨⟨k+1,i,by omega,rfl,HS7.1.cast (by rw[Htk.1,Hys.1,Jb]) rfl,(Hb.1.trans HB7.1).setCell (p:=⟨g,0,none⟩) p3 _,HOr.1.trans HO7.1⟩,by simp[intOf]⟩
def jk(n most:Int):Bool:=decide (n<0)||decide (most<n)
theorem qaJ{w:World}{B g:Nat}{xs:qf}{bad:Bool}(hP:Pen w B g xs bad)(n:Int)(s:Nat)(si:Int)(hsi:si=(s:Int))(most:Int)(hn1: -9223372036854775808≤n)(hn2:n<9223372036854775808)(hs:s≤8)(hx:xs.length≤1000000000):
 Calls prog 64 #[.pointer (some ⟨g,0,none⟩),.int .i64 n,.int .i64 si,.int .i64 most] w fun e w'=>e= .returned (.tuple #[])∧Pen w' B g (xs++be n s) (bad||jk n most)∧Below B w w'∧Oth w w':=by
 subst hsi;exact qhl hP n s most hn1 hn2 hs hx
theorem qk0{w:World}{B g:Nat}{xs:qf}{bad:Bool}(hP:Pen w B g xs bad)(n:Int)(s:Nat)(si:Int)(hsi:si=(s:Int))(most:Int)(hn1: -9223372036854775808≤n)(hn2:n<9223372036854775808)(hs:s≤8)(hx:xs.length≤1000000000):
 Calls prog 64 #[.pointer (some ⟨g,0,none⟩),.int .i64 n,.int .i64 si,.int .i64 most] w fun e w'=>e= .returned (.tuple #[])∧Pen w' B g (xs++be n s) (bad||jk n most)∧Below B w w':=
 (qaJ hP n s si hsi most hn1 hn2 hs hx).mono fun _ _ h=>⟨h.1,h.2.1,h.2.2.1⟩
theorem qk1{w:World}{B g:Nat}{xs:qf}{bad:Bool}(hP:Pen w B g xs bad)(n:Int)(hn1: -9223372036854775808≤n)(hn2:n<9223372036854775808)(hx:xs.length≤1000000000):
 Calls prog 96 #[.pointer (some ⟨g,0,none⟩),.int .i64 n] w fun e w'=>e= .returned (.tuple #[])∧Pen w' B g (xs++be n 1) (bad||jk n 31)∧Below B w w'∧Oth w w':=by
 have HP:=qe hP;clear hP;go_enter func96,ntmps96
 go_wp2_with fail
 refine(qaJ HP.1 n 1 1 rfl 31 hn1 hn2 (by omega) hx).mono ?_;rintro e w1 ⟨rfl,hp1,hb1,ho1⟩;have HO1:=qe ho1;clear ho1
 go_wp2
 go_end0
 exact⟨rfl,hp1,hb1,HO1.1⟩
def Qj(ys:qf):qf:=be (ys.length:Int) 2++ys
theorem qmA{w:World}{B g:Nat}{xs:qf}{bad:Bool}(hP:Pen w B g xs bad){B':Nat}{A:Option Addr}{n c:Nat}{ys:qf}(hr:Rd b8 w B' A ys)(hB':B'≤B)(hn:ys.length=n)(hx:xs.length≤100000000)(hy:n<9223372036854775808):
 Calls prog 65 #[.pointer (some ⟨g,0,none⟩),.slice A n c] w fun e w'=>e= .returned (.tuple #[])∧(∃zs,Pen w' B g (xs++zs) (bad||jk n 65535)∧((bad||jk n 65535)=false→zs=Qj ys)∧zs.length≤2+n)∧Below B w w'∧Oth w w':=by
 have HP:=qe hP;have HR:=qe hr;have HN:=qe hn;obtain⟨b',hb'⟩:∃b',b'=(bad||jk n 65535):=⟨_,rfl⟩;have hnum:=qaJ hP (n:Int) 2 2 rfl 65535 (by omega) (by omega) (by omega) (by omega);rw[←hb']at hnum ⊢;have HNum:=qe hnum;have HBq:=qe (show b'=false→n≤65535 from fun h=>by
  rw[hb']at h;have h2:=(Bool.or_eq_false_iff.1 h).2;unfold jk at h2;simp at h2;omega)
 have hsz:=hP.size;clear hP hr hn hb' hnum;go_enter func65,ntmps65
 go_wp2_with fail
 refine HNum.1.mono ?_;rintro e w1 ⟨rfl,hp1,hb1,ho1⟩;have HO1:=qe ho1;clear ho1;have HP1:=qe hp1;have HB1:=qe hb1;obtain⟨v,h1,h2⟩:=hp1.at_;have c1:=h1.cell 1 rfl;clear h1 h2 hp1 hb1;cases b' with
 |true=>
  go_wp2_with fail
  go_end0
  exact⟨rfl,⟨be n 2,HP1.1,(fun h=>(by cases h)),by rw[qK];omega⟩,HB1.1,HO1.1⟩
 |false=>
  go_wp2_with fail
  refine(qd9 HP1.1 (HR.1.below (HB1.1.mono hB')) (by have:=HB1.1.size;omega) HN.1 (by rw[QO,qK];omega) (by first|(have:=HBq.1 rfl;omega)|(have:=HBq.1 trivial;omega)|(have:=HBq.1;omega))).mono ?_;rintro e w2 ⟨rfl,hp2,hb2,ho2⟩;have HO2:=qe ho2;clear ho2
  go_wp2
  go_end0
  refine⟨rfl,⟨Qj ys,hp2.cast (by unfold Qj;rw[HN.1,Jb]) rfl,(by first|exact fun _=>rfl|rfl),by unfold Qj;rw[QO,qK,HN.1];omega⟩,HB1.1.trans hb2,HO1.1.trans HO2.1⟩
theorem qnG{w:World}{B g:Nat}{xs:qf}{bad:Bool}(hP:Pen w B g xs bad){B':Nat}{A:Option Addr}{n c:Nat}{ys:qf}(hr:Rd b8 w B' A ys)(hB':B'≤B)(hn:ys.length=n)(hx:xs.length≤100000000)(hy:n<9223372036854775808):
 Calls prog 65 #[.pointer (some ⟨g,0,none⟩),.slice A n c] w fun e w'=>e= .returned (.tuple #[])∧(∃zs,Pen w' B g (xs++zs) (bad||jk n 65535)∧((bad||jk n 65535)=false→zs=Qj ys)∧zs.length≤2+n)∧Below B w w':=
 (qmA hP hr hB' hn hx hy).mono fun _ _ h=>⟨h.1,h.2.1,h.2.2.1⟩
def ya(bad:Bool)(xs:qf):Bool:=bad||decide (65536<xs.length)
theorem qnH{w:World}{B g:Nat}{xs:qf}{bad:Bool}(hP:Pen w B g xs bad):
 Calls prog 66 #[.pointer (some ⟨g,0,none⟩)] w fun e w'=>(∃v,e= .returned (.tuple #[v,zG (if ya bad xs then 3 else 0)])∧Own b8 w' B 5 v (if ya bad xs then[]else xs))∧w=w':=by
 obtain⟨v,h1,h2⟩:=hP.at_;obtain⟨A,c,rfl,hr,-,-,-⟩:=h2.shape;have H2:=qe h2;have c0:=h1.cell 0 rfl;have c1:=h1.cell 1 rfl;clear hP h1 h2 hr;cases bad with
 |true=>
  have e1:ya true xs=true:=rfl;rw[e1,if_pos rfl,if_pos rfl,jO (by simp)];clear e1;go_enter func66,ntmps66
  go_wp2
  go_ret2;exact⟨⟨_,rfl,Own.nil_ _ _ _ _⟩,rfl⟩
 |false=>
  by_cases hl:65536<xs.length
  ·have e1:ya false xs=true:=by simp[ya,hl]
   have hl':(65536:Int)<(xs.length:Int):=by omega
   rw[e1,if_pos rfl,if_pos rfl,jO (by simp)];clear e1 hl;go_enter func66,ntmps66
   go_wp2
   go_ret2;exact⟨⟨_,rfl,Own.nil_ _ _ _ _⟩,rfl⟩
  ·have e1:ya false xs=false:=by simp[ya,hl]
   have hl':((65536:Int)<(xs.length:Int))=False:=by simp;omega
   rw[e1,if_neg (by simp),if_neg (by simp),qW];clear e1 hl;go_enter func66,ntmps66
   go_wp2
   go_ret2;exact⟨⟨_,rfl,H2.1⟩,rfl⟩
def vP(sum:qf)(epoch frm:Int):qf:=sum++(be epoch 4++be frm 1)
theorem qiN{w:World}{B g:Nat}{xs:qf}{bad:Bool}(hP:Pen w B g xs bad)(sum:qf)(epoch frm:Int)(hs:sum.length=32)(e1: -9223372036854775808≤epoch)(e2:epoch<9223372036854775808)(f1: -9223372036854775808≤frm)(f2:frm<9223372036854775808)(hx:xs.length≤100000000):
 Calls prog 63 #[.pointer (some ⟨g,0,none⟩),jL b8 sum,.int .i64 epoch,.int .i64 frm] w fun e w'=>e= .returned (.tuple #[])∧Pen w' B g (xs++vP sum epoch frm) (bad||jk epoch 4294967295||jk frm 31)∧Below B w w'∧Oth w w':=by
 have HP:=qe (hP.alloc (.cells (sum.map b8).toArray 23));have HS:=qe hs;have HA:=qe (Rd.new b8 w 23 sum);have HB:=qe ((QK B w).alloc hP.size (.cells (sum.map b8).toArray 23));have HO0:=qe ((Oth.refl w).alloc (.cells (sum.map b8).toArray 23));clear hP hs;rw[qn];go_enter func63,ntmps63
 go_wp2_with fail
 refine(qd9 HP.1 HA.1 (by simp) HS.1 (by omega) (by omega)).mono ?_;rintro e w1 ⟨rfl,hp1,hb1,ho1⟩;have HO1:=qe ho1;clear ho1;have HP1:=qe hp1;have HB1:=qe hb1;clear hp1 hb1;go_wp2_with fail
 refine(qaJ HP1.1 epoch 4 4 rfl 4294967295 e1 e2 (by omega) (by rw[QO,HS.1];omega)).mono ?_;rintro e w2 ⟨rfl,hp2,hb2,ho2⟩;have HO2:=qe ho2;clear ho2;have HP2:=qe hp2;have HB2:=qe hb2;clear hp2 hb2;go_wp2_with fail
 refine(qk1 HP2.1 frm f1 f2 (by rw[QO,QO,qK,HS.1];omega)).mono ?_;rintro e w3 ⟨rfl,hp3,hb3,ho3⟩;have HO3:=qe ho3;clear ho3
 go_wp2
 go_end0
 exact⟨rfl,hp3.cast (by unfold vP;simp only[Jb]) rfl,((HB.1.trans HB1.1).trans HB2.1).trans hb3,((HO0.1.trans HO1.1).trans HO2.1).trans HO3.1⟩
theorem qk2{w:World}{B g:Nat}{xs:qf}{bad:Bool}(hP:Pen w B g xs bad)(sum:qf)(epoch frm:Int)(hs:sum.length=32)(e1: -9223372036854775808≤epoch)(e2:epoch<9223372036854775808)(f1: -9223372036854775808≤frm)(f2:frm<9223372036854775808)(hx:xs.length≤100000000):
 Calls prog 63 #[.pointer (some ⟨g,0,none⟩),jL b8 sum,.int .i64 epoch,.int .i64 frm] w fun e w'=>e= .returned (.tuple #[])∧Pen w' B g (xs++vP sum epoch frm) (bad||jk epoch 4294967295||jk frm 31)∧Below B w w':=
 (qiN hP sum epoch frm hs e1 e2 f1 f2 hx).mono fun _ _ h=>⟨h.1,h.2.1,h.2.2.1⟩
theorem qdp(n most:Int)(w:World):Calls prog 72 #[.int .i64 n,.int .i64 most] w fun e w'=>e= .returned (.bool (!jk n most))∧w=w':=by
 by_cases h:n<0
 ·have e:(!jk n most)=false:=by simp[jk,h]
  have h0:(0≤n)=False:=by simp;omega
  rw[e];clear e h;go_enter func72,ntmps72
  go_wp2
  go_ret;exact⟨rfl,rfl⟩
 ·have h0:0≤n:=by omega
  by_cases h2:most<n
  ·have e:(!jk n most)=false:=by simp[jk,h2]
   have h1:(n≤most)=False:=by simp;omega
   rw[e];clear e h h2;go_enter func72,ntmps72
   go_wp2
   go_ret;exact⟨rfl,rfl⟩
  ·have e:(!jk n most)=true:=by simp[jk,h,h2]
   have h1:n≤most:=by omega
   rw[e];clear e h h2;go_enter func72,ntmps72
   go_wp2
   go_ret;exact⟨rfl,rfl⟩
theorem qmB(N i:Nat):IntKind.u8.wrap (((N/256^i:Nat):Int) % 256)=bv (uh (N:Int) i):=by
 rw[←qaB,show((2:Int)^(8*i))=((256^i:Nat):Int) by rw[qor,show(2:Nat)^(8*i)=256^i by rw[Nat.pow_mul]],kK,kK];rw[show((N:Int)/((256^i:Nat):Int))=((N/256^i:Nat):Int)from(Int.natCast_ediv N (256^i)).symm];omega
theorem qcb(N s:Nat)(si:Int)(hsi:si=(s:Int))(hN:N<9223372036854775808)(hs:s≤8)(w:World):
 Calls prog 75 #[.int .i64 (N:Int),.int .i64 si] w fun e w'=>∃v,e= .returned v∧Own b8 w' w.heap.size 5 v (be (N:Int) s)∧Below w.heap.size w w':=by
 subst hsi;obtain⟨i0,hi0,hz0,hz1,hz2⟩:=info_parts jN;have HN:=qe hN;clear hN;go_enter func75,ntmps75
 go_wp2
 go_loopw [0,5,6] (fun nv v iv wr=>∃(k:Nat),k≤s∧iv= .int .i64 (k:Int)∧nv= .int .i64 ((N/256^k:Nat):Int)∧Own b8 wr w.heap.size 5 v (be (N:Int) k)∧Below w.heap.size w wr) (fun _ _ iv _=>(s-(intOf iv).toNat))
 case atStart=>exact⟨0,by omega,rfl,by simp,Own.nil_ _ _ _ _,QK _ _⟩
 case round=>
  obtain⟨k,hk,rfl,rfl,ho,hb⟩:=hrel;by_cases hlt:k<s
  ·have hlt':(k:Int)<(s:Int):=by omega
   obtain⟨m,hm⟩:∃m,m=N/256^k:=⟨_,rfl⟩;have hconv:=qmB N k;have hm2:m/256=N/256^(k+1):=by rw[hm,Nat.div_div_eq_div_mul,JB]
   have hmN:m<9223372036854775808:=Nat.lt_of_le_of_lt (by rw[hm];exact Nat.div_le_self _ _) HN.1;rw[←hm]at hconv ⊢;have Hm2:=qe hm2;obtain⟨A,c,rfl,hr,-,-,-⟩:=ho.shape' (qK _ _);have HR:=qe hr;have HB:=qe hb;have hbz:=hb.size;have hk8:k≤8:=by omega
   clear hm hm2 ho hr hb;go_wp2_with (at_builtin;refine qh rfl (.tmp 15) (.tmp 16) 28 rfl qH w.heap.size 5 i0 _ 1 underlying28 hi0 hz0 hz1 hz2 rfl _ [uh (N:Int) k] rfl (Own.lit b8 wr w.heap.size 5 [uh (N:Int) k] hbz (by simp[maxLen])) wr.heap.size A k c (be (N:Int) k) rfl (qK _ _).symm (HR.1.alloc (QI _) _) (by simp[maxLen,qK];omega) (by simp[qK];omega) (by simp;omega) ?_;intro v7 w7 hown7 hg7 hbb7;have HO7:=qe hown7;have HB7:=qe (hbb7 _ _ (QI _) (HB.1.alloc hbz _));clear hown7 hg7 hbb7)
   go_roundw
   case rel=>
    refine⟨k+1,by omega,by go_num,?_,HO7.1.cast rfl,HB7.1⟩;rw[←Hm2.1];rfl
   case measure=>simp[intOf];omega
  ·obtain rfl:k=s:=by omega
   go_wp2_with fail
   go_ret;exact⟨_,rfl,ho,hb⟩
theorem qcc(epoch frm:Int)(w:World):Calls prog 71 #[.int .i64 epoch,.int .i64 frm] w fun e w'=>e= .returned (.bool (!(jk epoch 4294967295||jk frm 31)))∧w=w':=by
 obtain⟨x,hx⟩:∃x,x=jk epoch 4294967295:=⟨_,rfl⟩;obtain⟨y,hy⟩:∃y,y=jk frm 31:=⟨_,rfl⟩;have h1:=fun w=>qdp epoch 4294967295 w
 have h2:=fun w=>qdp frm 31 w
 simp only[←hx,←hy]at h1 h2 ⊢;have H1:=qe h1;have H2:=qe h2;clear h1 h2 hx hy;go_enter func71,ntmps71
 go_wp2_with fail
 refine(H1.1 _).mono ?_;rintro e w' ⟨rfl,rfl⟩;cases x with
 |true=>
  go_wp2_with fail
  go_ret;exact⟨rfl,rfl⟩
 |false=>
  go_wp2_with fail
  refine(H2.1 _).mono ?_;rintro e w' ⟨rfl,rfl⟩;cases y with
  |true=>
   go_wp2_with fail
   go_ret;exact⟨rfl,rfl⟩
  |false=>
   go_wp2_with fail
   go_ret;exact⟨rfl,rfl⟩
theorem qhm(A:Option Addr)(n c:Nat)(w:World):Calls prog 73 #[.slice A n c] w fun e w'=>e= .returned (.tuple #[if 65536<n then .slice none 0 0 else .slice A n c,.bool (!decide (65536<n))])∧w=w':=by
 by_cases h:65536<n
 ·have h':(65536:Int)<(n:Int):=by omega
  have e:(!decide (65536<n))=false:=by simp[h]
  rw[if_pos h,e];clear e h;go_enter func73,ntmps73
  go_wp2
  go_ret2;exact⟨rfl,rfl⟩
 ·have h':((65536:Int)<(n:Int))=False:=by simp;omega
  have e:(!decide (65536<n))=true:=by simp[h]
  rw[if_neg h,e];clear e h;go_enter func73,ntmps73
  go_wp2
  go_ret2;exact⟨rfl,rfl⟩
theorem qhn{B':Nat}{A:Option Addr}{n c:Nat}{ys:qf}{w:World}(hr:Rd b8 w B' A ys)(hB':B'≤w.heap.size)(hn:ys.length=n)(hy:n≤100000000):
 Calls prog 76 #[.slice A n c] w fun e w'=>∃v,e= .returned v∧Own b8 w' w.heap.size 5 v (Qj ys)∧Below w.heap.size w w':=by
 obtain⟨i0,hi0,hz0,hz1,hz2⟩:=info_parts jN;have HR:=qe hr;have HN:=qe hn;clear hr hn;go_enter func76,ntmps76
 go_wp2_with fail
 refine(qcb n 2 2 rfl (by omega) (by omega) _).mono ?_;rintro e w1 ⟨v1,rfl,ho1,hb1⟩;have HO1:=qe ho1;have HB1:=qe hb1;clear ho1 hb1;go_wp2_with (at_builtin;refine qh rfl (.tmp 5) (.tmp 6) 28 rfl qH w.heap.size 5 i0 _ 1 underlying28 hi0 hz0 hz1 hz2 rfl _ _ rfl HO1.1 B' A n c ys rfl HN.1.symm (HR.1.below (HB1.1.mono hB')) (by have:=HN.1;simp[maxLen,qK];omega) (by have:=HN.1;simp[qK];omega) HB1.1.size ?_;intro v7 w7 hown7 hg7 hbb7;have HO7:=qe hown7;have HB7:=qe (hbb7 _ _ (QI _) HB1.1);clear hown7 hg7 hbb7)
 go_ret;exact⟨_,rfl,HO7.1.cast (by unfold Qj;rw[HN.1]),HB7.1⟩
theorem qoI(n:Int):IntKind.u8.wrap n=bv (uh n 0):=by rw[←qaB];simp
theorem qe8(sum:qf)(E F:Nat)(hs:sum.length=32)(hE:E<9223372036854775808)(hF:F<9223372036854775808)(w:World):
 Calls prog 74 #[jL b8 sum,.int .i64 (E:Int),.int .i64 (F:Int)] w fun e w'=>∃v,e= .returned v∧Own b8 w' w.heap.size 5 v (vP sum E F)∧Below w.heap.size w w':=by
 obtain⟨i0,hi0,hz0,hz1,hz2⟩:=info_parts jN;have HA:=qe (Rd.new b8 w 23 sum);have HB:=qe ((QK w.heap.size w).alloc (QI _) (.cells (sum.map b8).toArray 23));have HS:=qe hs;have hf:=qoI (F:Int);have hlit:=Own.lit b8 (w.alloc (.cells (sum.map b8).toArray 23)) w.heap.size 5 [] (by simp) (by simp);rw[QQ]at hlit;have HLit:=qe hlit;clear hs hlit;rw[qn]
 go_enter func74,ntmps74
 go_wp2_with (at_builtin;refine qh rfl (.tmp 7) (.tmp 8) 28 rfl qH w.heap.size 5 i0 _ 1 underlying28 hi0 hz0 hz1 hz2 rfl _ [] rfl HLit.1 (w.heap.size+1) _ 32 32 sum rfl HS.1.symm (HA.1.alloc (by simp) _) (by simp[maxLen];have:=HS.1;omega) (by simp;have:=HS.1;omega) (by simp;omega) ?_;intro v7 w7 hown7 hg7 hbb7;have HO7:=qe hown7;have HB7:=qe (hbb7 _ _ (QI _) (HB.1.alloc (by simp) _));clear hown7 hg7 hbb7)
 refine(qcb E 4 4 rfl hE (by omega) _).mono ?_;rintro e w1 ⟨v1,rfl,ho1,hb1⟩;obtain⟨A1,c1,rfl,hr1,-,-,-⟩:=ho1.shape' (qK _ _);have HR1:=qe hr1;have HO17:=qe (HO7.1.below hb1 (QI _));have HB1:=qe (HB7.1.trans (hb1.mono HB7.1.size));clear ho1 hb1 hr1;go_wp2_with (first
  |(at_builtin;refine qh rfl (.tmp 9) (.tmp 11) 28 rfl qH w.heap.size 5 i0 _ 1 underlying28 hi0 hz0 hz1 hz2 rfl _ _ rfl HO17.1 w1.heap.size A1 4 c1 (be E 4) rfl (qK _ _).symm HR1.1 (by have:=HS.1;simp[maxLen,qK];omega) (by have:=HS.1;simp[qK];omega) HB1.1.size ?_;intro v8 w8 hown8 hg8 hbb8;have HO8:=qe hown8;have HB8:=qe (hbb8 _ _ (QI _) HB1.1);clear hown8 hg8 hbb8)
  |(at_builtin;refine qh rfl (.tmp 12) (.tmp 15) 28 rfl qH w.heap.size 5 i0 _ 1 underlying28 hi0 hz0 hz1 hz2 rfl _ _ rfl (HO8.1.alloc _) (w8.heap.size+1) _ 1 1 [uh F 0] rfl rfl (Rd.new b8 w8 5 [uh F 0]) (by have:=HS.1;simp[maxLen,qK];omega) (by have:=HS.1;simp[qK];omega) (by have:=HB8.1.size;simp;omega) ?_;intro v9 w9 hown9 hg9 hbb9;have HO9:=qe hown9;have HB9:=qe (hbb9 _ _ (QI _) (HB8.1.alloc HB8.1.size _));clear hown9 hg9 hbb9))
 go_ret;refine⟨_,rfl,HO9.1.cast ?_,HB9.1⟩;unfold vP;simp[be]
def qq(sum:qf)(epoch frm number:Int)(A:Option Addr)(n c:Nat):List Value:=sum.map b8++ [.int .i64 epoch,.int .i64 frm,.int .i64 number,.slice A n c]
section
variable{w:World}{g:Nat}{sum:qf}{epoch frm number:Int}{A:Option Addr}{n c:Nat}
def qZ(w:World)(g:Nat)(sum:qf)(epoch frm number:Int)(A:Option Addr)(n c:Nat):Prop:=Blk w g 41 (qq sum epoch frm number A n c)
theorem qZ.below{w':World}{B:Nat}(h:qZ w g sum epoch frm number A n c)(hb:Below B w w')(hg:g<B):qZ w' g sum epoch frm number A n c:=Blk.below h hb hg
theorem qZ.c32(h:qZ w g sum epoch frm number A n c)(hs:sum.length=32):w.cell? ⟨g,32,none⟩=some (.int .i64 epoch):=Blk.cell h 32 (by simp[qq,hs])
theorem qZ.c33(h:qZ w g sum epoch frm number A n c)(hs:sum.length=32):w.cell? ⟨g,33,none⟩=some (.int .i64 frm):=Blk.cell h 33 (by simp[qq,hs])
theorem qZ.c34(h:qZ w g sum epoch frm number A n c)(hs:sum.length=32):w.cell? ⟨g,34,none⟩=some (.int .i64 number):=Blk.cell h 34 (by simp[qq,hs])
theorem qZ.c35(h:qZ w g sum epoch frm number A n c)(hs:sum.length=32):w.cell? ⟨g,35,none⟩=some (.slice A n c):=Blk.cell h 35 (by simp[qq,hs])
theorem qZ.r0(h:qZ w g sum epoch frm number A n c)(hs:sum.length=32):w.rangeAt g 0 (sum.map b8):=by
 have:=Blk.range h 0 32;unfold qq at this;rw[List.drop_zero,List.take_append_of_le_length (by simp[hs]),Js (by simp[hs])]at this;exact this
theorem qZ.all5(h:qZ w g sum epoch frm number A n c)(hs:sum.length=32):w.cell? ⟨g,32,none⟩=some (.int .i64 epoch)∧w.cell? ⟨g,33,none⟩=some (.int .i64 frm)∧w.cell? ⟨g,34,none⟩=some (.int .i64 number)∧w.cell? ⟨g,35,none⟩=some (.slice A n c)∧w.rangeAt g 0 (sum.map b8):=
 ⟨h.c32 hs,h.c33 hs,h.c34 hs,h.c35 hs,h.r0 hs⟩
end
theorem jy:(prog.info? 23).map (·.size)=some 32:=by kernel_rfl
def zU(epoch frm number:Int)(n:Nat):Bool:=jk epoch 4294967295||jk frm 31||jk number 4294967295||jk n 65535||decide (65536<43+n)
def qcd(sum:qf)(epoch frm number:Int)(text:qf):qf:=vP sum epoch frm++(be number 4++Qj text)
theorem zV(ys:qf):(Qj ys).length=2+ys.length:=by unfold Qj;rw[QO,qK]
theorem jF(sum:qf)(epoch frm:Int):(vP sum epoch frm).length=sum.length+5:=by unfold vP;rw[QO,QO,qK,qK]
theorem zp(sum:qf)(epoch frm number:Int)(A:Option Addr)(n c B':Nat)(text:qf)(w:World)(hs:sum.length=32)(e1: -9223372036854775808≤epoch)(e2:epoch<9223372036854775808)(f1: -9223372036854775808≤frm)(f2:frm<9223372036854775808)(n1: -9223372036854775808≤number)(n2:number<9223372036854775808)
 (hr:Rd b8 w B' A text)(hB':B'≤w.heap.size)(hn:text.length=n)(hy:n<9223372036854775808):
 Calls prog 37 #[.agg (qq sum epoch frm number A n c).toArray] w fun e w'=>∃v,e= .returned (.tuple #[v,zG (if zU epoch frm number n then 3 else 0)])∧Own b8 w' w.heap.size 5 v (if zU epoch frm number n then[]else qcd sum epoch frm number text)∧Below w.heap.size w w':=by
 have HS:=qe hs;have HR:=qe hr;have HN:=qe hn;have HBx:=qe (show qZ (w.alloc (.cells (qq sum epoch frm number A n c).toArray 41)) w.heap.size sum epoch frm number A n c from Blk.new w _ _);have HF:=qe (show∀W1,(w.alloc (.cells (qq sum epoch frm number A n c).toArray 41)).alloc (.cells #[.slice none 0 0,.bool false] 136)=W1→
  qZ W1 w.heap.size sum epoch frm number A n c∧Pen W1 (w.heap.size+1) (w.heap.size+1) [] false∧Below w.heap.size w W1∧W1.heap.size=w.heap.size+2 by
  rintro W1 rfl;refine⟨Blk.alloc HBx.1 _,qoq (v:= .slice none 0 0) ?_ (Own.nil_ _ _ _ _) (QI _),((QK _ _).alloc (QI _) _).alloc (by simp) _,by simp⟩;exact Blk.at_size _ [.slice none 0 0,.bool false] (by simp))
 obtain⟨q,hq⟩:∃q,q=zU epoch frm number n:=⟨_,rfl⟩;have HQ:=qe hq;rw[←hq];clear hs hr hn hq;go_enter func37,ntmps37
 go_wp2_with (generalize hW1:QY (QY w _) _=W1;obtain⟨hbx1,hp1,hb1,hz1⟩:=HF.1 W1 hW1;clear hW1;have HBx1:=qe hbx1;have HP1:=qe hp1;have HB1:=qe hb1;obtain⟨c32,c33,c34,c35,-⟩:=hbx1.all5 HS.1;clear hbx1 hp1 hb1;refine wpList_load_mid rfl 23 (.tmp 8) rfl w.heap.size 0 rfl (sum.map b8) _ (HBx1.1.r0 HS.1) underlying23 rfl (by rw[QN,HS.1];exact jy) ?_)
 have hg:=qk2 HP1.1 sum epoch frm HS.1 e1 e2 f1 f2 (by simp);rw[qn]at hg;have HG:=qe hg;clear hg;refine HG.1.mono ?_;rintro e w2 ⟨rfl,hp2,hb2⟩;have hz2:W1.heap.size≤w2.heap.size:=hb2.size;have W1w:=qe ((QK (w.heap.size+1) W1));have W1b:=HBx1;clear c32 c33 c34 c35;have W2b:=qe (W1b.1.below hb2 (by omega));obtain⟨c32,c33,c34,c35,-⟩:=W2b.1.all5 HS.1;have W2w:=qe (W1w.1.trans hb2)
 have HP2:=qe hp2;clear hp2 hb2;go_wp2_with fail
 refine(qk0 HP2.1 number 4 4 rfl 4294967295 n1 n2 (by omega) (by rw[QO,jF,HS.1];simp)).mono ?_;rintro e w3 ⟨rfl,hp3,hb3⟩;have hz3:w2.heap.size≤w3.heap.size:=hb3.size;clear c32 c33 c34 c35;have W3b:=qe (W2b.1.below hb3 (by omega));obtain⟨c32,c33,c34,c35,-⟩:=W3b.1.all5 HS.1;have W3w:=qe (W2w.1.trans hb3);have HP3:=qe hp3;clear hp3 hb3;go_wp2_with fail
 refine(qnG HP3.1 (HR.1.below ((HB1.1.trans (W3w.1.mono (by omega))).mono hB')) (by omega) HN.1 (by rw[QO,QO,jF,qK,HS.1];simp) (by omega)).mono ?_;rintro e w4 ⟨rfl,⟨zs,hp4,hzs,hzl⟩,hb4⟩;have HP4:=qe hp4;have HZ:=qe hzs;have HBe:=qe (HB1.1.trans ((W3w.1.trans hb4).mono (by omega)));clear hp4 hb4 hzs c32 c33 c34 c35;go_wp2_with fail
 have hq:=HQ.1;have hend:=qnH HP4.1;have hbd:∀b:Bool,b=(false||jk epoch 4294967295||jk frm 31||jk number 4294967295||jk n 65535)→zU epoch frm number n=(b||decide (65536<43+n)):=by rintro b rfl;unfold zU;simp
 have hkey:ya (false||jk epoch 4294967295||jk frm 31||jk number 4294967295||jk n 65535) ([]++vP sum epoch frm++be number 4++zs)=q∧(q=false→[]++vP sum epoch frm++be number 4++zs=qcd sum epoch frm number text):=by
  have hzs:=HZ.1;rw[hq,hbd _ rfl];generalize(false||jk epoch 4294967295||jk frm 31||jk number 4294967295||jk n 65535)=b at hzs ⊢;cases b with
  |true=>exact⟨rfl,fun h=>by simp at h⟩
  |false=>
   have hz:=hzs rfl;subst hz;refine⟨?_,fun _=>by unfold qcd;simp only[Ji,Jb]⟩;unfold ya;rw[QO,QO,Ji,jF,qK,zV,HS.1,HN.1];simp only[Bool.false_or]
   congr 1
   apply propext;constructor<;>intro<;>omega
 rw[hkey.1]at hend;have Hx:=qe hkey.2;have HEnd:=qe hend;clear hend hkey hbd hq;cases q with
 |true=>
  refine HEnd.1.mono ?_;rintro e w5 ⟨⟨v5,rfl,ho5⟩,rfl⟩;rw[if_pos rfl]at ho5;have HO5:=qe ho5;clear ho5;go_wp2_with fail
  go_ret2;exact⟨_,rfl,HO5.1.less (by omega),HBe.1⟩
 |false=>
  refine HEnd.1.mono ?_;rintro e w5 ⟨⟨v5,rfl,ho5⟩,rfl⟩;rw[if_neg (by simp),Hx.1 rfl]at ho5;have HO5:=qe ho5;clear ho5;go_wp2_with fail
  go_ret2;exact⟨_,rfl,HO5.1.less (by omega),HBe.1⟩
end
section
open Go.RowKit
set_option maxRecDepth 100000
theorem qk3(z:Int):bv (QU 8 z)=z % 256:=by
 show((QU 8 z).toNat:Int)=z % 256;rw[BitVec.toNat_ofInt];omega
theorem qce(z:Int):b8 (QU 8 z)= .int .u8 (z % 256):=by rw[qoC,qk3]
theorem qfW(n:Int):be n 4=[QU 8 (n/16777216),QU 8 (n/65536),QU 8 (n/256),QU 8 n]:=by simp[be,uh]
theorem qfX(n:Int):be n 1=[QU 8 n]:=by simp[be,uh]
theorem qa7(n:Int)(w:World):Calls prog 62 #[.int .i64 n] w fun e w'=>∃v,e= .returned v∧Own b8 w' w.heap.size 5 v (be n 4)∧Below w.heap.size w w':=by
 have hl: #[QM IntKind.u8 (n/16777216 % 256),QM IntKind.u8 (n/65536 % 256),QM IntKind.u8 (n/256 % 256),QM IntKind.u8 (n % 256)]=((be n 4).map b8).toArray:=by
  rw[qfW];simp only[Jd,Jt,qce]
 have HL:=qe hl;clear hl;go_enter func62,ntmps62
 go_wp2_with fail
 go_ret;rw[HL.1];refine⟨_,rfl,?_,(QK _ w).alloc (QI _) _⟩;have:=Own.lit b8 w w.heap.size 5 (be n 4) (QI _) (by rw[qK];simp[maxLen]);rw[qK]at this;exact this
theorem qa8(W:World)(B:Nat){m1 d1 m2 d2 m3 d3 m4 d4:Nat}{C1 C2 C3 C4:Option Addr}{x1 x2 x3 x4:qf}(hr1:Rd b8 W B C1 x1)(hr2:Rd b8 W B C2 x2)(hr3:Rd b8 W B C3 x3)(hr4:Rd b8 W B C4 x4)(hB:B≤W.heap.size)(hm1:m1=x1.length)(hm2:m2=x2.length)(hm3:m3=x3.length)(hm4:m4=x4.length)
 (htot:x1.length+(x2.length+(x3.length+x4.length))≤40000000):
 Calls prog 61 #[.slice (some ⟨W.heap.size,0,none⟩) 4 4] (W.alloc (.cells #[.slice C1 m1 d1,.slice C2 m2 d2,.slice C3 m3 d3,.slice C4 m4 d4] 28)) fun e w'=>∃v,e= .returned v∧Own b8 w' (W.heap.size+1) 5 v (x1++(x2++(x3++x4)))∧Below W.heap.size W w':=by
 refine(qam _ B W.heap.size 0 4 4 _ (qbV W B [((C1,m1,d1),x1),((C2,m2,d2),x2),((C3,m3,d3),x3),((C4,m4,d4),x4)] (by simpa using⟨hr1,hr2,hr3,hr4⟩) (by simpa using⟨hm1,hm2,hm3,hm4⟩) hB) (by simp;omega) rfl (by omega) (by simp;omega)).mono ?_;rintro e w' ⟨v,rfl,ho,hb⟩;refine⟨v,rfl,?_,((QK _ W).alloc (QI _) _).trans (hb.mono (by simp))⟩;rw[QQ]at ho;exact ho.cast (by simp)
def vF(grp:qf)(ep fr nu:Int):qf:=vP grp ep fr++be nu 4
theorem uB{grp:qf}(h:grp.length=32)(ep fr nu:Int):(vF grp ep fr nu).length=41:=by
 unfold vF;rw[QO,jF,qK,h]
theorem qfY(fr:Int):(List.map b8 [QU 8 fr]).toArray= #[QM .u8 (fr % 256)]:=by simp only[Jd,Jt,qce]
theorem qda(grp:qf)(hg:grp.length=32)(ep fr nu:Int)(A:Option Addr)(n c:Nat)(w:World):
 Calls prog 36 #[.agg (qq grp ep fr nu A n c).toArray] w fun e w'=>∃v,e= .returned v∧Own b8 w' w.heap.size 5 v (vF grp ep fr nu)∧Below w.heap.size w w':=by
 have HG:=qe hg;have HBx:=qe (show qZ (w.alloc (.cells (qq grp ep fr nu A n c).toArray 41)) w.heap.size grp ep fr nu A n c from Blk.new w _ _);have HB0:=qe ((QK w.heap.size w).alloc (QI _) (.cells (qq grp ep fr nu A n c).toArray 41));have hz:=QQ w (.cells (qq grp ep fr nu A n c).toArray 41);clear hg;go_enter func36,ntmps36
 go_upto_region 1 with fail
 generalize QY w _=w0 at HBx HB0 hz ⊢;have HS:=qe (show∀W,Below w0.heap.size w0 W→W.cell? ⟨w.heap.size,32,none⟩=some (.int .i64 ep)∧W.cell? ⟨w.heap.size,33,none⟩=some (.int .i64 fr)∧W.cell? ⟨w.heap.size,34,none⟩=some (.int .i64 nu)from fun W hb=>by
  obtain⟨c32,c33,c34,-⟩:=(HBx.1.below hb (by omega)).all5 HG.1;exact⟨c32,c33,c34⟩)
 have hk0:=HS.1 _ (QK _ w0).drew;have HB1:=qe (show Below w0.heap.size w0 w0.drew from(QK _ w0).drew);have HR1x0:=qe (show Rd b8 w0.drew w0.drew.heap.size (some ⟨w.heap.size,0,none⟩) grp from fun _=>⟨w.heap.size,0,rfl,by show w.heap.size<w0.heap.size;omega,fun j u hu=>by
  have h:=(HBx.1.r0 HG.1) j (b8 u) (by rw[Jn,hu];rfl);exact h⟩)
 refine wp_region_noPanic ?_;refine wp_region_held_drew (S:=fun w'=>w'.cell? ⟨w.heap.size,32,none⟩=some (.int .i64 ep)∧w'.cell? ⟨w.heap.size,33,none⟩=some (.int .i64 fr)∧w'.cell? ⟨w.heap.size,34,none⟩=some (.int .i64 nu)) (by kernel_rfl) hk0 (fun hS=>?_);refine tkA 0 (.pointer (some ⟨w.heap.size,0,none⟩)) hS ?_;refine tkA 1 (.slice (some ⟨w.heap.size,0,none⟩) 32 32) hS ?_;refine tkA 2 (.pointer (some ⟨w.heap.size,32,none⟩)) hS ?_
 try simp only[QJ,qj,qz,qv]
 refine tkA 3 (.int .i64 ep) hS ?_;refine tkA 5 (.pointer (some ⟨w.heap.size,33,none⟩)) hS ?_;refine tkA 6 (.int .i64 fr) hS ?_;try simp only[QJ,qj,qz,qv]
 refine tkH 7 (.int .u8 (fr % 256)) ?_ hS ?_
 ·intro w' hw'
  go_simp;rfl
 refine tkA 9 (.pointer (some ⟨w.heap.size,34,none⟩)) hS ?_;refine tkA 10 (.int .i64 nu) hS ?_;try simp only[QJ,qj,qz,qv]
 refine wpAnyH_ready (rs:=[4,8]) (by kernel_rfl) (by simp) (Jm (o:={dst:=some 7,op:=_,type:=_,pos:=_,after:=_,guard:=_}) rfl (fun K' hK=>?_) (Jm (o:={dst:=some 11,op:=_,type:=_,pos:=_,after:=_,guard:=_}) rfl (fun K' hK=>?_) J1))
 ·
  go_simp;go_at_call 62;refine(qa7 ep _).mono ?_;rintro e w2 ⟨v2,rfl,ho,hb⟩;obtain⟨A4,c4,rfl,hr,-,-,-⟩:=ho.shape' (qK _ _);have HR2x4:=qe hr;have hx:Below w0.drew.heap.size w0.drew w2:=hb;have HR2x0:=qe ((HR1x0.1.below hx).more hx.size);have HB2:=qe (HB1.1.trans (hx.mono HB1.1.size));clear hr hx ho hb;refine hK.out _ _ (HS.1 _ HB2.1) (fun hS=>?_);clear hK K';try simp only[QJ,qj,qz,qv]
  refine wpAnyH_ready (rs:=[8,11]) (by kernel_rfl) (by simp) (Jm (o:={dst:=some 11,op:=_,type:=_,pos:=_,after:=_,guard:=_}) rfl (fun K' hK=>?_) (Jm (o:={dst:=some 14,op:=_,type:=_,pos:=_,after:=_,guard:=_}) rfl (fun K' hK=>?_) J1))
  ·
   go_simp;obtain⟨w3,hw3⟩:∃w3,w3=QY w2 (.cells (List.map b8 [QU 8 fr]).toArray 5):=⟨_,rfl⟩;have hr:=Rd.new b8 w2 5 [QU 8 fr];have hx:Below w2.heap.size w2 (QY w2 (.cells (List.map b8 [QU 8 fr]).toArray 5)):=(QK _ _).alloc (QI _) _;have hsz:(QY w2 (.cells (List.map b8 [QU 8 fr]).toArray 5)).heap.size=w2.heap.size+1:=QQ _ _
   rw[←hw3]at hr hx hsz;rw[qfY]at hw3;rw[←hw3];have HR3x8:=qe (show Rd b8 w3 w3.heap.size (some ⟨w2.heap.size,0,none⟩) (be fr 1) by rw[hsz,qfX];exact hr);have HR3x0:=qe ((HR2x0.1.below hx).more hx.size);have HR3x4:=qe ((HR2x4.1.below hx).more hx.size);have HB3:=qe (HB2.1.trans (hx.mono HB2.1.size));clear hr hx hsz hw3;refine hK.out _ _ (HS.1 _ HB3.1) (fun hS=>?_);clear hK K';try simp only[QJ,qj,qz,qv]
   refine rdH 11 (fun K' hK=>?_);go_simp;go_at_call 62;refine(qa7 nu _).mono ?_;rintro e w4 ⟨v4,rfl,ho,hb⟩;obtain⟨A11,c11,rfl,hr,-,-,-⟩:=ho.shape' (qK _ _);have HR4x11:=qe hr;have hx:Below w3.heap.size w3 w4:=hb;have HR4x0:=qe ((HR3x0.1.below hx).more hx.size);have HR4x4:=qe ((HR3x4.1.below hx).more hx.size);have HR4x8:=qe ((HR3x8.1.below hx).more hx.size);have HB4:=qe (HB3.1.trans (hx.mono HB3.1.size))
   clear hr hx ho hb;refine hK.out _ _ (HS.1 _ HB4.1) (fun hS=>?_);clear hK K';try simp only[QJ,qj,qz,qv]
   refine rdH 12 (fun K' hK=>?_);go_simp;refine hK.out _ _ (HS.1 _ (HB4.1.alloc HB4.1.size _)) (fun hS=>?_);clear hK K';try simp only[QJ,qj,qz,qv]
   refine rdH 13 (fun K' hK=>?_);go_simp;go_at_call 61;refine(qa8 w4 w4.heap.size HR4x0.1 HR4x4.1 HR4x8.1 HR4x11.1 (QI _) HG.1.symm (qK _ _).symm (qK _ _).symm (qK _ _).symm (by rw[HG.1,qK,qK,qK];omega)).mono ?_;rintro e w9 ⟨v9,rfl,ho,hb⟩;have HO9:=qe (ho.less (show w.heap.size≤w4.heap.size+1 by have:=HB4.1.size;omega));have HB9:=qe (HB4.1.trans (hb.mono HB4.1.size))
   clear ho hb;refine hK.out _ _ (HS.1 _ HB9.1) (fun hS=>?_);clear hK K';refine tkA 14 v9 hS ?_;try simp only[QJ,qj,qz,qv]
   refine wpAnyH_done (by kernel_rfl) ?_ _;refine NoPanic.normal ?_;go_wp2_with fail
   go_ret;exact⟨_,rfl,HO9.1.cast (by unfold vF vP;simp only[Jb]),(HB0.1.trans (HB9.1.mono HB0.1.size))⟩
  ·
   go_simp;go_at_call 62;refine(qa7 nu _).mono ?_;rintro e w3 ⟨v3,rfl,ho,hb⟩;obtain⟨A11,c11,rfl,hr,-,-,-⟩:=ho.shape' (qK _ _);have HR3x11:=qe hr;have hx:Below w2.heap.size w2 w3:=hb;have HR3x0:=qe ((HR2x0.1.below hx).more hx.size);have HR3x4:=qe ((HR2x4.1.below hx).more hx.size);have HB3:=qe (HB2.1.trans (hx.mono HB2.1.size));clear hr hx ho hb;refine hK.out _ _ (HS.1 _ HB3.1) (fun hS=>?_)
   clear hK K';try simp only[QJ,qj,qz,qv]
   refine rdH 8 (fun K' hK=>?_);go_simp;obtain⟨w4,hw4⟩:∃w4,w4=QY w3 (.cells (List.map b8 [QU 8 fr]).toArray 5):=⟨_,rfl⟩;have hr:=Rd.new b8 w3 5 [QU 8 fr];have hx:Below w3.heap.size w3 (QY w3 (.cells (List.map b8 [QU 8 fr]).toArray 5)):=(QK _ _).alloc (QI _) _;have hsz:(QY w3 (.cells (List.map b8 [QU 8 fr]).toArray 5)).heap.size=w3.heap.size+1:=QQ _ _
   rw[←hw4]at hr hx hsz;rw[qfY]at hw4;rw[←hw4];have HR4x8:=qe (show Rd b8 w4 w4.heap.size (some ⟨w3.heap.size,0,none⟩) (be fr 1) by rw[hsz,qfX];exact hr);have HR4x0:=qe ((HR3x0.1.below hx).more hx.size);have HR4x4:=qe ((HR3x4.1.below hx).more hx.size);have HR4x11:=qe ((HR3x11.1.below hx).more hx.size);have HB4:=qe (HB3.1.trans (hx.mono HB3.1.size));clear hr hx hsz hw4;refine hK.out _ _ (HS.1 _ HB4.1) (fun hS=>?_)
   clear hK K';try simp only[QJ,qj,qz,qv]
   refine rdH 12 (fun K' hK=>?_);go_simp;refine hK.out _ _ (HS.1 _ (HB4.1.alloc HB4.1.size _)) (fun hS=>?_);clear hK K';try simp only[QJ,qj,qz,qv]
   refine rdH 13 (fun K' hK=>?_);go_simp;go_at_call 61;refine(qa8 w4 w4.heap.size HR4x0.1 HR4x4.1 HR4x8.1 HR4x11.1 (QI _) HG.1.symm (qK _ _).symm (qK _ _).symm (qK _ _).symm (by rw[HG.1,qK,qK,qK];omega)).mono ?_;rintro e w9 ⟨v9,rfl,ho,hb⟩;have HO9:=qe (ho.less (show w.heap.size≤w4.heap.size+1 by have:=HB4.1.size;omega));have HB9:=qe (HB4.1.trans (hb.mono HB4.1.size))
   clear ho hb;refine hK.out _ _ (HS.1 _ HB9.1) (fun hS=>?_);clear hK K';refine tkA 14 v9 hS ?_;try simp only[QJ,qj,qz,qv]
   refine wpAnyH_done (by kernel_rfl) ?_ _;refine NoPanic.normal ?_;go_wp2_with fail
   go_ret;exact⟨_,rfl,HO9.1.cast (by unfold vF vP;simp only[Jb]),(HB0.1.trans (HB9.1.mono HB0.1.size))⟩
 ·
  go_simp;obtain⟨w2,hw2⟩:∃w2,w2=QY w0.drew (.cells (List.map b8 [QU 8 fr]).toArray 5):=⟨_,rfl⟩;have hr:=Rd.new b8 w0.drew 5 [QU 8 fr];have hx:Below w0.drew.heap.size w0.drew (QY w0.drew (.cells (List.map b8 [QU 8 fr]).toArray 5)):=(QK _ _).alloc (QI _) _;have hsz:(QY w0.drew (.cells (List.map b8 [QU 8 fr]).toArray 5)).heap.size=w0.drew.heap.size+1:=QQ _ _
  rw[←hw2]at hr hx hsz;rw[qfY]at hw2;rw[show(w0.alloc (Obj.cells #[QM IntKind.u8 (fr % 256)] 5)).drew=w2 from hw2.symm];have HR2x8:=qe (show Rd b8 w2 w2.heap.size (some ⟨w.heap.size+1,0,none⟩) (be fr 1) by rw[hsz,qfX,←hz];exact hr);have HR2x0:=qe ((HR1x0.1.below hx).more hx.size);have HB2:=qe (HB1.1.trans (hx.mono HB1.1.size));clear hr hx hsz hw2;refine hK.out _ _ (HS.1 _ HB2.1) (fun hS=>?_)
  clear hK K';try simp only[QJ,qj,qz,qv]
  refine rdH 4 (fun K' hK=>?_);go_simp;go_at_call 62;refine(qa7 ep _).mono ?_;rintro e w3 ⟨v3,rfl,ho,hb⟩;obtain⟨A4,c4,rfl,hr,-,-,-⟩:=ho.shape' (qK _ _);have HR3x4:=qe hr;have hx:Below w2.heap.size w2 w3:=hb;have HR3x0:=qe ((HR2x0.1.below hx).more hx.size);have HR3x8:=qe ((HR2x8.1.below hx).more hx.size);have HB3:=qe (HB2.1.trans (hx.mono HB2.1.size));clear hr hx ho hb;refine hK.out _ _ (HS.1 _ HB3.1) (fun hS=>?_)
  clear hK K';try simp only[QJ,qj,qz,qv]
  refine rdH 11 (fun K' hK=>?_);go_simp;go_at_call 62;refine(qa7 nu _).mono ?_;rintro e w4 ⟨v4,rfl,ho,hb⟩;obtain⟨A11,c11,rfl,hr,-,-,-⟩:=ho.shape' (qK _ _);have HR4x11:=qe hr;have hx:Below w3.heap.size w3 w4:=hb;have HR4x0:=qe ((HR3x0.1.below hx).more hx.size);have HR4x8:=qe ((HR3x8.1.below hx).more hx.size);have HR4x4:=qe ((HR3x4.1.below hx).more hx.size);have HB4:=qe (HB3.1.trans (hx.mono HB3.1.size))
  clear hr hx ho hb;refine hK.out _ _ (HS.1 _ HB4.1) (fun hS=>?_);clear hK K';try simp only[QJ,qj,qz,qv]
  refine rdH 12 (fun K' hK=>?_);go_simp;refine hK.out _ _ (HS.1 _ (HB4.1.alloc HB4.1.size _)) (fun hS=>?_);clear hK K';try simp only[QJ,qj,qz,qv]
  refine rdH 13 (fun K' hK=>?_);go_simp;go_at_call 61;refine(qa8 w4 w4.heap.size HR4x0.1 HR4x4.1 HR4x8.1 HR4x11.1 (QI _) HG.1.symm (qK _ _).symm (qK _ _).symm (qK _ _).symm (by rw[HG.1,qK,qK,qK];omega)).mono ?_;rintro e w9 ⟨v9,rfl,ho,hb⟩;have HO9:=qe (ho.less (show w.heap.size≤w4.heap.size+1 by have:=HB4.1.size;omega));have HB9:=qe (HB4.1.trans (hb.mono HB4.1.size))
  clear ho hb;refine hK.out _ _ (HS.1 _ HB9.1) (fun hS=>?_);clear hK K';refine tkA 14 v9 hS ?_;try simp only[QJ,qj,qz,qv]
  refine wpAnyH_done (by kernel_rfl) ?_ _;refine NoPanic.normal ?_;go_wp2_with fail
  go_ret;exact⟨_,rfl,HO9.1.cast (by unfold vF vP;simp only[Jb]),(HB0.1.trans (HB9.1.mono HB0.1.size))⟩
end
def ad(x y c:BitVec 64):BitVec 64:=x+y+c
def cy(x y c:BitVec 64):BitVec 64:=QP 64 ((x.toNat+y.toNat+c.toNat)/18446744073709551616)
theorem zW(x y c:BitVec 64)(hc:c.toNat≤1):(cy x y c).toNat≤1:=by
 unfold cy;rw[Q8];have:=x.isLt;have:=y.isLt;omega
theorem uS(x y c:BitVec 64)(hc:c.toNat≤1):(ad x y c).toNat+18446744073709551616*(cy x y c).toNat=x.toNat+y.toNat+c.toNat:=by
 unfold ad cy;rw[Q8,JQ,JQ];have:=x.isLt;have:=y.isLt;omega
def ml(x y:BitVec 64):BitVec 64:=x*y
def mh(x y:BitVec 64):BitVec 64:=QP 64 (x.toNat*y.toNat/18446744073709551616)
theorem qjH(x y:BitVec 64):(ml x y).toNat+18446744073709551616*(mh x y).toNat=x.toNat*y.toNat:=by
 have h:x.toNat*y.toNat/18446744073709551616<18446744073709551616:=by
  rw[Nat.div_lt_iff_lt_mul (by omega)];exact Nat.mul_lt_mul'' x.isLt y.isLt
 unfold ml mh;rw[Q8,Zy];omega
theorem qoJ(x y:BitVec 64):(mh x y).toNat≤18446744073709551614:=by
 have h1:=qjH x y;have hx:=x.isLt;have hy:=y.isLt;have h:x.toNat*y.toNat≤18446744073709551615*18446744073709551615:=Nat.mul_le_mul (by omega) (by omega);omega
structure W4 where
 a:BitVec 64
 b:BitVec 64
 c:BitVec 64
 d:BitVec 64
def W4.list(m:W4):List (BitVec 64):=[m.a,m.b,m.c,m.d]
def W4.val(m:W4):Nat:=m.a.toNat+18446744073709551616*m.b.toNat+340282366920938463463374607431768211456*m.c.toNat+6277101735386680763835789423207666416102355444464034512896*m.d.toNat
def at1(m:W4)(x y:BitVec 64):W4:=⟨m.a,ad m.b (ml x y) 0,ad m.c (mh x y) (cy m.b (ml x y) 0),m.d+cy m.c (mh x y) (cy m.b (ml x y) 0)⟩
def at2(m:W4)(x y:BitVec 64):W4:=⟨m.a,m.b,ad m.c (ml x y) 0,ad m.d (mh x y) (cy m.c (ml x y) 0)⟩
theorem qjI(m:W4)(x y:BitVec 64)(p:Nat)(hp:p=x.toNat*y.toNat)(h:m.val+18446744073709551616*p<115792089237316195423570985008687907853269984665640564039457584007913129639936):(at1 m x y).val=m.val+18446744073709551616*p:=by
 have h1:=qjH x y;rw[←hp]at h1;have h2:=uS m.b (ml x y) 0 (by simp);have c2:=zW m.b (ml x y) 0 (by simp);have h3:=uS m.c (mh x y) (cy m.b (ml x y) 0) c2;have c3:=zW m.c (mh x y) (cy m.b (ml x y) 0) c2;simp only[W4.val,at1]at h ⊢;rw[JQ];have:=m.a.isLt;have:=m.b.isLt;have:=m.c.isLt;have:=m.d.isLt;simp only[Q8,Nat.zero_mod,Nat.add_zero,ZB]at h2 h3 c2 c3 ⊢
 generalize(cy m.c (mh x y) (cy m.b (ml x y) 0#64)).toNat=k3 at*;generalize(ad m.c (mh x y) (cy m.b (ml x y) 0#64)).toNat=s3 at*;generalize(cy m.b (ml x y) 0#64).toNat=k2 at*;generalize(ad m.b (ml x y) 0#64).toNat=s2 at*;generalize(ml x y).toNat=l at*;generalize(mh x y).toNat=hh at*;omega
theorem qjJ(m:W4)(x y:BitVec 64)(p:Nat)(hp:p=x.toNat*y.toNat)(h:m.val+340282366920938463463374607431768211456*p<115792089237316195423570985008687907853269984665640564039457584007913129639936):(at2 m x y).val=m.val+340282366920938463463374607431768211456*p:=by
 have h1:=qjH x y;rw[←hp]at h1;have h2:=uS m.c (ml x y) 0 (by simp);have c2:=zW m.c (ml x y) 0 (by simp);have h3:=uS m.d (mh x y) (cy m.c (ml x y) 0) c2;have c3:=zW m.d (mh x y) (cy m.c (ml x y) 0) c2;simp only[W4.val,at2]at h ⊢;simp only[Q8,Nat.zero_mod,Nat.add_zero,ZB]at h2 h3 c2 c3 ⊢;generalize(cy m.d (mh x y) (cy m.c (ml x y) 0#64)).toNat=k3 at*
 generalize(ad m.d (mh x y) (cy m.c (ml x y) 0#64)).toNat=s3 at*;generalize(cy m.c (ml x y) 0#64).toNat=k2 at*;generalize(ad m.c (ml x y) 0#64).toNat=s2 at*;generalize(ml x y).toNat=l at*;generalize(mh x y).toNat=hh at*;omega
def h3(a b c:BitVec 64):Nat:=a.toNat+18446744073709551616*b.toNat+340282366920938463463374607431768211456*c.toNat
def qjK(h0 h1 h2 r0 r1:BitVec 64):W4:=at2 (at2 (at1 (at1 ⟨ml h0 r0,mh h0 r0,0,0⟩ h0 r1) h1 r0) h1 r1) h2 r0
def Qv(h0 h1 h2 r0 r1:BitVec 64):W4:={qjK h0 h1 h2 r0 r1 with d:=(qjK h0 h1 h2 r0 r1).d+h2*r1}
theorem qo4(a b c d e:Nat):(a+18446744073709551616*b+340282366920938463463374607431768211456*c)*(d+18446744073709551616*e)=a*d+18446744073709551616*(a*e+b*d)+340282366920938463463374607431768211456*(b*e+c*d)+6277101735386680763835789423207666416102355444464034512896*(c*e):=by
 have t1:a*(18446744073709551616*e)=18446744073709551616*(a*e):=Nat.mul_left_comm ..;have t2:18446744073709551616*b*d=18446744073709551616*(b*d):=JY ..;have t3:18446744073709551616*b*(18446744073709551616*e)=340282366920938463463374607431768211456*(b*e):=by rw[Nat.mul_mul_mul_comm]
 have t4:340282366920938463463374607431768211456*c*d=340282366920938463463374607431768211456*(c*d):=JY ..;have t5:340282366920938463463374607431768211456*c*(18446744073709551616*e)=6277101735386680763835789423207666416102355444464034512896*(c*e):=by rw[Nat.mul_mul_mul_comm]
 rw[Nat.add_mul,Nat.add_mul,JN,JN,JN,t1,t2,t3,t4,t5];generalize a*d=x1;generalize a*e=x2;generalize b*d=x3;generalize b*e=x4;generalize c*d=x5;generalize c*e=x6;omega
theorem qk4(h0 h1 h2 r0 r1:BitVec 64)(h:h3 h0 h1 h2*(r0.toNat+18446744073709551616*r1.toNat)<115792089237316195423570985008687907853269984665640564039457584007913129639936):
 (Qv h0 h1 h2 r0 r1).val=h3 h0 h1 h2*(r0.toNat+18446744073709551616*r1.toNat):=by
 obtain⟨p00,e00⟩:∃p,p=h0.toNat*r0.toNat:=⟨_,rfl⟩;obtain⟨p01,e01⟩:∃p,p=h0.toNat*r1.toNat:=⟨_,rfl⟩;obtain⟨p10,e10⟩:∃p,p=h1.toNat*r0.toNat:=⟨_,rfl⟩;obtain⟨p11,e11⟩:∃p,p=h1.toNat*r1.toNat:=⟨_,rfl⟩;obtain⟨p20,e20⟩:∃p,p=h2.toNat*r0.toNat:=⟨_,rfl⟩;obtain⟨p21,e21⟩:∃p,p=h2.toNat*r1.toNat:=⟨_,rfl⟩;have e:h3 h0 h1 h2*(r0.toNat+18446744073709551616*r1.toNat)=p00+18446744073709551616*(p01+p10)+340282366920938463463374607431768211456*(p11+p20)+6277101735386680763835789423207666416102355444464034512896*p21:=by
  rw[e00,e01,e10,e11,e20,e21];exact qo4 _ _ _ _ _
 rw[e]at h ⊢;have hm0:(W4.mk (ml h0 r0) (mh h0 r0) 0 0).val=p00:=by
  have:=qjH h0 r0;rw[←e00]at this;simp only[W4.val,ZB,Q8];omega
 have hm1:=qjI ⟨ml h0 r0,mh h0 r0,0,0⟩ h0 r1 p01 e01 (by rw[hm0];omega);rw[hm0]at hm1;have hm2:=qjI _ h1 r0 p10 e10 (by rw[hm1];omega);rw[hm1]at hm2;have hm3:=qjJ _ h1 r1 p11 e11 (by rw[hm2];omega);rw[hm2]at hm3;have hm4:=qjJ _ h2 r0 p20 e20 (by rw[hm3];omega);rw[hm3]at hm4;have hd:(h2*r1).toNat=p21:=by rw[Zy,←e21];omega
 change(qjK h0 h1 h2 r0 r1).val=_ at hm4;unfold Qv;simp only[W4.val]at hm4 ⊢;rw[JQ,hd];have:=(qjK h0 h1 h2 r0 r1).d.isLt;omega
def Qz(h:BitVec 64×BitVec 64×BitVec 64)(x y:BitVec 64):BitVec 64×BitVec 64×BitVec 64:=(ad h.1 x 0,ad h.2.1 y (cy h.1 x 0),h.2.2+cy h.2.1 y (cy h.1 x 0))
def v3(h:BitVec 64×BitVec 64×BitVec 64):Nat:=h3 h.1 h.2.1 h.2.2
theorem qho(h:BitVec 64×BitVec 64×BitVec 64)(x y:BitVec 64)(hs:h.2.2.toNat≤1000):v3 (Qz h x y)=v3 h+x.toNat+18446744073709551616*y.toNat:=by
 have h2:=uS h.1 x 0 (by simp);have c2:=zW h.1 x 0 (by simp);have h3':=uS h.2.1 y (cy h.1 x 0) c2;have c3:=zW h.2.1 y (cy h.1 x 0) c2;simp only[v3,h3,Qz];rw[JQ];simp only[Q8,Nat.zero_mod,Nat.add_zero,ZB]at h2 h3' c2 c3 ⊢;omega
theorem qmC(h:BitVec 64×BitVec 64×BitVec 64)(x y:BitVec 64)(hs:h.2.2.toNat≤1000):(Qz h x y).2.2.toNat≤h.2.2.toNat+1:=by
 have c2:=zW h.1 x 0 (by simp);have c3:=zW h.2.1 y (cy h.1 x 0) c2;simp only[Qz];rw[JQ];omega
theorem qnI(x:BitVec 64):(x&&&3#64).toNat=x.toNat % 4:=by
 rw[BitVec.toNat_and,show(3#64).toNat=2^2-1 from rfl,Nat.and_two_pow_sub_one_eq_mod]
theorem qoK(x:BitVec 64):(x&&& ~~~(3#64)).toNat=x.toNat/4*4:=by
 have h1:(x&&& ~~~(3#64))+(x&&&3#64)=x:=by
  rw[ZE]
  ·ext i hi
   simp only[BitVec.getElem_or,BitVec.getElem_and,BitVec.getElem_not];cases x[i]<;>cases(3#64)[i]<;>rfl
  ·ext i hi
   simp only[BitVec.getElem_and,BitVec.getElem_not,BitVec.getElem_zero];cases x[i]<;>cases(3#64)[i]<;>rfl
 have h2:=congrArg JO h1;rw[JQ,qnI]at h2;have h3:(x&&& ~~~(3#64)).toNat≤x.toNat:=by rw[BitVec.toNat_and];exact Nat.and_le_left
 have:=x.isLt;omega
theorem qos(c d:BitVec 64):(c>>>2|||d<<<62).toNat=c.toNat/4+d.toNat % 4*4611686018427387904:=by
 have h:(c>>>2)&&&(d<<<62)=0#64:=by
  ext i hi
  simp only[BitVec.getElem_and,BitVec.getElem_zero,BitVec.getElem_ushiftRight,BitVec.getElem_shiftLeft];by_cases h:i<62
  ·simp[h]
  ·rw[BitVec.getLsbD_of_ge c (2+i) (by omega)];simp
 rw[←ZE _ _ h,JQ,Zr,BitVec.toNat_shiftLeft,Zw,Nat.shiftLeft_eq];have:=c.isLt;have:=d.isLt;omega
theorem qo5(d:BitVec 64):(d>>>2).toNat=d.toNat/4:=by rw[Zr,Zw]
def qnJ(m:W4):BitVec 64×BitVec 64×BitVec 64:=Qz (Qz (m.a,m.b,m.c&&&3#64) (m.c&&& ~~~(3#64)) m.d) (m.c>>>2|||m.d<<<62) (m.d>>>2)
theorem qmD(m:W4):v3 (qnJ m)=m.val % 1361129467683753853853498429727072845824+5*(m.val/1361129467683753853853498429727072845824):=by
 have ha:=m.a.isLt;have hb:=m.b.isLt;have hc:=m.c.isLt;have hd:=m.d.isLt;have t0:(m.c&&&3#64).toNat≤1000:=by rw[qnI];omega
 have t1:=qmC (m.a,m.b,m.c&&&3#64) (m.c&&& ~~~(3#64)) m.d t0;unfold qnJ;rw[qho _ _ _ (by rw[qnI]at t1;omega),qho _ _ _ t0];simp only[v3,h3];rw[qnI,qoK,qos,qo5];simp only[W4.val];omega
def yb(h:BitVec 64×BitVec 64×BitVec 64)(r0 r1:BitVec 64):BitVec 64×BitVec 64×BitVec 64:=qnJ (Qv h.1 h.2.1 h.2.2 r0 r1)
def uT(h:BitVec 64×BitVec 64×BitVec 64)(x y z:BitVec 64):BitVec 64×BitVec 64×BitVec 64:=(ad h.1 x 0,ad h.2.1 y (cy h.1 x 0),h.2.2+(z+cy h.2.1 y (cy h.1 x 0)))
theorem qmE(h:BitVec 64×BitVec 64×BitVec 64)(x y z:BitVec 64)(hs:h.2.2.toNat≤1000)(hz:z.toNat≤1):v3 (uT h x y z)=v3 h+x.toNat+18446744073709551616*y.toNat+340282366920938463463374607431768211456*z.toNat:=by
 have h2:=uS h.1 x 0 (by simp);have c2:=zW h.1 x 0 (by simp);have h3':=uS h.2.1 y (cy h.1 x 0) c2;have c3:=zW h.2.1 y (cy h.1 x 0) c2;simp only[v3,h3,uT];rw[JQ,JQ];simp only[Q8,Nat.zero_mod,Nat.add_zero,ZB]at h2 h3' c2 c3 ⊢;omega
def kE(h:BitVec 64×BitVec 64×BitVec 64):Prop:=v3 h<1701411834604692317316873037158841057280
theorem kE.top{h:BitVec 64×BitVec 64×BitVec 64}(hs:kE h):h.2.2.toNat≤4:=by
 unfold kE v3 h3 at hs;omega
def prm:Nat:=1361129467683753853853498429727072845819
theorem qfZ(n:Nat):(n % 1361129467683753853853498429727072845824+5*(n/1361129467683753853853498429727072845824)) % prm=n % prm:=by
 have h:=Nat.div_add_mod n 1361129467683753853853498429727072845824;generalize n/1361129467683753853853498429727072845824=q at*;generalize n % 1361129467683753853853498429727072845824=r at*;rw[←h,show 1361129467683753853853498429727072845824*q+r=(r+5*q)+prm*q by unfold prm;omega,Nat.add_mul_mod_self_left]
theorem qoL(h:BitVec 64×BitVec 64×BitVec 64)(x y z r0 r1:BitVec 64)(hs:kE h)(hz:z.toNat≤1)(hr0:r0.toNat<1152921504606846976)(hr1:r1.toNat<1152921504606846976):
 kE (yb (uT h x y z) r0 r1)∧v3 (yb (uT h x y z) r0 r1) % prm=(v3 h+x.toNat+18446744073709551616*y.toNat+340282366920938463463374607431768211456*z.toNat)*(r0.toNat+18446744073709551616*r1.toNat) % prm:=by
 have ht:=hs.top;have hv:=qmE h x y z (by omega) hz;have hx:=x.isLt;have hy:=y.isLt;unfold kE at hs;have hb:v3 (uT h x y z)≤2722258935367507707706996859454145691647:=by omega
 have hrb:r0.toNat+18446744073709551616*r1.toNat≤21267647932558653966460912964485513215:=by omega
 have hm:v3 (uT h x y z)*(r0.toNat+18446744073709551616*r1.toNat)≤2722258935367507707706996859454145691647*21267647932558653966460912964485513215:=Nat.mul_le_mul hb hrb;have hp:=qk4 (uT h x y z).1 (uT h x y z).2.1 (uT h x y z).2.2 r0 r1 (by change v3 (uT h x y z)*_<_;omega);change _=v3 (uT h x y z)*_ at hp;have hq:=qmD (Qv (uT h x y z).1 (uT h x y z).2.1 (uT h x y z).2.2 r0 r1)
 rw[hp]at hq;refine⟨?_,?_⟩
 ·unfold kE yb
  rw[hq];generalize v3 (uT h x y z)*(r0.toNat+18446744073709551616*r1.toNat)=N at*;omega
 ·unfold yb
  rw[hq,qfZ,hv]
def vt(h:BitVec 64×BitVec 64×BitVec 64):BitVec 64×BitVec 64×BitVec 64:=
 if 4≤(h.2.2+cy h.2.1 0 (cy h.1 5 0)).toNat then(ad h.1 5 0,ad h.2.1 0 (cy h.1 5 0),(h.2.2+cy h.2.1 0 (cy h.1 5 0))-4)else h
theorem qe9(h:BitVec 64×BitVec 64×BitVec 64)(hs:h.2.2.toNat≤1000):v3 (vt h)=if prm≤v3 h then v3 h-prm else v3 h:=by
 have h2:=uS h.1 5 0 (by simp);have c2:=zW h.1 5 0 (by simp);have h3':=uS h.2.1 0 (cy h.1 5 0) c2;have c3:=zW h.2.1 0 (cy h.1 5 0) c2;have hb:=(ad h.1 5 0).isLt;have hb':=(ad h.2.1 0 (cy h.1 5 0)).isLt;unfold vt;simp only[Q8,Nat.zero_mod,Nat.add_zero,ZB,Nat.reducePow,Nat.reduceMod]at h2 h3' c2 c3 hb hb' ⊢;have e:(h.2.2+cy h.2.1 0#64 (cy h.1 5#64 0#64)).toNat=h.2.2.toNat+(cy h.2.1 0#64 (cy h.1 5#64 0#64)).toNat:=by rw[JQ];omega
 rw[e];have hv:v3 h=h.1.toNat+18446744073709551616*h.2.1.toNat+340282366920938463463374607431768211456*h.2.2.toNat:=rfl;generalize hk3:(cy h.2.1 0#64 (cy h.1 5#64 0#64)).toNat=k3 at*;generalize hk2:(cy h.1 5#64 0#64).toNat=k2 at*;split
 ·rename_i h4
  have hp:prm≤v3 h:=by rw[hv];unfold prm;omega
  rw[if_pos hp,hv];simp only[v3,h3,prm];rw[ZG,e];simp only[Q8,Nat.reducePow,Nat.reduceMod];omega
 ·rename_i h4
  have hp:¬prm≤v3 h:=by rw[hv];unfold prm;omega
  rw[if_neg hp]
theorem qk5(h:BitVec 64×BitVec 64×BitVec 64)(hs:h.2.2.toNat≤1000):(vt h).2.2.toNat≤1000:=by
 have c2:=zW h.1 5 0 (by simp);have c3:=zW h.2.1 0 (cy h.1 5 0) c2;unfold vt;generalize cy h.2.1 0 (cy h.1 5 0)=k at*;split
 ·rename_i h4
  dsimp only;rw[ZG];simp only[Q8,ZB,Nat.reducePow,Nat.reduceMod,JQ]at*;omega
 ·exact hs
def QA(h:BitVec 64×BitVec 64×BitVec 64)(s0 s1:BitVec 64):BitVec 64×BitVec 64:=(ad (vt (vt h)).1 s0 0,ad (vt (vt h)).2.1 s1 (cy (vt (vt h)).1 s0 0))
theorem qmF(h:BitVec 64×BitVec 64×BitVec 64)(s0 s1:BitVec 64)(hs:kE h):
 (QA h s0 s1).1.toNat+18446744073709551616*(QA h s0 s1).2.toNat=(v3 h % prm+(s0.toNat+18446744073709551616*s1.toNat)) % 340282366920938463463374607431768211456:=by
 have ht:=hs.top;have e1:=qe9 h (by omega);have e2:=qe9 (vt h) (qk5 h (by omega));have e3:v3 (vt (vt h))=v3 h % prm:=by
  unfold kE at hs;by_cases hp:prm≤v3 h
  ·rw[if_pos hp]at e1
   rw[e2,if_neg (by rw[e1];unfold prm at*;omega),e1];unfold prm at*;omega
  ·rw[if_neg hp]at e1
   rw[e2,e1,if_neg hp];unfold prm at*;omega
 rw[←e3];unfold QA;generalize vt (vt h)=g at*;clear e1 e2 e3;have h2:=uS g.1 s0 0 (by simp);have c2:=zW g.1 s0 0 (by simp);have h3':=uS g.2.1 s1 (cy g.1 s0 0) c2;have c3:=zW g.2.1 s1 (cy g.1 s0 0) c2;have b1:=(ad g.1 s0 0).isLt;have b2:=(ad g.2.1 s1 (cy g.1 s0 0)).isLt;simp only[v3,h3];simp only[Q8,Nat.zero_mod,Nat.add_zero,ZB]at h2 h3' c2 c3 b1 b2 ⊢
 generalize(cy g.2.1 s1 (cy g.1 s0 0#64)).toNat=k3 at*;generalize(ad g.2.1 s1 (cy g.1 s0 0#64)).toNat=a3 at*;generalize(cy g.1 s0 0#64).toNat=k2 at*;generalize(ad g.1 s0 0#64).toNat=a2 at*;generalize g.1.toNat=g1 at*;generalize g.2.1.toNat=g2 at*;generalize g.2.2.toNat=g3 at*;generalize s0.toNat=t0 at*;generalize s1.toNat=t1 at*;clear hs ht;have e:g1+18446744073709551616*g2+340282366920938463463374607431768211456*g3+(t0+18446744073709551616*t1)=(a2+18446744073709551616*a3)+340282366920938463463374607431768211456*(g3+k3):=by omega
 rw[e,Nat.add_mul_mod_self_left];omega
section
open Go.RowKit
def le(n:BitVec 64)(k:Nat):BitVec 8:=(n>>>(8*k)).setWidth 8
def le8(n:BitVec 64):qf:=(Q6 8).map (le n)
def QE(n:BitVec 64)(k:Nat):qf:=(Q6 8).map fun j=>if j<k then le n j else 0#8
theorem qea(n:BitVec 64)(k:Nat):(QE n k).length=8:=by simp[QE]
theorem qmG(n:BitVec 64)(k:Nat):(QE n k).set k (le n k)=QE n (k+1):=by
 apply List.ext_getElem
 ·simp[QE]
 ·intro i h1 h2
  simp only[QE,List.getElem_set,List.getElem_map,List.getElem_range];by_cases h:k=i
  ·subst h;simp
  ·rw[if_neg h]
   by_cases h':i<k
   ·rw[if_pos h',if_pos (by omega)]
   ·rw[if_neg h',if_neg (by omega)]
theorem qdq(n:BitVec 64)(w:World):
 Calls prog 93 #[.int .u64 (bv n)] w fun e w'=>∃v,e= .returned v∧Own b8 w' w.heap.size 5 v (le8 n)∧Below w.heap.size w w':=by
 have hmk:∀w,(Instr.makeSlice 28 (.int .i64 8) (.int .i64 8)).run prog w= .ok (.slice (some ⟨w.heap.size,0,none⟩) 8 8) (w.alloc (.cells #[.int .u8 0,.int .u8 0,.int .u8 0,.int .u8 0,.int .u8 0,.int .u8 0,.int .u8 0,.int .u8 0] 5)):=fun _=>by kernel_rfl
 go_enter func93,ntmps93
 go_wp2
 go_loopw [8] (fun i wr=>∃k:Nat,k≤8∧i= .int .i64 k∧Own b8 wr w.heap.size 5 (.slice (some ⟨w.heap.size,0,none⟩) 8 8) (QE n k)∧Below w.heap.size w wr) (fun i _=>8-(intOf i).toNat)
 case atStart=>
  exact⟨0,by omega,rfl,Own.lit b8 w w.heap.size 5 (QE n 0) (QI _) (by rw[qea];simp[maxLen]),(QK _ _).alloc (QI _) _⟩
 case round=>
  obtain⟨k,hk,rfl,hown,hb⟩:=hrel;by_cases hlt:k<8
  ·have hc:=(hown.at_ (k:=k) (by rw[qea];omega)).1
   have hf:=(hown.at_ (k:=k) (by rw[qea];omega)).2
   go_wp2
   go_roundw
   case rel=>
    have hs:=hown.set_ k (le n k);refine⟨k+1,by omega,by go_num,?_,hb.setCell (QI _) _⟩;rw[qmG]at hs;exact hs.1
   case measure=>simp[intOf];omega
  ·obtain rfl:k=8:=by omega
   go_wp2
   go_ret;exact⟨_,rfl,hown,hb⟩
def nonce(n:BitVec 64):qf:=[0#8,0#8,0#8,0#8]++le8 n
end
def zx:qf→Nat
 | []=>0
 |x::xs=>x.toNat+256*zx xs
def qC:List Nat→Nat
 | []=>0
 |x::xs=>x+256*qC xs
theorem km:∀xs:qf,zx xs=qC (xs.map JO)
 | []=>rfl
 |x::xs=>by simp only[zx,qC,Jd];rw[km xs]
theorem qav:∀xs ys:List Nat,qC (xs++ys)=qC xs+256^xs.length*qC ys
 | [],ys=>by simp[qC]
 |x::xs,ys=>by
  simp only[JL,qC,Jr];rw[qav xs ys,JB,JN,Jw (256^xs.length) 256,JY];omega
theorem qaq(xs ys:qf):zx (xs++ys)=zx xs+256^xs.length*zx ys:=by
 rw[km,km,km,List.map_append,qav,QN]
def zP(xs:List Nat):Prop:=∀x∈xs,x<256
theorem ui:∀xs:List Nat,zP xs→qC xs<256^xs.length
 | [],_=>by simp[qC]
 |x::xs,h=>by
  have h1:=ui xs (fun y hy=>h y (by simp[hy]));have h2:=h x (by simp);simp only[qC,Jr,JB];omega
theorem vQ(xs:qf):zP (xs.map JO):=by
 intro x hx;obtain⟨y,_,rfl⟩:=List.mem_map.1 hx;exact y.isLt
theorem qmH(xs:qf):zx xs<256^xs.length:=by
 have:=ui _ (vQ xs);rwa[←km,QN]at this
theorem qaK:∀(xs:List Nat) (i:Nat),zP xs→qC xs/256^i % 256=xs.getD i 0
 | [],i,_=>by simp[qC]
 |x::xs,0,h=>by have:=h x (by simp);simp only[qC,Nat.pow_zero,Nat.div_one,List.getD_cons_zero];omega
 |x::xs,i+1,h=>by
  have h1:=qaK xs i (fun y hy=>h y (by simp[hy]));have h2:=h x (by simp);rw[List.getD_cons_succ,←h1,JB,Jw,←Nat.div_div_eq_div_mul];simp only[qC];rw[show(x+256*qC xs)/256=qC xs by omega]
theorem qeb(xs:List Nat)(k:Nat)(h:k≤xs.length):qC xs=qC (xs.take k)+256^k*qC (xs.drop k):=by
 have:=qav (xs.take k) (xs.drop k);rwa[JV,QV,Nat.min_eq_left h]at this
theorem up(xs:List Nat)(x:Nat):qC (xs++ [x])=qC xs+256^xs.length*x:=by rw[qav];simp[qC]
theorem qec(n:Nat):qC (QL n 0)=0:=by
 induction n with
 |zero=>rfl
 |succ n ih=>rw[List.replicate_succ];simp only[qC,ih]
theorem qk6(n:Nat):zx (QL n 0#8)=0:=by rw[km,List.map_replicate];exact qec n
def zq(xs:qf):BitVec 64:=QP 64 (zx (xs.take 8))
theorem qar(xs:qf):(zq xs).toNat=zx (xs.take 8):=by
 unfold zq;rw[Q8,Nat.mod_eq_of_lt];have h:=qmH (xs.take 8);refine Nat.lt_of_lt_of_le h ?_;rw[show(2:Nat)^64=256^8 from rfl];exact Nat.pow_le_pow_right (by omega) (by rw[QV];omega)
theorem qcf(n:BitVec 64)(k:Nat):(le n k).toNat=n.toNat/256^k % 256:=by
 unfold le;rw[Zo,Zr,Zw,Nat.pow_mul]
theorem qjL(n:BitVec 64):zx (le8 n)=n.toNat:=by
 have h:=n.isLt;simp only[le8,show Q6 8=[0,1,2,3,4,5,6,7]from rfl,Jd,Jt,zx,qcf,Nat.reducePow];omega
theorem qmI(x y:BitVec 64)(k:Nat):le (x&&&y) k=le x k&&&le y k:=by
 unfold le
 ext i hi
 simp
theorem qjM(xs:qf)(k:Nat)(hk:k<8)(hl:8≤xs.length):le (zq xs) k=xs.getD k 0#8:=by
 apply JX;rw[qcf,qar,km,qaK _ _ (vQ _)];simp only[QR,Jn,List.getElem?_take,hk,if_true];cases h:xs[k]? with
 |none=>rw[List.getElem?_eq_none_iff]at h;omega
 |some v=>simp
theorem qnK:∀x:BitVec 8,x&&&255#8=x:=by decide
theorem qnL:∀x:BitVec 8,(x&&&15#8).toNat=x.toNat % 16:=by decide
theorem qnM:∀x:BitVec 8,(x&&&252#8).toNat=x.toNat/4*4:=by decide
def r0W(key:qf):BitVec 64:=zq key&&&1152921487695413247#64
def r1W(key:qf):BitVec 64:=zq (key.drop 8)&&&1152921487695413244#64
theorem qot(key:qf):(r0W key).toNat<1152921504606846976:=by
 unfold r0W;rw[BitVec.toNat_and];exact Nat.lt_of_le_of_lt Nat.and_le_right (by decide)
theorem qou(key:qf):(r1W key).toNat<1152921504606846976:=by
 unfold r1W;rw[BitVec.toNat_and];exact Nat.lt_of_le_of_lt Nat.and_le_right (by decide)
def rN(key:qf):Nat:=(r0W key).toNat+18446744073709551616*(r1W key).toNat
def kI(key:qf):List Nat:=(Q6 16).map fun i=>
 let d:=(key.getD i 0#8).toNat
 if i % 4=3 then d % 16 else if i % 4=0∧i≠0 then d/4*4 else d
theorem qoM(k0 k1 k2 k3 k4 k5 k6 k7 k8 k9 k10 k11 k12 k13 k14 k15:Nat):(k0+256*(k1+256*(k2+256*(k3+256*(k4+256*(k5+256*(k6+256*(k7+256*(0)))))))))+18446744073709551616*(k8+256*(k9+256*(k10+256*(k11+256*(k12+256*(k13+256*(k14+256*(k15+256*(0)))))))))=k0+256*(k1+256*(k2+256*(k3+256*(k4+256*(k5+256*(k6+256*(k7+256*(k8+256*(k9+256*(k10+256*(k11+256*(k12+256*(k13+256*(k14+256*(k15+256*(0)))))))))))))))):=by omega
theorem qhp(key:qf)(h:key.length=32):qC (kI key)=rN key:=by
 have g0:∀k,k<8→le (zq key) k=key.getD k 0#8:=fun k hk=>qjM key k hk (by omega)
 have g1:∀k,k<8→le (zq (key.drop 8)) k=key.getD (8+k) 0#8:=fun k hk=>by
  rw[qjM _ k hk (by rw[Jf];omega)];simp[QR]
 have e0:(r0W key).toNat=zx ((Q6 8).map fun k=>key.getD k 0#8&&&le 1152921487695413247#64 k):=by
  rw[←qjL];unfold le8
  congr 1
  refine List.map_congr_left fun k hk=>?_
  unfold r0W;rw[qmI,g0 k (List.mem_range.1 hk)]
 have e1:(r1W key).toNat=zx ((Q6 8).map fun k=>key.getD (8+k) 0#8&&&le 1152921487695413244#64 k):=by
  rw[←qjL];unfold le8
  congr 1
  refine List.map_congr_left fun k hk=>?_
  unfold r1W;rw[qmI,g1 k (List.mem_range.1 hk)]
 have m0:(Q6 8).map (le 1152921487695413247#64)=[255#8,255#8,255#8,15#8,252#8,255#8,255#8,15#8]:=by kernel_rfl
 have m1:(Q6 8).map (le 1152921487695413244#64)=[252#8,255#8,255#8,15#8,252#8,255#8,255#8,15#8]:=by kernel_rfl
 simp only[show Q6 8=[0,1,2,3,4,5,6,7]from rfl,Jd,Jt,List.cons.injEq,and_true]at m0 m1 e0 e1;obtain⟨m00,m01,m02,m03,m04,m05,m06,m07⟩:=m0;obtain⟨m10,m11,m12,m13,m14,m15,m16,m17⟩:=m1;rw[m00,m01,m02,m03,m04,m05,m06,m07]at e0;rw[m10,m11,m12,m13,m14,m15,m16,m17]at e1;unfold rN;rw[e0,e1];have ed:kI key=[(key.getD 0 0#8).toNat,(key.getD 1 0#8).toNat,(key.getD 2 0#8).toNat,(key.getD 3 0#8).toNat % 16,(key.getD 4 0#8).toNat/4*4,(key.getD 5 0#8).toNat,(key.getD 6 0#8).toNat,(key.getD 7 0#8).toNat % 16,(key.getD 8 0#8).toNat/4*4,(key.getD 9 0#8).toNat,(key.getD 10 0#8).toNat,(key.getD 11 0#8).toNat % 16,(key.getD 12 0#8).toNat/4*4,(key.getD 13 0#8).toNat,(key.getD 14 0#8).toNat,(key.getD 15 0#8).toNat % 16]:=rfl
 rw[ed];simp only[zx,qC,qnK,qnL,qnM,Nat.reduceAdd];exact(qoM _ _ _ _ _ _ _ _ _ _ _ _ _ _ _ _).symm
def j5(p:qf):qf:=p++ [1#8]++QL (16-p.length) 0#8
theorem qhq(p:qf)(h:p.length≤16):(j5 p).length=17:=by simp[j5];omega
theorem qmJ(p:qf)(h:p.length≤16):
 (zq (j5 p)).toNat+18446744073709551616*(zq ((j5 p).drop 8)).toNat+340282366920938463463374607431768211456*((j5 p).getD 16 0#8).toNat=zx p+256^p.length:=by
 have hl:=qhq p h;have e:zx (j5 p)=zx p+256^p.length:=by
  unfold j5;rw[qaq,qaq,qk6];simp[zx]
 rw[←e,qar,qar];obtain⟨q,hq⟩:∃q,q=j5 p:=⟨_,rfl⟩;rw[←hq]at hl ⊢;have t1:zx q=zx (q.take 8)+256^8*zx (q.drop 8):=by
  have:=qaq (q.take 8) (q.drop 8);rwa[JV,QV,hl]at this
 have t2:zx (q.drop 8)=zx ((q.drop 8).take 8)+256^8*zx (q.drop 16):=by
  have:=qaq ((q.drop 8).take 8) ((q.drop 8).drop 8);rwa[JV,QV,Jf,hl,List.drop_drop]at this
 have t3:zx (q.drop 16)=(q.getD 16 0#8).toNat:=by
  rw[List.drop_eq_getElem_cons (by omega),List.drop_eq_nil_of_le (by omega)];simp[zx,QR,hl]
 rw[t1,t2,t3];omega
theorem qmK(p:qf)(h:p.length≤16):((j5 p).getD 16 0#8).toNat≤1:=by
 unfold j5;rcases Jo p.length 16 with h1|h1
 ·rw[QR,JA (by simp;omega),List.getElem?_replicate]
  split<;>simp
 ·rw[QR,List.getElem?_append_left (by simp;omega),JA (by omega)]
  rw[show 16-p.length=0 by omega];simp
def qO(text:qf)(k:Nat):qf:=(text.drop (16*k)).take 16
theorem qed(text:qf)(k:Nat):(qO text k).length≤16:=by unfold qO;rw[QV];omega
def ub(r:Nat)(text:qf):Nat→Nat
 |0=>0
 |k+1=>(ub r text k+(zx (qO text k)+256^(qO text k).length))*r % prm
def sN(key:qf):Nat:=zx (key.drop 16)
def qhr(key text:qf):Nat:=(ub (rN key) text ((text.length+15)/16)+sN key) % 340282366920938463463374607431768211456
def yc(n:Nat):qf:=(Q6 16).map fun i=>QP 8 (n/256^i)
theorem qhs(n:Nat):(yc n).length=16:=by simp[yc]
def yB(key text:qf):qf:=yc (qhr key text)
theorem qcH(key text:qf):(yB key text).length=16:=qhs _
theorem qht(a b:BitVec 64):le8 a++le8 b=yc (a.toNat+18446744073709551616*b.toNat):=by
 have ha:=a.isLt;have hb:=b.isLt;simp only[le8,yc,show Q6 8=[0,1,2,3,4,5,6,7]from rfl,show Q6 16=[0,1,2,3,4,5,6,7,8,9,10,11,12,13,14,15]from rfl,Jd,Jt,JL,Ji,List.cons.injEq,and_true,true_and];refine⟨?_,?_,?_,?_,?_,?_,?_,?_,?_,?_,?_,?_,?_,?_,?_,?_⟩<;>
 ·apply JX
  rw[qcf,Q8];simp only[Nat.reducePow];omega
theorem qmL(key:qf)(h:key.length=32):(zq (key.drop 16)).toNat+18446744073709551616*(zq (key.drop 24)).toNat=sN key:=by
 rw[qar,qar];unfold sN;have t:=qaq ((key.drop 16).take 8) ((key.drop 16).drop 8);rw[JV,QV,Jf,h,List.drop_drop]at t;rw[t,Js (l:=key.drop 24) (by rw[Jf];omega)];rfl
theorem qiO{h:BitVec 64×BitVec 64×BitVec 64}{key text:qf}{k:Nat}(hs:kE h)(hv:v3 h % prm=ub (rN key) text k):
 kE (yb (uT h (zq (j5 (qO text k))) (zq ((j5 (qO text k)).drop 8)) (((j5 (qO text k)).getD 16 0#8).setWidth 64)) (r0W key) (r1W key))∧
  v3 (yb (uT h (zq (j5 (qO text k))) (zq ((j5 (qO text k)).drop 8)) (((j5 (qO text k)).getD 16 0#8).setWidth 64)) (r0W key) (r1W key)) % prm=ub (rN key) text (k+1):=by
 have hz:(((j5 (qO text k)).getD 16 0#8).setWidth 64).toNat=((j5 (qO text k)).getD 16 0#8).toNat:=by rw[Zo];have:=((j5 (qO text k)).getD 16 0#8).isLt;omega
 have h1:=qoL h (zq (j5 (qO text k))) (zq ((j5 (qO text k)).drop 8)) (((j5 (qO text k)).getD 16 0#8).setWidth 64) (r0W key) (r1W key) hs (by rw[hz];exact qmK _ (qed _ _)) (qot _) (qou _);refine⟨h1.1,h1.2.trans ?_⟩;rw[hz];have hp:=qmJ (qO text k) (qed _ _);rw[show v3 h+(zq (j5 (qO text k))).toNat+18446744073709551616*(zq ((j5 (qO text k)).drop 8)).toNat+340282366920938463463374607431768211456*((j5 (qO text k)).getD 16 0#8).toNat=v3 h+(zx (qO text k)+256^(qO text k).length) by omega]
 change _*rN key % prm=_;simp only[ub];rw[←hv,Nat.mul_mod,←Nat.mod_add_mod (v3 h) prm,←Nat.mul_mod]
section
open Go.RowKit
def zr(x:BitVec 32)(k:Nat):BitVec 32:=x<<<k|||x>>>(32-k)
theorem qiP(k:Int):bits .and .u64 (IntKind.u64.wrap k) 31=(((k % 32).toNat:Nat):Int):=by
 rw[qcs,show(31:Int)=@OfNat.ofNat Int 31 instOfNat from rfl,qaW];unfold bv;rw[BitVec.toNat_and,show(QP 64 31).toNat=2^5-1 from rfl,Nat.and_two_pow_sub_one_eq_mod,BitVec.toNat_ofInt];omega
theorem qk7(x:BitVec 32)(k:Int)(w:World):
 Calls prog 130 #[.int .u32 (bv x),.int .i64 k] w fun e w'=>e= .returned (.int .u32 (bv (zr x (k % 32).toNat)))∧w=w':=by
 have hc:=qiP k;generalize hs:(k % 32).toNat=s at hc ⊢;have h1:s≤31:=by omega
 have h2:((32:Int)-(s:Int))=((32-s:Nat):Int):=by omega
 clear hs;go_enter func130,ntmps130
 go_wp2
 go_ret;exact⟨rfl,rfl⟩
def zE(a b c d:BitVec 32):BitVec 32×BitVec 32×BitVec 32×BitVec 32:=
 let a1:=a+b
 let d1:=zr (d^^^a1) 16
 let c1:=c+d1
 let b1:=zr (b^^^c1) 12
 let a2:=a1+b1
 let d2:=zr (d1^^^a2) 8
 let c2:=c1+d2
 let b2:=zr (b1^^^c2) 7
 (a2,b2,c2,d2)
theorem qf0{fn:Func}{t u v x:Tmp}(h:fn.results= #[.tmp t,.tmp u,.tmp v,.tmp x])(tmps:Array Value)(P:Program)(w:World):
 (results fn tmps).run P w= .ok (.tuple #[tmps.getD t undef,tmps.getD u undef,tmps.getD v undef,tmps.getD x undef]) w:=by simp[results,h]
theorem qhu(a b c d:BitVec 32)(w:World):
 Calls prog 112 #[.int .u32 (bv a),.int .u32 (bv b),.int .u32 (bv c),.int .u32 (bv d)] w fun e w'=>
  e= .returned (.tuple #[.int .u32 (bv (zE a b c d).1),.int .u32 (bv (zE a b c d).2.1),.int .u32 (bv (zE a b c d).2.2.1),.int .u32 (bv (zE a b c d).2.2.2)])∧w=w':=by
 go_enter func112,ntmps112
 go_wp2_with (go_at_call 130;refine(qk7 _ _ _).mono ?_;rintro e w' ⟨rfl,rfl⟩)
 refine bodyPost_ret (qf0 rfl _ _ _) rfl ?_;exact⟨rfl,rfl⟩
def b32(x:BitVec 32):Value:= .int .u32 (bv x)
theorem qnN(x:BitVec 32)(k:Nat)(h0:0<k)(h:k<32):x<<<k+x>>>(32-k)=zr x k:=by
 unfold zr;rw[ZE];apply BitVec.eq_of_getElem_eq;intro i hi;simp only[BitVec.getElem_and,BitVec.getElem_shiftLeft,BitVec.getElem_ushiftRight,BitVec.getElem_zero,Bool.and_eq_false_iff,Bool.not_eq_eq_eq_not];by_cases h1:i<k
 ·left;simp[h1]
 ·right
  exact BitVec.getLsbD_of_ge _ _ (by omega)
theorem qmM(x:BitVec 32)(k:Nat)(w:World)(h0:0<k)(h:k<32):
 Calls prog 134 #[.int .u32 (bv x),.int .u64 (k:Int)] w fun e w'=>e= .returned (.int .u32 (bv (zr x k)))∧w=w':=by
 have h2:((32:Int)-(k:Int))=((32-k:Nat):Int):=by omega
 have hr:=qnN x k h0 h;go_enter func134,ntmps134
 go_wp2
 go_ret;exact⟨rfl,rfl⟩
theorem qaL(x:BitVec 32)(k:Nat)(w:World)(h0:0<k)(h:k<32):
 Calls prog 134 #[.int .u32 (bv x),.int .u64 (k:Int)] w fun e w'=>e= .returned (.int .u32 (bv (zr x k)))∧w'=w:=
 (qmM x k w h0 h).mono fun _ _ h=>⟨h.1,h.2.symm⟩
theorem zj{a w:World}{row:Option Nat}(h:a.grownBy w row):a.grownBy w.drew row:=⟨h.os,h.tape,h.output,h.size,h.block⟩
def vG(a b c d s t:Nat)(xs:List (BitVec 32)):List (BitVec 32):=
 let x1:=xs.set a (xs.getD a 0#32+xs.getD b 0#32)
 let x2:=x1.set d (zr (x1.getD d 0#32^^^x1.getD a 0#32) s)
 let x3:=x2.set c (x2.getD c 0#32+x2.getD d 0#32)
 x3.set b (zr (x3.getD b 0#32^^^x3.getD c 0#32) t)
def zH(a b c d:Nat)(xs:List (BitVec 32)):List (BitVec 32):=vG a b c d 8 7 (vG a b c d 16 12 xs)
theorem qk8(a b c d s t:Nat)(xs:List (BitVec 32)):(vG a b c d s t xs).length=xs.length:=by simp[vG]
def yN(w:World)(s:Nat):Prop:=∀j u,[16#64,12#64,8#64,7#64][j]?=some u→w.cell? ⟨s,j,none⟩=some (.int .u64 ((u.toNat:Nat):Int))
theorem yN.set_{w:World}{s g:Nat}(h:yN w s)(hne:g≠s)(i:Nat)(v:Value):yN (w.setCell ⟨g,i,none⟩ v) s:=fun j u hu=>
 (World.cell?_setCell_other w _ _ v (fun e=>hne (by injection e))).trans (h j u hu)
theorem Own.cellD{w:World}{B E:Nat}{g n c:Nat}{xs:List (BitVec 32)}(h:Own b32 w B E (.slice (some ⟨g,0,none⟩) n c) xs){i:Nat}(hi:i<xs.length):w.cell? ⟨g,i,none⟩=some (.int .u32 (bv (xs.getD i 0#32))):=by
 rw[(h.at_ hi).1];simp[b32,QR,List.getElem?_eq_getElem hi]
theorem qa9(g n cap B:Nat)(a b c d:Nat)(xs:List (BitVec 32))(w:World)(ho:Own b32 w B 178 (.slice (some ⟨g,0,none⟩) n cap) xs)(ha:a<xs.length)(hb:b<xs.length)(hc:c<xs.length)(hd:d<xs.length):
 Calls prog 120 #[.slice (some ⟨g,0,none⟩) n cap,.int .i64 (a:Int),.int .i64 (b:Int),.int .i64 (c:Int),.int .i64 (d:Int)] w fun e w'=>
  e= .returned (.tuple #[])∧Own b32 w' B 178 (.slice (some ⟨g,0,none⟩) n cap) (zH a b c d xs)∧w.grownBy w' (some g):=by
 have hlen:n=xs.length:=ho.len;have ha':a<n:=by omega
 have hb':b<n:=by omega
 have hc':c<n:=by omega
 have hd':d<n:=by omega
 have hgs:g<w.heap.size:=(ho.lt g rfl).2;have hne:g≠w.heap.size:=by omega
 have Hlen:=qe hlen;have Hne:=qe hne;clear hlen hne;go_enter func120,ntmps120
 go_wp2
 go_loopw [11] (fun i wr=>((i= .int .i64 0∧Own b32 wr B 178 (.slice (some ⟨g,0,none⟩) n cap) xs)∨(i= .int .i64 2∧Own b32 wr B 178 (.slice (some ⟨g,0,none⟩) n cap) (vG a b c d 16 12 xs))∨(i= .int .i64 4∧Own b32 wr B 178 (.slice (some ⟨g,0,none⟩) n cap) (zH a b c d xs)))∧
  yN wr w.heap.size∧w.grownBy wr (some g)) (fun i _=>4-(intOf i).toNat)
 case atStart=>
  refine⟨.inl ⟨rfl,ho.alloc _⟩,fun j u hu=>?_,World.grownBy_alloc _ _ _⟩;have:=(Rd.new (fun x:BitVec 64=> .int .u64 ((x.toNat:Nat):Int)) w 44 [16#64,12#64,8#64,7#64]) (by simp);obtain⟨b',off,e,_,hcc⟩:=this;cases e;have:=hcc j u hu;rw[Nat.zero_add]at this;exact this
 case round=>
  clear ho;obtain⟨hcase,hs,hg⟩:=hrel;rcases hcase with⟨rfl,ho⟩|⟨rfl,ho⟩|⟨rfl,ho⟩
  ·have Hs:=qe hs
   have Ho:=qe ho;have Hg:=qe hg;clear hs ho hg;obtain⟨rA1,hrA1⟩:∃x,x=xs.getD a 0#32:=⟨_,rfl⟩;obtain⟨sA1,hsA1⟩:∃x,x=xs.getD b 0#32:=⟨_,rfl⟩;have crA1:=Ho.1.cellD (i:=a) ha;have csA1:=Ho.1.cellD (i:=b) hb;rw[←hrA1]at crA1;rw[←hsA1]at csA1;have cfA1:=(Ho.1.at_ (k:=a) ha).2;have HrA1:=qe hrA1;have HsA1:=qe hsA1;clear hrA1 hsA1;go_wp2_with fail
   go_still_tail 12,(by kernel_rfl)
   go_wp2_with fail
   generalize hW:World.drew _=wA1;have howA1:Own b32 wA1 B 178 (.slice (some ⟨g,0,none⟩) n cap) (xs.set a (xs.getD a 0#32+xs.getD b 0#32)):=by rw[←hW,←HrA1.1,←HsA1.1];exact(Ho.1.set_ a _).1
   have hgwA1:w.grownBy wA1 (some g):=by rw[←hW];exact qp Hg.1 (zj (Ho.1.set_ a (rA1+sA1)).2) (fun q e=> .inl e)
   have hswA1:yN wA1 w.heap.size:=by rw[←hW];exact Hs.1.set_ Hne.1 _ _
   generalize hlwA1:xs.set a (xs.getD a 0#32+xs.getD b 0#32)=lA1 at howA1;have hnwA1:lA1.length=xs.length:=by rw[←hlwA1];simp
   have HlwA1:=qe hlwA1;have HowA1:=qe howA1;have HgwA1:=qe hgwA1;have HswA1:=qe hswA1;have HnwA1:=qe hnwA1;clear hW hlwA1 howA1 hgwA1 hswA1 hnwA1 crA1 csA1 cfA1;obtain⟨rA2,hrA2⟩:∃x,x=lA1.getD d 0#32:=⟨_,rfl⟩;obtain⟨sA2,hsA2⟩:∃x,x=lA1.getD a 0#32:=⟨_,rfl⟩;have crA2:=HowA1.1.cellD (i:=d) (by rw[HnwA1.1];exact hd);have csA2:=HowA1.1.cellD (i:=a) (by rw[HnwA1.1];exact ha);rw[←hrA2]at crA2
   rw[←hsA2]at csA2;have cfA2:=(HowA1.1.at_ (k:=d) (by rw[HnwA1.1];exact hd)).2;have ctA2:wA1.cell? ⟨w.heap.size,0,none⟩=some (.int .u64 16):=HswA1.1 0 _ rfl;have HrA2:=qe hrA2;have HsA2:=qe hsA2;clear hrA2 hsA2
   go_still_tail 17,(by kernel_rfl)
   still_call (qaL (rA2^^^sA2) 16 _ (by omega) (by omega))
   repeat still_step
   refine wpStill_nil ?_;go_wp2_with fail
   generalize hW:World.drew _=wA2;have howA2:Own b32 wA2 B 178 (.slice (some ⟨g,0,none⟩) n cap) (lA1.set d (zr (lA1.getD d 0#32^^^lA1.getD a 0#32) 16)):=by rw[←hW,←HrA2.1,←HsA2.1];exact(HowA1.1.set_ d _).1
   have hgwA2:w.grownBy wA2 (some g):=by rw[←hW];exact qp HgwA1.1 (zj (HowA1.1.set_ d (zr (rA2^^^sA2) 16)).2) (fun q e=> .inl e)
   have hswA2:yN wA2 w.heap.size:=by rw[←hW];exact HswA1.1.set_ Hne.1 _ _
   generalize hlwA2:lA1.set d (zr (lA1.getD d 0#32^^^lA1.getD a 0#32) 16)=lA2 at howA2;have hnwA2:lA2.length=xs.length:=by rw[←hlwA2];simp[HnwA1.1]
   have HlwA2:=qe hlwA2;have HowA2:=qe howA2;have HgwA2:=qe hgwA2;have HswA2:=qe hswA2;have HnwA2:=qe hnwA2;clear hW hlwA2 howA2 hgwA2 hswA2 hnwA2 crA2 csA2 cfA2 ctA2;obtain⟨rA3,hrA3⟩:∃x,x=lA2.getD c 0#32:=⟨_,rfl⟩;obtain⟨sA3,hsA3⟩:∃x,x=lA2.getD d 0#32:=⟨_,rfl⟩;have crA3:=HowA2.1.cellD (i:=c) (by rw[HnwA2.1];exact hc);have csA3:=HowA2.1.cellD (i:=d) (by rw[HnwA2.1];exact hd);rw[←hrA3]at crA3
   rw[←hsA3]at csA3;have cfA3:=(HowA2.1.at_ (k:=c) (by rw[HnwA2.1];exact hc)).2;have HrA3:=qe hrA3;have HsA3:=qe hsA3;clear hrA3 hsA3
   go_still_tail 12,(by kernel_rfl)
   go_wp2_with fail
   generalize hW:World.drew _=wA3;have howA3:Own b32 wA3 B 178 (.slice (some ⟨g,0,none⟩) n cap) (lA2.set c (lA2.getD c 0#32+lA2.getD d 0#32)):=by rw[←hW,←HrA3.1,←HsA3.1];exact(HowA2.1.set_ c _).1
   have hgwA3:w.grownBy wA3 (some g):=by rw[←hW];exact qp HgwA2.1 (zj (HowA2.1.set_ c (rA3+sA3)).2) (fun q e=> .inl e)
   have hswA3:yN wA3 w.heap.size:=by rw[←hW];exact HswA2.1.set_ Hne.1 _ _
   generalize hlwA3:lA2.set c (lA2.getD c 0#32+lA2.getD d 0#32)=lA3 at howA3;have hnwA3:lA3.length=xs.length:=by rw[←hlwA3];simp[HnwA2.1]
   have HlwA3:=qe hlwA3;have HowA3:=qe howA3;have HgwA3:=qe hgwA3;have HswA3:=qe hswA3;have HnwA3:=qe hnwA3;clear hW hlwA3 howA3 hgwA3 hswA3 hnwA3 crA3 csA3 cfA3;obtain⟨rA4,hrA4⟩:∃x,x=lA3.getD b 0#32:=⟨_,rfl⟩;obtain⟨sA4,hsA4⟩:∃x,x=lA3.getD c 0#32:=⟨_,rfl⟩;have crA4:=HowA3.1.cellD (i:=b) (by rw[HnwA3.1];exact hb);have csA4:=HowA3.1.cellD (i:=c) (by rw[HnwA3.1];exact hc);rw[←hrA4]at crA4
   rw[←hsA4]at csA4;have cfA4:=(HowA3.1.at_ (k:=b) (by rw[HnwA3.1];exact hb)).2;have ctA4:wA3.cell? ⟨w.heap.size,1,none⟩=some (.int .u64 12):=HswA3.1 1 _ rfl;have HrA4:=qe hrA4;have HsA4:=qe hsA4;clear hrA4 hsA4;have hwA4:IntKind.i64.wrap 1=1:=Jc _ (by omega)
   go_still_tail 18,(by kernel_rfl)
   still_call (qaL (rA4^^^sA4) 12 _ (by omega) (by omega))
   repeat still_step
   refine wpStill_nil ?_
   go_wp2
   go_roundw
   case rel=>
    have hq:vG a b c d 16 12 xs=lA3.set b (zr (rA4^^^sA4) 12):=by
     unfold vG;simp only;rw[HlwA1.1,HlwA2.1,HlwA3.1,HrA4.1,HsA4.1]
    refine⟨.inr (.inl ⟨rfl,by rw[hq];exact(HowA3.1.set_ b _).1⟩),?_,?_⟩
    ·exact HswA3.1.set_ Hne.1 _ _
    ·exact qp HgwA3.1 (zj (HowA3.1.set_ b (zr (rA4^^^sA4) 12)).2) (fun q e=> .inl e)
   case measure=>simp[intOf]
  ·have hl0:(vG a b c d 16 12 xs).length=xs.length:=qk8 _ _ _ _ _ _ _
   have hq2:zH a b c d xs=vG a b c d 8 7 (vG a b c d 16 12 xs):=rfl;generalize vG a b c d 16 12 xs=zs at ho hl0 hq2;have Hq2:=qe hq2;have Hl0:=qe hl0;clear hl0 hq2;have Hs:=qe hs;have Ho:=qe ho;have Hg:=qe hg;clear hs ho hg;obtain⟨rB1,hrB1⟩:∃x,x=zs.getD a 0#32:=⟨_,rfl⟩;obtain⟨sB1,hsB1⟩:∃x,x=zs.getD b 0#32:=⟨_,rfl⟩;have crB1:=Ho.1.cellD (i:=a) (by rw[Hl0.1];exact ha);have csB1:=Ho.1.cellD (i:=b) (by rw[Hl0.1];exact hb)
   rw[←hrB1]at crB1;rw[←hsB1]at csB1;have cfB1:=(Ho.1.at_ (k:=a) (by rw[Hl0.1];exact ha)).2;have HrB1:=qe hrB1;have HsB1:=qe hsB1;clear hrB1 hsB1;go_wp2_with fail
   go_still_tail 12,(by kernel_rfl)
   go_wp2_with fail
   generalize hW:World.drew _=wB1;have howB1:Own b32 wB1 B 178 (.slice (some ⟨g,0,none⟩) n cap) (zs.set a (zs.getD a 0#32+zs.getD b 0#32)):=by rw[←hW,←HrB1.1,←HsB1.1];exact(Ho.1.set_ a _).1
   have hgwB1:w.grownBy wB1 (some g):=by rw[←hW];exact qp Hg.1 (zj (Ho.1.set_ a (rB1+sB1)).2) (fun q e=> .inl e)
   have hswB1:yN wB1 w.heap.size:=by rw[←hW];exact Hs.1.set_ Hne.1 _ _
   generalize hlwB1:zs.set a (zs.getD a 0#32+zs.getD b 0#32)=lB1 at howB1;have hnwB1:lB1.length=xs.length:=by rw[←hlwB1];simp[Hl0.1]
   have HlwB1:=qe hlwB1;have HowB1:=qe howB1;have HgwB1:=qe hgwB1;have HswB1:=qe hswB1;have HnwB1:=qe hnwB1;clear hW hlwB1 howB1 hgwB1 hswB1 hnwB1 crB1 csB1 cfB1;obtain⟨rB2,hrB2⟩:∃x,x=lB1.getD d 0#32:=⟨_,rfl⟩;obtain⟨sB2,hsB2⟩:∃x,x=lB1.getD a 0#32:=⟨_,rfl⟩;have crB2:=HowB1.1.cellD (i:=d) (by rw[HnwB1.1];exact hd);have csB2:=HowB1.1.cellD (i:=a) (by rw[HnwB1.1];exact ha);rw[←hrB2]at crB2
   rw[←hsB2]at csB2;have cfB2:=(HowB1.1.at_ (k:=d) (by rw[HnwB1.1];exact hd)).2;have ctB2:wB1.cell? ⟨w.heap.size,2,none⟩=some (.int .u64 8):=HswB1.1 2 _ rfl;have HrB2:=qe hrB2;have HsB2:=qe hsB2;clear hrB2 hsB2
   go_still_tail 17,(by kernel_rfl)
   still_call (qaL (rB2^^^sB2) 8 _ (by omega) (by omega))
   repeat still_step
   refine wpStill_nil ?_;go_wp2_with fail
   generalize hW:World.drew _=wB2;have howB2:Own b32 wB2 B 178 (.slice (some ⟨g,0,none⟩) n cap) (lB1.set d (zr (lB1.getD d 0#32^^^lB1.getD a 0#32) 8)):=by rw[←hW,←HrB2.1,←HsB2.1];exact(HowB1.1.set_ d _).1
   have hgwB2:w.grownBy wB2 (some g):=by rw[←hW];exact qp HgwB1.1 (zj (HowB1.1.set_ d (zr (rB2^^^sB2) 8)).2) (fun q e=> .inl e)
   have hswB2:yN wB2 w.heap.size:=by rw[←hW];exact HswB1.1.set_ Hne.1 _ _
   generalize hlwB2:lB1.set d (zr (lB1.getD d 0#32^^^lB1.getD a 0#32) 8)=lB2 at howB2;have hnwB2:lB2.length=xs.length:=by rw[←hlwB2];simp[HnwB1.1]
   have HlwB2:=qe hlwB2;have HowB2:=qe howB2;have HgwB2:=qe hgwB2;have HswB2:=qe hswB2;have HnwB2:=qe hnwB2;clear hW hlwB2 howB2 hgwB2 hswB2 hnwB2 crB2 csB2 cfB2 ctB2;obtain⟨rB3,hrB3⟩:∃x,x=lB2.getD c 0#32:=⟨_,rfl⟩;obtain⟨sB3,hsB3⟩:∃x,x=lB2.getD d 0#32:=⟨_,rfl⟩;have crB3:=HowB2.1.cellD (i:=c) (by rw[HnwB2.1];exact hc);have csB3:=HowB2.1.cellD (i:=d) (by rw[HnwB2.1];exact hd);rw[←hrB3]at crB3
   rw[←hsB3]at csB3;have cfB3:=(HowB2.1.at_ (k:=c) (by rw[HnwB2.1];exact hc)).2;have HrB3:=qe hrB3;have HsB3:=qe hsB3;clear hrB3 hsB3
   go_still_tail 12,(by kernel_rfl)
   go_wp2_with fail
   generalize hW:World.drew _=wB3;have howB3:Own b32 wB3 B 178 (.slice (some ⟨g,0,none⟩) n cap) (lB2.set c (lB2.getD c 0#32+lB2.getD d 0#32)):=by rw[←hW,←HrB3.1,←HsB3.1];exact(HowB2.1.set_ c _).1
   have hgwB3:w.grownBy wB3 (some g):=by rw[←hW];exact qp HgwB2.1 (zj (HowB2.1.set_ c (rB3+sB3)).2) (fun q e=> .inl e)
   have hswB3:yN wB3 w.heap.size:=by rw[←hW];exact HswB2.1.set_ Hne.1 _ _
   generalize hlwB3:lB2.set c (lB2.getD c 0#32+lB2.getD d 0#32)=lB3 at howB3;have hnwB3:lB3.length=xs.length:=by rw[←hlwB3];simp[HnwB2.1]
   have HlwB3:=qe hlwB3;have HowB3:=qe howB3;have HgwB3:=qe hgwB3;have HswB3:=qe hswB3;have HnwB3:=qe hnwB3;clear hW hlwB3 howB3 hgwB3 hswB3 hnwB3 crB3 csB3 cfB3;obtain⟨rB4,hrB4⟩:∃x,x=lB3.getD b 0#32:=⟨_,rfl⟩;obtain⟨sB4,hsB4⟩:∃x,x=lB3.getD c 0#32:=⟨_,rfl⟩;have crB4:=HowB3.1.cellD (i:=b) (by rw[HnwB3.1];exact hb);have csB4:=HowB3.1.cellD (i:=c) (by rw[HnwB3.1];exact hc);rw[←hrB4]at crB4
   rw[←hsB4]at csB4;have cfB4:=(HowB3.1.at_ (k:=b) (by rw[HnwB3.1];exact hb)).2;have ctB4:wB3.cell? ⟨w.heap.size,3,none⟩=some (.int .u64 7):=HswB3.1 3 _ rfl;have HrB4:=qe hrB4;have HsB4:=qe hsB4;clear hrB4 hsB4;have hwB4:IntKind.i64.wrap 3=3:=Jc _ (by omega)
   go_still_tail 18,(by kernel_rfl)
   still_call (qaL (rB4^^^sB4) 7 _ (by omega) (by omega))
   repeat still_step
   refine wpStill_nil ?_
   go_wp2
   go_roundw
   case rel=>
    have hq:vG a b c d 8 7 zs=lB3.set b (zr (rB4^^^sB4) 7):=by
     unfold vG;simp only;rw[HlwB1.1,HlwB2.1,HlwB3.1,HrB4.1,HsB4.1]
    refine⟨.inr (.inr ⟨rfl,by rw[Hq2.1,hq];exact(HowB3.1.set_ b _).1⟩),?_,?_⟩
    ·exact HswB3.1.set_ Hne.1 _ _
    ·exact qp HgwB3.1 (zj (HowB3.1.set_ b (zr (rB4^^^sB4) 7)).2) (fun q e=> .inl e)
   case measure=>simp[intOf]
  ·have Ho:=qe ho
   have Hg:=qe hg;clear hs ho hg
   go_wp2
   go_end0
   exact⟨rfl,Ho.1,Hg.1⟩
end
end Go.Proofs.YtelgjaiknaalkaaGreatDoor
