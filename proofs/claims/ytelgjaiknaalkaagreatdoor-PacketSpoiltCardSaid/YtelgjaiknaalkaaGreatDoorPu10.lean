/- Lemmas. -/
import Derived.Test.YtelgjaiknaalkaaGreatDoorPu09
import Derived.Laws.Cover3
open Go.Proofs.Tryz
open List renaming setIfInBounds_toArray → qj
open List renaming set_cons_zero → qz
open List renaming set_cons_succ → qv
open List renaming replicate → QL, length_map → QN, length_replicate → Jz, mem_map → QW, length_drop → Jf, length_append → QO, range → Q6, size_toArray → Jh, length_cons → Jr, length_nil → JE, push_toArray → Zk, append_toArray → Zl, nil_append → Ji, cons_append → JL, length → JT, map_append → Q9, range_succ → JU
open Nat renaming le_refl → QI, reduceAdd → JI, lt_or_ge → Jo
open Go.RowKit.Below renaming refl → QK
open Or renaming inl → QZ
open Go.Act renaming put → QJ
open Go.World renaming size_alloc → QQ, alloc → QY
open Go.Oper renaming semAt_some → Ze
open Subtype renaming val → Jj
open Array renaming replicate_succ → Zi, replicate_zero → Zj, getElem?_eq_some_iff → Zm
open Go.AllReadyH renaming cons → Jm, nil → J1
open Go.NoPanic renaming normal → Q4
set_option linter.unusedVariables false
set_option linter.unusedSimpArgs false
set_option maxRecDepth 100000
set_option maxHeartbeats 4000000
namespace Go.Proofs.YtelgjaiknaalkaaGreatDoor
section
open Go.RowKit
attribute [local go_sem] qbH uW
theorem qjX:(prog.info? 5).map (·.size)=some 1:=by kernel_rfl
theorem qhD(kk:qf)(m:Nat):splice ((QL m 0#8).map b8) 0 (kk.map b8)=(kk++QL (m-kk.length) 0#8).map b8:=by
 unfold splice;simp[List.drop_replicate]
theorem qmR(p:qf):splice ((QL 17 0#8).map b8) 0 (p.map b8)=(p++QL (17-p.length) 0#8).map b8:=qhD p 17
theorem qmS(p:qf)(h:p.length≤16):(p++QL (17-p.length) 0#8).set p.length 1#8=j5 p:=by
 obtain⟨m,hm⟩:∃m,17-p.length=m+1:=⟨16-p.length,by omega⟩;rw[hm,List.set_append_right _ _ (QI _),Nat.sub_self,List.replicate_succ,qz];unfold j5;rw[show 16-p.length=m by omega];simp
theorem qfb(w:World)(B n c:Nat)(A:Option Addr)(xs:qf)(hr:Rd b8 w B A xs)(hn:n=xs.length)(h8:8≤n):
 Calls prog 113 #[.slice A n c] w fun e w'=>e= .returned (.int .u64 (bv (zq xs)))∧w'=w:=
 (qcj w B n c A xs hr hn h8).mono fun _ _ h=>⟨h.1,h.2.symm⟩
theorem qck{P:Program}{ops:Array Oper}{md:Region.Mode}{Q:Exit→Act→World→Prop}{S:World→Prop}{z i:Nat}(d:Nat){oi:Oper}{v:Value}{f:Nat}{L:Array Bool}{a:Act}{w:World}(hi:ops[i]?=some oi)(hd:oi.dst=some d)(hs:Region.noSelect ops=true)(hw:kV md ops z i=true)(hz:L.getD z true=false)(hf:Region.free md ops L i=true)(hr:(Region.ready md ops L).contains i=true)
 (hQ:∀c a w,Q (.panic c) (a.put oi.dst v) w→Q (.panic c) a w)(hy:YieldsIf P ops S oi v a)(hS:S w)(h:jw P md ops Q S z f (L.setIfInBounds i true) {tmps:=a.tmps.setIfInBounds d v,defers:=a.defers} w):jw P md ops Q S z (f+1) L a w:=
 qc8 hi hs hw hz hf hr hQ hy hS (by rw[hd];exact h)
theorem qP{P:Program}{ops:Array Oper}{md:Region.Mode}{Q:Exit→Act→World→Prop}{S:World→Prop}{z i:Nat}(d:Nat){oi:Oper}{v:Value}{f:Nat}{L:Array Bool}{a:Act}{w:World}(hi:ops[i]?=some oi)(hd:oi.dst=some d)(hs:Region.noSelect ops=true)(hiz:decide (i≠z)=true)(hf:Region.free md ops L i=true)(hr:(Region.ready md ops L).contains i=true)
 (hQ:∀c a w,Q (.panic c) (a.put oi.dst v) w→Q (.panic c) a w)(hy:YieldsIf P ops (fun _=>True) oi v a)(hS:S w)(h:jw P md ops Q S z f (L.setIfInBounds i true) {tmps:=a.tmps.setIfInBounds d v,defers:=a.defers} w):jw P md ops Q S z (f+1) L a w:=
 qc9 hi hs hiz hf hr hQ hy hS (by rw[hd];exact h)
theorem qbc{P:Program}{ops:Array Oper}{md:Region.Mode}{Q:Exit→Act→World→Prop}{S:World→Prop}{z i:Nat}{o:Oper}{f:Nat}{L:Array Bool}{a:Act}{w:World}(hz:L.getD z true=true)(hr:Region.ready md ops L=[i])(ho:ops[i]?=some o)
 (h:∀K':Act→World→Prop,(∀a w,jw P md ops Q S z f (L.setIfInBounds i true) a w→K' a w)→if Region.wanted o (yielded ops a.tmps)=true then o.wp P a w K' Q else K' (a.put o.dst undef) w):jw P md ops Q S z (f+1) L a w:=by
 refine⟨fun h0=>(by rw[h0]at hr;cases hr),fun j hj=>?_⟩;rw[hr,List.mem_singleton]at hj;subst hj;have h1:=h (fun a' w'=>(L.getD z true=false→j≠z→S w')∧jw P md ops Q S z f (L.setIfInBounds j true) a' w') (fun _ _ h2=>⟨fun h3=>(by rw[hz]at h3;cases h3),h2⟩);unfold wpOp;rw[ho];dsimp only;split
 ·rename_i hw;rw[if_pos hw]at h1;exact .inl h1
 ·rename_i hw;rw[if_neg hw]at h1;exact h1
theorem qmT(w:World)(b:Nat)(h0 h1 h2 r0 r1:BitVec 64)(hs:yC w b (h0,h1,h2) r0 r1)(B n c:Nat)(A:Option Addr)(p:qf)(hr:Rd b8 w B A p)(hB:B≤w.heap.size)(hn:n=p.length)(h16:n≤16):
 Calls prog 115 #[.pointer (some ⟨b,0,none⟩),.slice A n c] w fun e w'=>(∃v,e= .returned v)∧yC w' b (yb (uT (h0,h1,h2) (zq (j5 p)) (zq ((j5 p).drop 8)) (((j5 p).getD 16 0#8).setWidth 64)) r0 r1) r0 r1∧w.grownBy w' (some b):=by
 have HS:=qe hs;have hlt:b<w.heap.size:=Arr.lt hs;have HR:=qe (hr.more hB);have HN:=qe hn;clear hs hr hB hn;go_enter func115,ntmps115
 have hp16:p.length≤16:=by rw[←HN.1];exact h16
 have HP16:=qe hp16;have HZ:=qe (Arr.new b8 w 209 (QL 17 0#8));have HBz:=qe ((QK w.heap.size w).alloc (QI _) (.cells ((QL 17 0#8).map b8).toArray 209));have HRz:=qe (HR.1.alloc (QI _) (.cells ((QL 17 0#8).map b8).toArray 209));clear hp16;go_wp2_with (refine wpList_copy_splice (o:=⟨some 8,_,_,_,_,_⟩) rfl (.tmp 6) (.tmp 7) 28 28 rfl 5 underlying28 qjX (some ⟨w.heap.size,0,none⟩) A 17 17 n c rfl rfl w.heap.size 0 ((QL 17 0#8).map b8) 209 HZ.1 (p.map b8) (by rw[QN,←HN.1];exact(Nat.min_eq_left (by omega)).symm) (fun hp=>⟨rfl,by obtain⟨b',off',e',hb',hc'⟩:=HRz.1 (by simpa using hp);exact⟨_,e',HRz.1.cells e'⟩⟩) (by rw[QN,QN,Jz];have:=HP16.1;omega) (fun v hv=>by obtain⟨x,-,rfl⟩:=QW.1 hv;exact qH x) w.heap.size w HBz.1 (QI _) ?_;intro w4 hx4 hb4;have HX4:=qe (show Arr b8 w4 w.heap.size 209 (p++QL (17-p.length) 0#8)from by have:=hx4.out;rw[qmR p]at this;exact this);have HB4:=qe hb4;have hf4:=HX4.1.frozen n;have hc4:w4.cell? ⟨w.heap.size,n,none⟩=some (.int .u8 (bv 0#8)):=(HX4.1.at_ (u:=0#8) (by rw[HN.1,List.getElem?_append_right (QI _),Nat.sub_self,List.getElem?_replicate,if_pos (by have:=HP16.1;omega)]));clear hx4 hb4)
 have HX5:=qe (show Arr b8 (w4.setCell ⟨w.heap.size,n,none⟩ (.int .u8 1)) w.heap.size 209 (j5 p) by
  rw[←qmS p HP16.1,←HN.1];have h:=HX4.1.set_ n 1#8;rw[←HN.1]at h;exact h)
 have HB5:=qe (HB4.1.setCell (p:=⟨w.heap.size,n,none⟩) (QI _) (.int .u8 1));clear HX4 HB4 hf4 hc4 HZ HBz HRz;generalize w4.setCell ⟨w.heap.size,n,none⟩ (.int .u8 1)=w5 at HX5 HB5 ⊢;have HS5:=qe (show yC w5 b (h0,h1,h2) r0 r1 from Arr.below HS.1 HB5.1 hlt);have hl17:(j5 p).length=17:=qhq p HP16.1;have HR5:=qe (show∀W:World,Arr b8 W w.heap.size 209 (j5 p)→Rd b8 W (w.heap.size+1) (some ⟨w.heap.size,0,none⟩) (j5 p)from fun W h=>h.rd 0)
 have HR6:=qe (show∀W:World,Arr b8 W w.heap.size 209 (j5 p)→Rd b8 W (w.heap.size+1) (some ⟨w.heap.size,8,none⟩) ((j5 p).drop 8)from fun W h=>h.rd 8);have HL17:=qe hl17;have HL9:=qe (show 9=((j5 p).drop 8).length by rw[Jf,hl17]);obtain⟨x0,hx0⟩:∃x,x=zq (j5 p):=⟨_,rfl⟩;obtain⟨x1,hx1⟩:∃x,x=zq ((j5 p).drop 8):=⟨_,rfl⟩;obtain⟨x2,hx2⟩:∃x,x=(j5 p).getD 16 0#8:=⟨_,rfl⟩
 have HXX:=qe (And.intro hx0 (And.intro hx1 hx2));have HC0:=qe (show∀W:World,Arr b8 W w.heap.size 209 (j5 p)→Calls prog 113 #[.slice (some ⟨w.heap.size,0,none⟩) 17 17] W fun e w'=>e= .returned (.int .u64 (bv x0))∧w'=W from fun W h=>by rw[hx0];exact qfb W _ _ _ _ _ (h.rd 0) HL17.1.symm (by omega));have HC1:=qe (show∀W:World,Arr b8 W w.heap.size 209 (j5 p)→Calls prog 113 #[.slice (some ⟨w.heap.size,8,none⟩) 9 9] W fun e w'=>e= .returned (.int .u64 (bv x1))∧w'=W from fun W h=>by rw[hx1];exact qfb W _ _ _ _ _ (h.rd 8) HL9.1 (by omega))
 have HX2:=qe (show∀W:World,Arr b8 W w.heap.size 209 (j5 p)→W.cell? ⟨w.heap.size,16,none⟩=some (.int .u8 (bv x2))from fun W h=>by rw[hx2];exact h.cellD (by rw[HL17.1];omega) 0#8);clear hl17 hx0 hx1 hx2;have k1:(cy h0 x0 0#64).toNat≤1:=zW _ _ _ (by simp);have s0:w5.cell? ⟨b,0,none⟩=some (.int .u64 (bv h0)):=Arr.at_ HS5.1 rfl;have f0:=Arr.frozen HS5.1 0;have hS:(fun w':World=>w'.cell? ⟨b,0,none⟩=some (.int .u64 (bv h0))) w5.drew:=s0
 refine jr (by kernel_rfl) (fun w':World=>w'.cell? ⟨b,0,none⟩=some (.int .u64 (bv h0))) 15 ?_;refine qP 13 (i:=0) (v:= .pointer (some ⟨b,0,none⟩)) rfl rfl (by kernel_rfl) (by kernel_rfl) (by kernel_rfl) (by kernel_rfl) (fun _ _ _ h=>h) (QZ ⟨by rfl,?_⟩) hS ?_
 ·intro w' hw'
  go_simp
 simp only[qj,qz,qv];refine qP 14 (i:=1) (v:= .pointer (some ⟨b,0,none⟩)) rfl rfl (by kernel_rfl) (by kernel_rfl) (by kernel_rfl) (by kernel_rfl) (fun _ _ _ h=>h) (QZ ⟨by rfl,?_⟩) hS ?_
 ·intro w' hw'
  go_simp
 simp only[qj,qz,qv];refine qP 15 (i:=2) (v:= .pointer (some ⟨b,0,none⟩)) rfl rfl (by kernel_rfl) (by kernel_rfl) (by kernel_rfl) (by kernel_rfl) (fun _ _ _ h=>h) (QZ ⟨by rfl,?_⟩) hS ?_
 ·intro w' hw'
  go_simp
 simp only[qj,qz,qv];refine qP 16 (i:=3) (v:= .pointer (some ⟨b,0,none⟩)) rfl rfl (by kernel_rfl) (by kernel_rfl) (by kernel_rfl) (by kernel_rfl) (fun _ _ _ h=>h) (QZ ⟨by rfl,?_⟩) hS ?_
 ·intro w' hw'
  go_simp
 simp only[qj,qz,qv];refine qP 17 (i:=4) (v:= .pointer (some ⟨b,0,none⟩)) rfl rfl (by kernel_rfl) (by kernel_rfl) (by kernel_rfl) (by kernel_rfl) (fun _ _ _ h=>h) (QZ ⟨by rfl,?_⟩) hS ?_
 ·intro w' hw'
  go_simp
 simp only[qj,qz,qv];refine qck 18 (i:=5) (v:= .int .u64 (bv h0)) rfl rfl (by kernel_rfl) (by kernel_rfl) (by kernel_rfl) (by kernel_rfl) (by kernel_rfl) (fun _ _ _ h=>h) (QZ ⟨by rfl,?_⟩) hS ?_
 ·intro w' hw'
  go_simp
 simp only[qj,qz,qv];refine qP 19 (i:=6) (v:= .slice (some ⟨w.heap.size,0,none⟩) 17 17) rfl rfl (by kernel_rfl) (by kernel_rfl) (by kernel_rfl) (by kernel_rfl) (fun _ _ _ h=>h) (QZ ⟨by rfl,?_⟩) hS ?_
 ·intro w' hw'
  go_simp
 simp only[qj,qz,qv];refine qP 24 (i:=12) (v:= .pointer (some ⟨b,0,none⟩)) rfl rfl (by kernel_rfl) (by kernel_rfl) (by kernel_rfl) (by kernel_rfl) (fun _ _ _ h=>h) (QZ ⟨by rfl,?_⟩) hS ?_
 ·intro w' hw'
  go_simp
 simp only[qj,qz,qv];refine qP 25 (i:=13) (v:= .pointer (some ⟨b,0,none⟩)) rfl rfl (by kernel_rfl) (by kernel_rfl) (by kernel_rfl) (by kernel_rfl) (fun _ _ _ h=>h) (QZ ⟨by rfl,?_⟩) hS ?_
 ·intro w' hw'
  go_simp
 simp only[qj,qz,qv];refine onY 7 (fun K' hK=>?_);go_simp;go_at_call 113;refine(HC0.1 _ HX5.1.drew).mono ?_;rintro e w' ⟨rfl,rfl⟩;refine hK _ _ (fun _=>hS) ?_;clear hK K';try simp only[QJ,qj,qz,qv]
 refine onY 8 (fun K' hK=>?_);go_simp;refine hK _ _ (fun _=>hS) ?_;clear hK K';try simp only[QJ,qj,qz,qv]
 refine qP 12 (i:=9) (v:= .tuple #[.int .u64 (bv (ad h0 x0 0#64)),.int .u64 (bv (cy h0 x0 0#64))]) rfl rfl (by kernel_rfl) (by kernel_rfl) (by kernel_rfl) (by kernel_rfl) (fun _ _ _ h=>h) (QZ ⟨by rfl,?_⟩) hS ?_
 ·intro w' hw'
  go_simp
 simp only[qj,qz,qv];refine qP 22 (i:=10) (v:= .int .u64 (bv (ad h0 x0 0#64))) rfl rfl (by kernel_rfl) (by kernel_rfl) (by kernel_rfl) (by kernel_rfl) (fun _ _ _ h=>h) (QZ ⟨by rfl,?_⟩) hS ?_
 ·intro w' hw'
  go_simp
 simp only[qj,qz,qv];refine qP 23 (i:=11) (v:= .int .u64 (bv (cy h0 x0 0#64))) rfl rfl (by kernel_rfl) (by kernel_rfl) (by kernel_rfl) (by kernel_rfl) (fun _ _ _ h=>h) (QZ ⟨by rfl,?_⟩) hS ?_
 ·intro w' hw'
  go_simp
 simp only[qj,qz,qv];refine qP 26 (i:=14) (v:= .pointer (some ⟨b,0,none⟩)) rfl rfl (by kernel_rfl) (by kernel_rfl) (by kernel_rfl) (by kernel_rfl) (fun _ _ _ h=>h) (QZ ⟨by rfl,?_⟩) hS ?_
 ·intro w' hw'
  go_simp
 simp only[qj,qz,qv];refine onY 15 (fun K' hK=>?_);go_simp;refine hK _ _ (fun h=>absurd rfl h) ?_;clear hK K' hS;try simp only[QJ,qj,qz,qv]
 refine qbc (i:=16) (by kernel_rfl) (by kernel_rfl) rfl (fun K' hK=>?_);go_simp;refine hK _ _ (jq (by kernel_rfl) ?_ _);clear hK K';go_wp2_with fail
 have HS6:=qe (show yC (w5.setCell ⟨b,0,none⟩ (.int .u64 (bv (ad h0 x0 0#64)))).drew b (ad h0 x0 0#64,h1,h2) r0 r1 from Arr.set_ HS5.1 0 (ad h0 x0 0#64));have HX6:=qe (show Arr b8 (w5.setCell ⟨b,0,none⟩ (.int .u64 (bv (ad h0 x0 0#64)))).drew w.heap.size 209 (j5 p)from HX5.1.far (p:=⟨b,0,none⟩) (by show w.heap.size≠b;omega) _);have HG6:=qe (show w.grownBy (w5.setCell ⟨b,0,none⟩ (.int .u64 (bv (ad h0 x0 0#64)))).drew (some b)from by
  have h:=qp (r:=some b) (s:=some b) ⟨HB5.1.os,HB5.1.tape,HB5.1.output,HB5.1.size,fun k hk _=>HB5.1.block k hk⟩ (zL w5 b 0 (.int .u64 (bv (ad h0 x0 0#64)))) (fun g e=> .inl e);exact⟨h.os,h.tape,h.output,h.size,h.block⟩)
 generalize(w5.setCell ⟨b,0,none⟩ (.int .u64 (bv (ad h0 x0 0#64)))).drew=w6 at HS6 HX6 HG6 ⊢;clear HS5 HX5 HB5 s0 f0;have s1:w6.cell? ⟨b,1,none⟩=some (.int .u64 (bv h1)):=Arr.at_ HS6.1 rfl;have f1:=Arr.frozen HS6.1 1;have hS:(fun w':World=>w'.cell? ⟨b,1,none⟩=some (.int .u64 (bv h1))) w6.drew:=s1;refine jr (by kernel_rfl) (fun w':World=>w'.cell? ⟨b,1,none⟩=some (.int .u64 (bv h1))) 16 ?_;refine qP 28 (i:=0) (v:= .pointer (some ⟨b,0,none⟩)) rfl rfl (by kernel_rfl) (by kernel_rfl) (by kernel_rfl) (by kernel_rfl) (fun _ _ _ h=>h) (QZ ⟨by rfl,?_⟩) hS ?_
 ·intro w' hw'
  go_simp
 simp only[qj,qz,qv];refine qP 29 (i:=1) (v:= .pointer (some ⟨b,0,none⟩)) rfl rfl (by kernel_rfl) (by kernel_rfl) (by kernel_rfl) (by kernel_rfl) (fun _ _ _ h=>h) (QZ ⟨by rfl,?_⟩) hS ?_
 ·intro w' hw'
  go_simp
 simp only[qj,qz,qv];refine qP 30 (i:=2) (v:= .pointer (some ⟨b,0,none⟩)) rfl rfl (by kernel_rfl) (by kernel_rfl) (by kernel_rfl) (by kernel_rfl) (fun _ _ _ h=>h) (QZ ⟨by rfl,?_⟩) hS ?_
 ·intro w' hw'
  go_simp
 simp only[qj,qz,qv];refine qP 31 (i:=3) (v:= .pointer (some ⟨b,0,none⟩)) rfl rfl (by kernel_rfl) (by kernel_rfl) (by kernel_rfl) (by kernel_rfl) (fun _ _ _ h=>h) (QZ ⟨by rfl,?_⟩) hS ?_
 ·intro w' hw'
  go_simp
 simp only[qj,qz,qv];refine qP 32 (i:=4) (v:= .pointer (some ⟨b,1,none⟩)) rfl rfl (by kernel_rfl) (by kernel_rfl) (by kernel_rfl) (by kernel_rfl) (fun _ _ _ h=>h) (QZ ⟨by rfl,?_⟩) hS ?_
 ·intro w' hw'
  go_simp
 simp only[qj,qz,qv];refine qck 33 (i:=5) (v:= .int .u64 (bv h1)) rfl rfl (by kernel_rfl) (by kernel_rfl) (by kernel_rfl) (by kernel_rfl) (by kernel_rfl) (fun _ _ _ h=>h) (QZ ⟨by rfl,?_⟩) hS ?_
 ·intro w' hw'
  go_simp
 simp only[qj,qz,qv];refine qP 34 (i:=6) (v:= .slice (some ⟨w.heap.size,8,none⟩) 9 9) rfl rfl (by kernel_rfl) (by kernel_rfl) (by kernel_rfl) (by kernel_rfl) (fun _ _ _ h=>h) (QZ ⟨by rfl,?_⟩) hS ?_
 ·intro w' hw'
  go_simp
 simp only[qj,qz,qv];refine qP 36 (i:=8) (v:= .int .u64 (bv (cy h0 x0 0#64))) rfl rfl (by kernel_rfl) (by kernel_rfl) (by kernel_rfl) (by kernel_rfl) (fun _ _ _ h=>h) (QZ ⟨by rfl,?_⟩) hS ?_
 ·intro w' hw'
  go_simp
 simp only[qj,qz,qv];refine qP 40 (i:=13) (v:= .pointer (some ⟨b,0,none⟩)) rfl rfl (by kernel_rfl) (by kernel_rfl) (by kernel_rfl) (by kernel_rfl) (fun _ _ _ h=>h) (QZ ⟨by rfl,?_⟩) hS ?_
 ·intro w' hw'
  go_simp
 simp only[qj,qz,qv];refine qP 41 (i:=14) (v:= .pointer (some ⟨b,0,none⟩)) rfl rfl (by kernel_rfl) (by kernel_rfl) (by kernel_rfl) (by kernel_rfl) (fun _ _ _ h=>h) (QZ ⟨by rfl,?_⟩) hS ?_
 ·intro w' hw'
  go_simp
 simp only[qj,qz,qv];refine onY 7 (fun K' hK=>?_);go_simp;go_at_call 113;refine(HC1.1 _ HX6.1.drew).mono ?_;rintro e w' ⟨rfl,rfl⟩;refine hK _ _ (fun _=>hS) ?_;clear hK K';try simp only[QJ,qj,qz,qv]
 refine onY 9 (fun K' hK=>?_);go_simp;refine hK _ _ (fun _=>hS) ?_;clear hK K';try simp only[QJ,qj,qz,qv]
 refine qP 27 (i:=10) (v:= .tuple #[.int .u64 (bv (ad h1 x1 (cy h0 x0 0#64))),.int .u64 (bv (cy h1 x1 (cy h0 x0 0#64)))]) rfl rfl (by kernel_rfl) (by kernel_rfl) (by kernel_rfl) (by kernel_rfl) (fun _ _ _ h=>h) (QZ ⟨by rfl,?_⟩) hS ?_
 ·intro w' hw'
  go_simp
 simp only[qj,qz,qv];refine qP 38 (i:=11) (v:= .int .u64 (bv (ad h1 x1 (cy h0 x0 0#64)))) rfl rfl (by kernel_rfl) (by kernel_rfl) (by kernel_rfl) (by kernel_rfl) (fun _ _ _ h=>h) (QZ ⟨by rfl,?_⟩) hS ?_
 ·intro w' hw'
  go_simp
 simp only[qj,qz,qv];refine qP 39 (i:=12) (v:= .int .u64 (bv (cy h1 x1 (cy h0 x0 0#64)))) rfl rfl (by kernel_rfl) (by kernel_rfl) (by kernel_rfl) (by kernel_rfl) (fun _ _ _ h=>h) (QZ ⟨by rfl,?_⟩) hS ?_
 ·intro w' hw'
  go_simp
 simp only[qj,qz,qv];refine qP 42 (i:=15) (v:= .pointer (some ⟨b,1,none⟩)) rfl rfl (by kernel_rfl) (by kernel_rfl) (by kernel_rfl) (by kernel_rfl) (fun _ _ _ h=>h) (QZ ⟨by rfl,?_⟩) hS ?_
 ·intro w' hw'
  go_simp
 simp only[qj,qz,qv];refine onY 16 (fun K' hK=>?_);go_simp;refine hK _ _ (fun h=>absurd rfl h) ?_;clear hK K' hS;try simp only[QJ,qj,qz,qv]
 refine qbc (i:=17) (by kernel_rfl) (by kernel_rfl) rfl (fun K' hK=>?_);go_simp;refine hK _ _ (jq (by kernel_rfl) ?_ _);clear hK K';go_wp2_with fail
 have HS7:=qe (show yC (w6.setCell ⟨b,1,none⟩ (.int .u64 (bv (ad h1 x1 (cy h0 x0 0#64))))).drew b (ad h0 x0 0#64,ad h1 x1 (cy h0 x0 0#64),h2) r0 r1 from Arr.set_ HS6.1 1 (ad h1 x1 (cy h0 x0 0#64)));have HX7:=qe (show Arr b8 (w6.setCell ⟨b,1,none⟩ (.int .u64 (bv (ad h1 x1 (cy h0 x0 0#64))))).drew w.heap.size 209 (j5 p)from HX6.1.far (p:=⟨b,1,none⟩) (by show w.heap.size≠b;omega) _);have HG7:=qe (show w.grownBy (w6.setCell ⟨b,1,none⟩ (.int .u64 (bv (ad h1 x1 (cy h0 x0 0#64))))).drew (some b)from by
  have h:=qp (r:=some b) (s:=some b) HG6.1 (zL w6 b 1 (.int .u64 (bv (ad h1 x1 (cy h0 x0 0#64))))) (fun g e=> .inl e);exact⟨h.os,h.tape,h.output,h.size,h.block⟩)
 generalize(w6.setCell ⟨b,1,none⟩ (.int .u64 (bv (ad h1 x1 (cy h0 x0 0#64))))).drew=w7 at HS7 HX7 HG7 ⊢;clear HS6 HX6 HG6 s1 f1;have s2:w7.cell? ⟨b,2,none⟩=some (.int .u64 (bv h2)):=Arr.at_ HS7.1 rfl;have f2:=Arr.frozen HS7.1 2;have c16:=HX2.1 w7 HX7.1
 go_region
 have HS8:=qe (show yC (w7.setCell ⟨b,2,none⟩ (.int .u64 (bv (h2+(x2.setWidth 64+cy h1 x1 (cy h0 x0 0#64)))))).drew b (uT (h0,h1,h2) x0 x1 (x2.setWidth 64)) r0 r1 from Arr.set_ HS7.1 2 (h2+(x2.setWidth 64+cy h1 x1 (cy h0 x0 0#64))));have HG8:=qe (show w.grownBy (w7.setCell ⟨b,2,none⟩ (.int .u64 (bv (h2+(x2.setWidth 64+cy h1 x1 (cy h0 x0 0#64)))))).drew (some b)from by
  have h:=qp (r:=some b) (s:=some b) HG7.1 (zL w7 b 2 (.int .u64 (bv (h2+(x2.setWidth 64+cy h1 x1 (cy h0 x0 0#64)))))) (fun g e=> .inl e);exact⟨h.os,h.tape,h.output,h.size,h.block⟩)
 generalize(w7.setCell ⟨b,2,none⟩ (.int .u64 (bv (h2+(x2.setWidth 64+cy h1 x1 (cy h0 x0 0#64)))))).drew=w8 at HS8 HG8 ⊢;clear HS7 HX7 HG7 s2 f2 c16;go_wp2_with fail
 refine(qlc w8 b _ _ _ r0 r1 HS8.1).mono ?_;rintro e w9 ⟨⟨v9,rfl⟩,hs9,hg9⟩;have HS9:=qe hs9;have HG9:=qe (qp HG8.1 hg9 (fun g e=> .inl e));clear hs9 hg9;go_wp2_with fail
 go_end0
 refine⟨⟨_,rfl⟩,?_,HG9.1⟩;obtain⟨e0,e1,e2⟩:=HXX.1;rw[←e0,←e1,←e2];exact HS9.1
attribute [local go_sem] qbH qiY qiZ uW
theorem yJ:(prog.info? 147).map (·.size)=some 16:=by kernel_rfl
def qob(h:BitVec 64×BitVec 64×BitVec 64):Nat→BitVec 64×BitVec 64×BitVec 64
 |0=>h
 |i+1=>vt (qob h i)
theorem qhE(w:World)(b:Nat)(h0 h1 h2 r0 r1:BitVec 64)(hs:yC w b (h0,h1,h2) r0 r1)(key:qf)(hk:key.length=32):
 Calls prog 116 #[.pointer (some ⟨b,0,none⟩),.agg (key.map b8).toArray] w fun e w'=>e= .returned (.agg ((le8 (QA (h0,h1,h2) (zq (key.drop 16)) (zq (key.drop 24))).1++le8 (QA (h0,h1,h2) (zq (key.drop 16)) (zq (key.drop 24))).2).map b8).toArray)∧Below w.heap.size w w':=by
 have HS:=qe hs;have hlt:b<w.heap.size:=Arr.lt hs;have HK:=qe hk;have s0:w.cell? ⟨b,0,none⟩=some (.int .u64 (bv h0)):=Arr.at_ hs rfl;have s1:w.cell? ⟨b,1,none⟩=some (.int .u64 (bv h1)):=Arr.at_ hs rfl;have s2:w.cell? ⟨b,2,none⟩=some (.int .u64 (bv h2)):=Arr.at_ hs rfl;clear hs hk;go_enter func116,ntmps116
 go_wp2_with fail
 obtain⟨H,hH0,hHs⟩:∃H:Nat→BitVec 64×BitVec 64×BitVec 64,H 0=(h0,h1,h2)∧∀i,H (i+1)=vt (H i):=⟨qob (h0,h1,h2),rfl,fun _=>rfl⟩;have HHs:=qe hHs;have HK1:=qe (Arr.alloc (Arr.alloc (Arr.new b8 w 92 key) (.cells ((QL 16 0#8).map b8).toArray 147)) (.cells ([h0,h1,h2].map kR).toArray 188));have HO1:=qe (Arr.alloc (Arr.at_size b8 (w:=w.alloc (.cells (key.map b8).toArray 92)) (k:=w.heap.size+1) 147 (QL 16 0#8) (QQ ..)) (.cells ([h0,h1,h2].map kR).toArray 188))
 have HH1:=qe (Arr.at_size kR (w:=(w.alloc (.cells (key.map b8).toArray 92)).alloc (.cells ((QL 16 0#8).map b8).toArray 147)) (k:=w.heap.size+1+1) 188 [h0,h1,h2] (by rw[QQ,QQ]));have HB1:=qe (show Below w.heap.size w (((w.alloc (.cells (key.map b8).toArray 92)).alloc (.cells ((QL 16 0#8).map b8).toArray 147)).alloc (.cells ([h0,h1,h2].map kR).toArray 188))from(((QK _ w).alloc (QI _) _).alloc (by simp) _).alloc (by simp;omega) _)
 have hz1':(((w.alloc (.cells (key.map b8).toArray 92)).alloc (.cells ((QL 16 0#8).map b8).toArray 147)).alloc (.cells ([h0,h1,h2].map kR).toArray 188)).heap.size=w.heap.size+1+1+1:=by simp
 change Code.wp _ _ _ _ (((w.alloc (.cells (key.map b8).toArray 92)).alloc (.cells ((QL 16 0#8).map b8).toArray 147)).alloc (.cells ([h0,h1,h2].map kR).toArray 188));generalize((w.alloc (.cells (key.map b8).toArray 92)).alloc (.cells ((QL 16 0#8).map b8).toArray 147)).alloc (.cells ([h0,h1,h2].map kR).toArray 188)=w1 at HK1 HO1 HH1 HB1 hz1' ⊢;have hz1:w1.heap.size=w.heap.size+1+1+1:=by have:=HH1.1.lt;exact hz1'
 go_loopw [18] (fun iv wr=>∃i:Nat,i≤2∧iv= .int .i64 (i:Int)∧Arr kR wr (w.heap.size+1+1) 188 [(H i).1,(H i).2.1,(H i).2.2]∧w1.grownBy wr (some (w.heap.size+1+1))) (fun iv _=>2-(intOf iv).toNat)
 case atStart=>exact⟨0,by omega,rfl,by rw[hH0];exact HH1.1,World.grownBy.refl _ _⟩
 case round=>
  obtain⟨i,hi2,rfl,ha,hg⟩:=hrel;by_cases hlt2:i<2
  ·obtain⟨p0,p1,p2,hp⟩:∃p0 p1 p2,H i=(p0,p1,p2):=⟨_,_,_,rfl⟩
   have HNx:=qe (show H (i+1)=vt (p0,p1,p2) by rw[HHs.1,hp]);rw[hp]at ha;have HA:=qe ha;have HG:=qe hg;have s0:wr.cell? ⟨w.heap.size+1+1,0,none⟩=some (.int .u64 (bv p0)):=ha.at_ rfl;have s1:wr.cell? ⟨w.heap.size+1+1,1,none⟩=some (.int .u64 (bv p1)):=ha.at_ rfl;have s2:wr.cell? ⟨w.heap.size+1+1,2,none⟩=some (.int .u64 (bv p2)):=ha.at_ rfl;have k1:(cy p0 5#64 0#64).toNat≤1:=zW _ _ _ (by simp)
   have f0:=ha.frozen 0;have f1:=ha.frozen 1;have f2:=ha.frozen 2;have hli:(i:Int)<2:=by omega
   clear hp ha hg;obtain⟨T,hT⟩:∃T,T=p2+cy p1 0#64 (cy p0 5#64 0#64):=⟨_,rfl⟩;have HT:=qe hT;by_cases h4:4≤T.toNat
   ·have hge:(4:Int)≤bv (p2+cy p1 0#64 (cy p0 5#64 0#64)):=by rw[←hT];unfold bv;omega
    clear hT;go_wp2_with fail
    refine⟨⟨i+1,by omega,by simp,?_,?_⟩,by simp[intOf];omega⟩
    ·rw[HNx.1]
     have e:vt (p0,p1,p2)=(ad p0 5#64 0#64,ad p1 0#64 (cy p0 5#64 0#64),T-4#64):=by
      rw[HT.1]at h4 ⊢;exact if_pos h4
     rw[e,HT.1];exact((HA.1.set_ 0 (ad p0 5#64 0#64)).set_ 1 (ad p1 0#64 (cy p0 5#64 0#64))).set_ 2 (p2+cy p1 0#64 (cy p0 5#64 0#64)-4#64)
    ·exact qp (qp (qp HG.1 (zL _ _ _ _) (fun g e=> .inl e)) (zL _ _ _ _) (fun g e=> .inl e)) (zL _ _ _ _) (fun g e=> .inl e)
   ·have hge:bv (p2+cy p1 0#64 (cy p0 5#64 0#64))<(4:Int):=by rw[←hT];unfold bv;omega
    clear hT;go_wp2_with fail
    refine⟨⟨i+1,by omega,by simp,?_,HG.1⟩,by simp[intOf];omega⟩;rw[HNx.1];have e:vt (p0,p1,p2)=(p0,p1,p2):=by
     rw[HT.1]at h4;exact if_neg h4
    rw[e];exact HA.1
  ·obtain rfl:i=2:=by omega
   obtain⟨q0,q1,q2,hq⟩:∃q0 q1 q2,H 2=(q0,q1,q2):=⟨_,_,_,rfl⟩;have hq':vt (vt (h0,h1,h2))=(q0,q1,q2):=by rw[←hq,HHs.1,HHs.1,hH0]
   rw[hq]at ha;obtain⟨x0,hx0⟩:∃x,x=zq (key.drop 16):=⟨_,rfl⟩;obtain⟨x1,hx1⟩:∃x,x=zq (key.drop 24):=⟨_,rfl⟩;obtain⟨a,haE⟩:∃a,a=ad q0 x0 0#64:=⟨_,rfl⟩;obtain⟨b',hbE⟩:∃b',b'=ad q1 x1 (cy q0 x0 0#64):=⟨_,rfl⟩;have HE:=qe (show QA (h0,h1,h2) (zq (key.drop 16)) (zq (key.drop 24))=(a,b') by unfold QA;rw[hq',←hx0,←hx1,haE,hbE];exact(Eq.refl (ad q0 x0 0#64,ad q1 x1 (cy q0 x0 0#64))));have HBr:=qe (show Below w.heap.size w wr from HB1.1.grown hg HB1.1.size (fun k e=>by have:=Option.some.inj e;omega))
   have HKr:=qe (show Arr b8 wr w.heap.size 92 key from HK1.1.grown hg (by intro e;have:=Option.some.inj e;omega));have HOr:=qe (show Arr b8 wr (w.heap.size+1) 147 (QL 16 0#8)from HO1.1.grown hg (by intro e;have:=Option.some.inj e;omega));have hzr:w.heap.size+1+1+1≤wr.heap.size:=by have:=hg.size;omega
   have s0:wr.cell? ⟨w.heap.size+1+1,0,none⟩=some (.int .u64 (bv q0)):=ha.at_ rfl;have s1:wr.cell? ⟨w.heap.size+1+1,1,none⟩=some (.int .u64 (bv q1)):=ha.at_ rfl;have HC0:=qe (show∀W:World,Arr b8 W w.heap.size 92 key→Calls prog 113 #[.slice (some ⟨w.heap.size,16,none⟩) 16 16] W fun e w'=>e= .returned (.int .u64 (bv x0))∧W=w' from fun W h=>by rw[hx0];exact qcj W _ _ _ _ _ (h.rd 16) (by rw[Jf,HK.1]) (by omega))
   have HC1:=qe (show∀W:World,Arr b8 W w.heap.size 92 key→Calls prog 113 #[.slice (some ⟨w.heap.size,24,none⟩) 8 8] W fun e w'=>e= .returned (.int .u64 (bv x1))∧W=w' from fun W h=>by rw[hx1];exact qcj W _ _ _ _ _ (h.rd 24) (by rw[Jf,HK.1]) (by omega));have k2:(cy q0 x0 0#64).toNat≤1:=zW _ _ _ (by simp);have HAe:=qe haE;have HBe:=qe hbE;clear hx0 hx1 haE hbE hq hq' ha hg HHs hHs hH0 HK1 HO1 HH1 HB1 hz1
   go_wp2_with fail
   go_quiet ((go_at_call 113;exact qbI (HC0.1 _ (HKr.1.drewN _))))
   go_wp2_with fail
   have s1':(wr.drewN nq).cell? ⟨w.heap.size+1+1,1,none⟩=some (.int .u64 (bv q1)):=s1;have HK2:=qe (HKr.1.drewN nq);have HO2:=qe (HOr.1.drewN nq);have HB2:=qe (je HBr.1 nq);have hz2:w.heap.size+1+1+1≤(wr.drewN nq).heap.size:=hzr;clear s0 s1 HKr HOr HBr hzr;generalize wr.drewN nq=w2 at s1' HK2 HO2 HB2 hz2 ⊢;go_quiet ((go_at_call 113;exact qbI (HC1.1 _ (HK2.1.drewN _))))
   rw[←HBe.1,←HAe.1];have HO3:=qe (HO2.1.drewN nq);have HB3:=qe (je HB2.1 nq);have hz3:w.heap.size+1+1+1≤(w2.drewN nq).heap.size:=hz2;clear s1' HK2 HO2 HB2 hz2 HC0 HC1 k2;generalize w2.drewN nq=w3 at HO3 HB3 hz3 ⊢;go_wp2_with fail
   have hl8:∀n,(le8 n).length=8:=fun n=>by simp[le8]
   have tok1:True:=trivial;have tok2:True:=trivial;go_region_held3 (fun _=>True) (trivial)
    (first
     |(go_simp;go_at_call 93;have _t:=tok1;clear tok1;refine(qdq _ _).mono ?_;rintro e w5 ⟨v5,rfl,ho5,hb5⟩;obtain⟨A5,c5,rfl,hr5,-,-,-⟩:=ho5.shape' (hl8 _);have hz5:w3.heap.size≤w5.heap.size:=hb5.size;have HB5:=qe (show Below w3.heap.size w3 w5 from(QK _ w3).drew.trans hb5);have HR5:=qe hr5;clear hb5 hr5 ho5)
     |(go_simp;go_at_call 93;have _t:=tok2;clear tok2;refine(qdq _ _).mono ?_;rintro e w6 ⟨v6,rfl,ho6,hb6⟩;obtain⟨A6,c6,rfl,hr6,-,-,-⟩:=ho6.shape' (hl8 _);have hz6:w5.heap.size≤w6.heap.size:=hb6.size;have HB6:=qe (show Below w3.heap.size w3 w6 from HB5.1.trans (hb6.mono hz5));have HR6:=qe hr6;have HR56:=qe ((HR5.1.below hb6).more hz6);clear hb6 hr6 ho6)
     |(go_simp;go_at_call 61;refine(qdQ w6 w6.heap.size 8 c5 8 c6 A5 A6 (le8 a) (le8 b') HR56.1 HR6.1 (QI _) (hl8 _).symm (hl8 _).symm (by rw[hl8,hl8];omega)).mono ?_;rintro e w7 ⟨v7,rfl,ho7,hb7⟩;obtain⟨A7,c7,rfl,hr7,-,-,-⟩:=ho7.shape' (n:=16) (by rw[QO,hl8,hl8]);have hz7:w6.heap.size≤w7.heap.size:=hb7.size;have HB7:=qe (show Below w3.heap.size w3 w7 from HB6.1.trans (hb7.mono (by omega)));have HR7:=qe hr7;have HO7:=qe (HO3.1.below HB7.1 (by omega));clear hb7 hr7 ho7)
     |(refine step_copy_splice rfl (.tmp 62) (.tmp 68) 28 28 rfl 5 underlying28 qjX (some ⟨w.heap.size+1,0,none⟩) A7 16 16 16 c7 rfl rfl (w.heap.size+1) 0 ((QL 16 0#8).map b8) 147 HO7.1 ((le8 a++le8 b').map b8) (by rw[QN,QO,hl8,hl8];rfl) (fun hp=>⟨rfl,by obtain⟨b9,off',e',hb',hc'⟩:=HR7.1 (by simpa using hp);exact⟨_,e',HR7.1.cells e'⟩⟩) (by rw[QN,QN,Jz,QO,hl8,hl8];omega) (fun v hv=>by obtain⟨x,-,rfl⟩:=QW.1 hv;exact qH x) (w.heap.size+1) w7 (QK _ _) (QI _) ?_;intro w8 hx8 hb8))
   have e16:splice ((QL 16 0#8).map b8) 0 ((le8 a++le8 b').map b8)=(le8 a++le8 b').map b8:=by
    rw[qhD,QO,hl8,hl8];simp
   have HO8:=qe (show Arr b8 w8 (w.heap.size+1) 147 (le8 a++le8 b')from by have:=hx8.out;rw[e16]at this;exact this);have HB8:=qe (show Below w.heap.size w w8 from(HB3.1.trans (HB7.1.mono (by omega))).trans (hb8.mono (by omega)));have hl16:(le8 a++le8 b').length=16:=by rw[QO,hl8,hl8]
   clear hx8 hb8 e16 HO7 HR7 HB7;obtain⟨O,hO⟩:∃O,O=le8 a++le8 b':=⟨_,rfl⟩;rw[←hO]at HO8 hl16;have HML:=qe hl16;have HOe:=qe hO;clear hO hl16;go_wp2_with (first
    |(refine qm rfl 147 (.tmp 4) rfl (w.heap.size+1) rfl _ O HO8.1 _ underlying147 rfl (by rw[yJ,HML.1]) ?_)
    |(refine qk rfl 147 (.tmp 4) (.tmp 70) rfl (w.heap.size+1) rfl O rfl _ _ HO8.1 rfl (by rw[yJ,HML.1]) qU ?_;intro w9 hp9 hg9;have HP9:=qe hp9;have HG9:=qe hg9;clear hp9 hg9))
   refine bodyPost_ret (v:= .agg (O.map b8).toArray) (qY (g:=w.heap.size+1) rfl _ _ _ _ _ rfl HP9.1 underlying147 rfl (by rw[yJ,HML.1])) rfl ?_;refine⟨?_,HB8.1.grown HG9.1 HB8.1.size (fun k e=>by cases e;omega)⟩;rw[HE.1,HOe.1]
attribute [local go_sem] Ze
abbrev Cj(L q:Nat):={i:Nat//q*i<L}
def QG(b q L:Nat)(x:Cj L q):Array Value:= #[.slice (some ⟨b,q*x.1,none⟩) (min q (L-q*x.1)) (min q (L-q*x.1))]
theorem qld(m:Nat)(hm:3≤m)(b c q L M l bs bn n₀:Nat)(hq:1≤q)(hq2:q≤1000)(hN:L≤1000000000)(hc:L≤c)(hM:M=(L+q-1)/q)(J Jx:List (Cj L q)→World→Prop)(W:World)(hJ:AbidesFrom W.heap.size J)
 (hY:∀pre y W1,J pre W1→pre.length<M→YieldAt Fence.wide (m-1) prog l (QG b q L y) W1 fun e W'=>
  (e= .returned (.bool true)∧J (pre++ [y]) W'∧KpC n₀ bs bn W1 W')∨(e= .returned (.bool false)∧Jx (pre++ [y]) W'))
 (hbs:Boxed W bs 28 (.slice (some ⟨b,0,none⟩) L c))(hbn:Boxed W bn 3 (.int .i64 (q:Int)))(h0:J [] W):
 CallsIn Fence.wide m prog 131 #[.func (.yield l) #[] #[],.pointer (some ⟨bs,0,none⟩),.pointer (some ⟨bn,0,none⟩)] W fun e W'=>(∃v,e= .returned v)∧
  ((∃ys:List (Cj L q),ys.map Jj=Q6 M∧J ys W')∨(∃pre:List (Cj L q),True∧Jx pre W')):=by
 refine callsIn_of_wp func131 rfl trivial ?_ rfl;simp only[ntmps131,Jh,Jr,JE,JI,Nat.reduceSub,Zi,Zj,Zk,Zl,Ji,JL];have HJ:=qe hJ;have HY:=qe hY;have H0:=qe h0;have HBs:=qe hbs;have HBn:=qe hbn;have hM1:L≤q*M:=by
  have h1:=Nat.div_add_mod (L+q-1) q;have h2:=Nat.mod_lt (L+q-1) (show 0<q by omega);rw[←hM]at h1;omega
 have hM2:q*M<L+q:=by
  have h1:=Nat.div_add_mod (L+q-1) q;rw[←hM]at h1;omega
 have HM1:=qe hM1;have HM2:=qe hM2;have hm1:1≤m:=by omega
 have hm2:1≤m-1:=by omega
 clear hJ hY h0 hbs hbn hM hM1 hM2;gi_wp2_with fail
 gi_loopw [4] (fun v wr=>∃(k p:Nat) (pre:List (Cj L q)),p=q*k∧v= .int .i64 (p:Int)∧k≤M∧pre.map Jj=Q6 k∧J pre wr∧Boxed wr bs 28 (.slice (some ⟨b,0,none⟩) L c)∧Boxed wr bn 3 (.int .i64 (q:Int))) (fun v _=>(L-intOf v).toNat)
 case atStart=>exact⟨0,0,[],by simp,rfl,by omega,rfl,H0.1,HBs.1,HBn.1⟩
 case round=>
  obtain⟨k,p,pre,hp,rfl,hkM,hpre,hJs,hbs,hbn⟩:=hrel;have cs:=hbs.cell;have cn:=hbn.cell;have HBs2:=qe hbs;have HBn2:=qe hbn;have HJs:=qe hJs;have Hpre:=qe hpre;have Hp:=qe hp;have hpb:p<L+q:=by
   have:=HM2.1;have h1:q*k≤q*M:=Nat.mul_le_mul_left q hkM;omega
  clear hbs hbn hJs hpre hp;by_cases hlt:p<L
  ·have hkM':k<M:=by
    rcases Jo k M with h|h
    ·exact h
    ·exfalso
     have h1:q*M≤q*k:=Nat.mul_le_mul_left q h;have:=HM1.1;have:=Hp.1;omega
   have hpc:¬(c=p):=by omega
   by_cases hs:L-p<q
   ·have hmin:min (q:Int) ((L-p:Nat):Int)=((L-p:Nat):Int):=by omega
    have hsi:((L-p:Nat):Int)<(q:Int):=by omega
    have hsum:(p:Int)+((L-p:Nat):Int)=(L:Int):=by omega
    have HT:=qe (show min q (L-p)=L-p by omega);gi_wp2_with fail
    refine wpIn_wide.2 ?_;go_quiet (fail)
    have HJ2:=qe (HJ.1 _ _ _ none HJs.1 (show wr.grownBy (wr.drewN nq) none from⟨rfl,rfl,rfl,QI _,fun _ _ _=>rfl⟩) (fun r e=>by cases e));have HBs3:=qe (show Boxed (wr.drewN nq) bs 28 (.slice (some ⟨b,0,none⟩) L c)from HBs2.1);have HBn3:=qe (show Boxed (wr.drewN nq) bn 3 (.int .i64 (q:Int))from HBn2.1);clear HJs HBs2 HBn2 cs cn;generalize wr.drewN nq=wv at HJ2 HBs3 HBn3 ⊢;have cs:=HBs3.1.cell
    have cn:=HBn3.1.cell;obtain⟨fn,tmps,assign,body,hy,hR⟩:=HY.1 pre ⟨k,by rw[←Hp.1];exact hlt⟩ wv HJ2.1 (by have:=congrArg JT Hpre.1;rw[QN,List.length_range]at this;omega);dsimp only[QG]at hy;rw[←Hp.1,HT.1]at hy;have HRn:=qe hR;clear hR;gi_wp2_with fail
    refine HRn.1.mono ?_;rintro e w3 (⟨rfl,hJ3,hk3,hks,hkn⟩|⟨rfl,hJx3⟩)
    ·have hbs3:Boxed w3 bs 28 (.slice (some ⟨b,0,none⟩) L c):=hks.trans HBs3.1
     have hbn3:Boxed w3 bn 3 (.int .i64 (q:Int)):=hkn.trans HBn3.1;have cn3:=hbn3.cell;have HB1:=qe hbs3;have HB2:=qe hbn3;have HJ3:=qe hJ3;clear hbs3 hbn3 hks hkn hJ3 hk3;gi_wp2_with fail
     go_roundw
     case rel=>
      refine⟨k+1,p+q,pre++ [⟨k,by rw[←Hp.1];exact hlt⟩],by rw[Hp.1,Nat.mul_succ],by go_num,hkM',?_,HJ3.1,HB1.1,HB2.1⟩;rw[Q9,Hpre.1,JU];rfl
     case measure=>simp[intOf];omega
    ·gi_wp2_with fail
     refine bodyPost_ret (results_none rfl _ _ _) rfl ?_;exact⟨⟨_,rfl⟩,.inr ⟨_,trivial,hJx3⟩⟩
   ·have hle:p+q≤L:=by omega
    have hmin:min (q:Int) ((L-p:Nat):Int)=(q:Int):=by omega
    have HT:=qe (show min q (L-p)=q by omega);clear hs;gi_wp2_with fail
    refine wpIn_wide.2 ?_;go_quiet (fail)
    have HJ2:=qe (HJ.1 _ _ _ none HJs.1 (show wr.grownBy (wr.drewN nq) none from⟨rfl,rfl,rfl,QI _,fun _ _ _=>rfl⟩) (fun r e=>by cases e));have HBs3:=qe (show Boxed (wr.drewN nq) bs 28 (.slice (some ⟨b,0,none⟩) L c)from HBs2.1);have HBn3:=qe (show Boxed (wr.drewN nq) bn 3 (.int .i64 (q:Int))from HBn2.1);clear HJs HBs2 HBn2 cs cn;generalize wr.drewN nq=wv at HJ2 HBs3 HBn3 ⊢;have cs:=HBs3.1.cell
    have cn:=HBn3.1.cell;obtain⟨fn,tmps,assign,body,hy,hR⟩:=HY.1 pre ⟨k,by rw[←Hp.1];exact hlt⟩ wv HJ2.1 (by have:=congrArg JT Hpre.1;rw[QN,List.length_range]at this;omega);dsimp only[QG]at hy;rw[←Hp.1,HT.1]at hy;have HRn:=qe hR;clear hR;gi_wp2_with fail
    refine HRn.1.mono ?_;rintro e w3 (⟨rfl,hJ3,hk3,hks,hkn⟩|⟨rfl,hJx3⟩)
    ·have hbs3:Boxed w3 bs 28 (.slice (some ⟨b,0,none⟩) L c):=hks.trans HBs3.1
     have hbn3:Boxed w3 bn 3 (.int .i64 (q:Int)):=hkn.trans HBn3.1;have cn3:=hbn3.cell;have HB1:=qe hbs3;have HB2:=qe hbn3;have HJ3:=qe hJ3;clear hbs3 hbn3 hks hkn hJ3 hk3;gi_wp2_with fail
     go_roundw
     case rel=>
      refine⟨k+1,p+q,pre++ [⟨k,by rw[←Hp.1];exact hlt⟩],by rw[Hp.1,Nat.mul_succ],by go_num,hkM',?_,HJ3.1,HB1.1,HB2.1⟩;rw[Q9,Hpre.1,JU];rfl
     case measure=>simp[intOf];omega
    ·gi_wp2_with fail
     refine bodyPost_ret (results_none rfl _ _ _) rfl ?_;exact⟨⟨_,rfl⟩,.inr ⟨_,trivial,hJx3⟩⟩
  ·obtain rfl:k=M:=by
    rcases Jo k M with h|h
    ·exfalso
     have h1:q*(k+1)≤q*M:=Nat.mul_le_mul_left q h;rw[Nat.mul_succ]at h1;have:=HM2.1;have:=Hp.1;omega
    ·omega
   have hge:¬((p:Int)<(L:Int)):=by omega
   gi_wp2_with fail
   go_end0
   exact⟨⟨_,rfl⟩,.inl ⟨pre,Hpre.1,HJs.1⟩⟩
theorem qf6(m:Nat)(hm:3≤m)(b c q L M bs bn n₀:Nat)(hq:1≤q)(hq2:q≤1000)(hN:L≤1000000000)(hc:L≤c)(hM:M=(L+q-1)/q)(w:World)
 (hbs:Boxed w bs 28 (.slice (some ⟨b,0,none⟩) L c))(hbn:Boxed w bn 3 (.int .i64 (q:Int))):
 SeqStopsK Fence.wide m prog 131 #[.pointer (some ⟨bs,0,none⟩),.pointer (some ⟨bn,0,none⟩)] (fun x:Cj L q=>QG b q L x) (KpC n₀ bs bn) (fun ys=>ys.map Jj=Q6 M) (fun _=>True) M w:=fun l J Jx W hW hJ _ hY h0=>
 qld m hm b c q L M l bs bn n₀ hq hq2 hN hc hM J Jx W hJ hY (zQ hbs hW) (zQ hbn hW) h0
attribute [local go_sem] Ze
section
variable{W W':World}{row:Option Nat}
theorem qjY{α:Type}{f:α→Value}{g:Nat}{T:TypeId}{xs:List α}(h:Arr f W g T xs)(hg:W.grownBy W' row)(hr:∀r,row=some r→∃o:Obj,W.heap[r]?=some o∧o.isCells=false):Arr f W' g T xs:=
 h.grown hg (fun e=>by
  obtain⟨o,ho,hn⟩:=hr g e.symm;have:W.heap[g]?=some (.cells (xs.map f).toArray T (0,0)):=h;rw[this]at ho;cases ho;cases hn)
theorem qmU{g:Nat}{T:TypeId}{v:Value}(h:Boxed W g T v)(hg:W.grownBy W' row)(hr:∀r,row=some r→∃o:Obj,W.heap[r]?=some o∧o.isCells=false):Boxed W' g T v:=
 h.kept hg (fun e=>by
  obtain⟨o,ho,hn⟩:=hr g e.symm;have:W.heap[g]?=some (.cells #[v] T (0,0)):=h;rw[this]at ho;cases ho;cases hn)
theorem qoQ{α:Type}{f:α→Value}{B E:Nat}{v:Value}{xs:List α}(h:Own f W B E v xs)(hg:W.grownBy W' row)(hr:∀r,row=some r→∃o:Obj,W.heap[r]?=some o∧o.isCells=false):Own f W' B E v xs:=
 h.kept' hg (fun g e hv=>by
  obtain⟨o,ho,hc⟩:=hr g e;rcases h.2 with⟨rfl,_⟩|⟨g',cap,cur,rfl,_,hg',_⟩
  ·cases hv
  ·obtain rfl:g'=g:=by simpa[Value.ownBlock]using hv
   rw[hg']at ho;cases ho;cases hc)
end
theorem qf7{α β:Type}{f:α→Value}{f':β→Value}{w:World}{g T B e:Nat}{ys:List β}{v:Value}{xs:List α}(h:Arr f' w g T ys)(hte:T≠e)(hr:Own f w B e v xs):some g≠v.ownBlock:=by
 rcases hr.2 with⟨rfl,_⟩|⟨g',cap,cur,rfl,_,hgb,_⟩
 ·simp[Value.ownBlock]
 ·intro e'
  obtain rfl:g=g':=by simpa[Value.ownBlock]using e'
  have:w.heap[g]?=some (.cells (ys.map f').toArray T (0,0)):=h;rw[this]at hgb;cases hgb;exact hte rfl
theorem qf8(m:Nat)(hm:3≤m)(A:Option Addr)(b c q bs bn n₀:Nat)(w:World)
 (hbs:Boxed w bs 28 (.slice A 0 c))(hbn:Boxed w bn 3 (.int .i64 (q:Int))):
 SeqStopsK Fence.wide m prog 131 #[.pointer (some ⟨bs,0,none⟩),.pointer (some ⟨bn,0,none⟩)] (fun x:Cj 0 q=>QG b q 0 x) (KpC n₀ bs bn) (fun ys=>ys.map Jj=Q6 0) (fun _=>True) 0 w:=fun l J Jx W hW hJ _ hY h0=>by
 have hbs:=zQ hbs hW;have hbn:=zQ hbn hW;clear hW;refine callsIn_of_wp func131 rfl trivial ?_ rfl;simp only[ntmps131,Jh,Jr,JE,JI,Nat.reduceSub,Zi,Zj,Zk,Zl,Ji,JL];have H0:=qe h0;have HBs:=qe hbs;have hm1:1≤m:=by omega
 have hm2:1≤m-1:=by omega
 clear hJ hY h0 hbs hbn;gi_wp2_with fail
 gi_loopw [4] (fun v wr=>v= .int .i64 0∧J [] wr∧Boxed wr bs 28 (.slice A 0 c)) (fun v _=>0)
 case atStart=>exact⟨rfl,H0.1,HBs.1⟩
 case round=>
  obtain⟨rfl,hJs,hbs⟩:=hrel;have cs:=hbs.cell;gi_wp2_with fail
  go_end0
  exact⟨⟨_,rfl⟩,.inl ⟨[],rfl,hJs⟩⟩
attribute [local go_sem] Ze
def qjZ(key text:qf)(h:BitVec 64×BitVec 64×BitVec 64)(k:Nat):BitVec 64×BitVec 64×BitVec 64:=
 yb (uT h (zq (j5 (qO text k))) (zq ((j5 (qO text k)).drop 8)) (((j5 (qO text k)).getD 16 0#8).setWidth 64)) (r0W key) (r1W key)
def yt(key text:qf)(ks:List Nat):BitVec 64×BitVec 64×BitVec 64:=ks.foldl (qjZ key text) (0#64,0#64,0#64)
theorem qei(key text:qf)(ks:List Nat)(k:Nat):yt key text (ks++ [k])=qjZ key text (yt key text ks) k:=by
 unfold yt;rw[List.foldl_append];exact(Eq.refl (qjZ key text (List.foldl (qjZ key text) (0#64,0#64,0#64) ks) k))
theorem qdd(key text:qf):∀M,kE (yt key text (Q6 M))∧v3 (yt key text (Q6 M)) % prm=ub (rN key) text M
 |0=>by
  have e0:yt key text (Q6 0)=(0#64,0#64,0#64):=rfl;rw[e0];refine⟨by unfold kE;decide,?_⟩;have e:v3 (0#64,0#64,0#64)=0:=rfl;rw[e,Nat.zero_mod,ub]
 |M+1=>by
  have ih:=qdd key text M;rw[JU,qei];exact qiO ih.1 ih.2
theorem qmV(key text:qf)(hk:key.length=32)(h:BitVec 64×BitVec 64×BitVec 64)(hh:h=yt key text (Q6 ((text.length+15)/16))):
 le8 (QA h (zq (key.drop 16)) (zq (key.drop 24))).1++le8 (QA h (zq (key.drop 16)) (zq (key.drop 24))).2=yB key text:=by
 have hf:=qdd key text ((text.length+15)/16);rw[←hh]at hf;have he:=qmF h (zq (key.drop 16)) (zq (key.drop 24)) hf.1;rw[hf.2,qmL key hk]at he;rw[qht,he];exact(Eq.refl (yB key text))
theorem kJ:(prog.info? 92).map (·.size)=some 32:=by kernel_rfl
def qj0(w1:World)(r0 r1:BitVec 64):World:=((w1.alloc (.cells #[.int .u64 0,.int .u64 0,.int .u64 0,.int .u64 (bv r0),.int .u64 (bv r1)] 190)).alloc (.cells #[.pointer (some ⟨w1.heap.size,0,none⟩)] 186)).drew
def qj1(w1:World)(r0 r1:BitVec 64):World:=((w1.alloc (.cells #[.pointer (some ⟨w1.heap.size+1,0,none⟩)] 186)).alloc (.cells #[.int .u64 0,.int .u64 0,.int .u64 0,.int .u64 (bv r0),.int .u64 (bv r1)] 190)).drew
structure qoc(w1 W:World)(gs gp:Nat)(r0 r1:BitVec 64):Prop where
 s:yC W gs (0#64,0#64,0#64) r0 r1
 p:Boxed W gp 186 (.pointer (some ⟨gs,0,none⟩))
 b:Below w1.heap.size w1 W
 z:w1.heap.size≤gs∧w1.heap.size≤gp∧gs≠gp∧gs<W.heap.size∧gp<W.heap.size
theorem qi1(w1:World)(r0 r1:BitVec 64)(gs gp:Nat)(h1:w1.heap.size=gs)(h2:w1.heap.size+1=gp):qoc w1 (qj0 w1 r0 r1) gs gp r0 r1:=by
 subst h1 h2;refine⟨?_,?_,((QK w1.heap.size w1).alloc (QI _) _).alloc (by simp) _|>.drew,by simp[qj0,World.drew];omega⟩
 ·exact Arr.drew (Arr.alloc (Arr.new kR w1 190 [0#64,0#64,0#64,r0,r1]) _)
 ·have:=Boxed.new (w1.alloc (.cells #[.int .u64 0,.int .u64 0,.int .u64 0,.int .u64 (bv r0),.int .u64 (bv r1)] 190)) 186 (.pointer (some ⟨w1.heap.size,0,none⟩))
  rw[QQ]at this;exact this
theorem qi2(w1:World)(r0 r1:BitVec 64)(gs gp:Nat)(h1:w1.heap.size+1=gs)(h2:w1.heap.size=gp):qoc w1 (qj1 w1 r0 r1) gs gp r0 r1:=by
 subst h1 h2;refine⟨?_,?_,((QK w1.heap.size w1).alloc (QI _) _).alloc (by simp) _|>.drew,by simp[qj1,World.drew];omega⟩
 ·exact Arr.drew (Arr.at_size kR 190 [0#64,0#64,0#64,r0,r1] (QQ ..))
 ·exact(Boxed.new w1 186 (.pointer (some ⟨w1.heap.size+1,0,none⟩))).alloc _
structure MkI(gs gp gk go bs bn:Nat)(tv:Value)(key text:qf)(h:BitVec 64×BitVec 64×BitVec 64)(W:World):Prop where
 s:yC W gs h (r0W key) (r1W key)
 p:Boxed W gp 186 (.pointer (some ⟨gs,0,none⟩))
 k:Arr b8 W gk 92 key
 o:Arr b8 W go 147 (QL 16 0#8)
 t:Own b8 W 0 5 tv text
 s':Boxed W bs 28 tv
 n:Boxed W bn 3 (.int .i64 16)
section
variable{gs gp gk go bs bn:Nat}{tv:Value}{key text:qf}{h h':BitVec 64×BitVec 64×BitVec 64}{W W':World}
theorem MkI.own{row:Option Nat}(I:MkI gs gp gk go bs bn tv key text h W)(hg:W.grownBy W' row)(hr:∀r,row=some r→∃o:Obj,W.heap[r]?=some o∧o.isCells=false):MkI gs gp gk go bs bn tv key text h W':=
 ⟨qjY I.s hg hr,qmU I.p hg hr,qjY I.k hg hr,qjY I.o hg hr,qoQ I.t hg hr,qmU I.s' hg hr,qmU I.n hg hr⟩
theorem MkI.step(I:MkI gs gp gk go bs bn tv key text h W)(hs:yC W' gs h' (r0W key) (r1W key))(hg:W.grownBy W' (some gs))(h1:gp≠gs)(h2:gk≠gs)(h3:go≠gs)(h4:bs≠gs)(h5:bn≠gs):MkI gs gp gk go bs bn tv key text h' W':=
 ⟨hs,I.p.kept hg (by simpa using h1),Arr.grown I.k hg (by simpa using h2),Arr.grown I.o hg (by simpa using h3),I.t.kept hg (.inr fun e=>(qf7 I.s (by decide) I.t) e.symm),I.s'.kept hg (by simpa using h4),I.n.kept hg (by simpa using h5)⟩
end
theorem qmW(w:World)(key:qf)(hk:key.length=32)(B b off c n:Nat)(ps:List Pt)(hp:Pts w B b off ps)(hB:B≤w.heap.size)(hn:n=ps.length)(hn2:n≤100000)(text:qf)(hxs:text=ps.flatMap fun p=>p.2)(htot:text.length≤40000000):
 Calls prog 91 #[.agg (key.map b8).toArray,.slice (some ⟨b,off,none⟩) n c] w fun e w'=>e= .returned (.agg ((yB key text).map b8).toArray)∧Below w.heap.size w w':=by
 have HM:=qe (fun h hh=>qmV key text hk h hh);obtain⟨O,hO⟩:∃O,O=yB key text:=⟨_,rfl⟩;rw[←hO]at HM ⊢;have HML:=qe (show O.length=16 by rw[hO];exact qcH _ _);clear hO;have HKl:=qe hk;have HP:=qe hp;have HN:=qe hn;have HX:=qe hxs;have HT:=qe htot;have hbl:b<w.heap.size:=hp.lt;clear hk hp hn hxs htot;refine(callsIn_wide (n:=9)).1 ?_;refine callsIn_of_wp_marks func91 rfl trivial ?_ rfl
 simp only[ntmps91,Jh,Jr,JE,JI,Nat.reduceSub,Zi,Zj,Zk,Zl,Ji,JL];refine wpIn_wide.2 ?_;go_wp2_with fail
 have HK1:=qe (Arr.alloc (Arr.new b8 w 92 key) (.cells ((QL 16 0#8).map b8).toArray 147));have HO1:=qe (Arr.at_size b8 (w:=w.alloc (.cells (key.map b8).toArray 92)) (k:=w.heap.size+1) 147 (QL 16 0#8) (QQ ..));have HB1:=qe (show Below w.heap.size w ((w.alloc (.cells (key.map b8).toArray 92)).alloc (.cells ((QL 16 0#8).map b8).toArray 147))from((QK _ w).alloc (QI _) _).alloc (by simp) _)
 have hz1:((w.alloc (.cells (key.map b8).toArray 92)).alloc (.cells ((QL 16 0#8).map b8).toArray 147)).heap.size=w.heap.size+2:=by simp
 change Code.wp _ _ _ _ ((w.alloc (.cells (key.map b8).toArray 92)).alloc (.cells ((QL 16 0#8).map b8).toArray 147));generalize(w.alloc (.cells (key.map b8).toArray 92)).alloc (.cells ((QL 16 0#8).map b8).toArray 147)=w1 at HK1 HO1 HB1 hz1 ⊢;have hws:w.heap.size+2≤w1.heap.size:=by omega
 clear hz1;have HP1:=qe (HP.1.below HB1.1 hB hbl);obtain⟨x0,hx0⟩:∃x,x=zq key:=⟨_,rfl⟩;obtain⟨x1,hx1⟩:∃x,x=zq (key.drop 8):=⟨_,rfl⟩;have HC0:=qe (show∀W:World,Below w1.heap.size w1 W→Calls prog 113 #[.slice (some ⟨w.heap.size,0,none⟩) 32 32] W fun e w'=>e= .returned (.int .u64 (bv x0))∧W=w' from fun W h=>by rw[hx0];exact qcj W _ _ _ _ _ ((HK1.1.below h (by omega)).rd 0) (HKl.1.symm) (by omega))
 have HC1:=qe (show∀W:World,Below w1.heap.size w1 W→Calls prog 113 #[.slice (some ⟨w.heap.size,8,none⟩) 24 24] W fun e w'=>e= .returned (.int .u64 (bv x1))∧W=w' from fun W h=>by rw[hx1];exact qcj W _ _ _ _ _ ((HK1.1.below h (by omega)).rd 8) (by rw[Jf,HKl.1]) (by omega));have HR0:=qe (show x0&&&1152921487695413247#64=r0W key by rw[hx0];exact(Eq.refl (r0W key)));have HR1:=qe (show x1&&&1152921487695413244#64=r1W key by rw[hx1];exact(Eq.refl (r1W key)))
 clear hx0 hx1;have tok1:True:=trivial;go_region_held3 (fun _=>True) (trivial)
  (first
   |(go_simp;go_at_call 113;have _t:=tok1;clear tok1;refine(HC0.1 _ (by(repeat' (first|assumption|exact QK _ _|refine Below.drew ?_|refine Below.alloc ?_ ?_ _|omega|(simp;done)|(simp;omega))))).mono ?_;rintro e w' ⟨rfl,rfl⟩)
   |(go_simp;go_at_call 113;refine(HC1.1 _ (by(repeat' (first|assumption|exact QK _ _|refine Below.drew ?_|refine Below.alloc ?_ ?_ _|omega|(simp;done)|(simp;omega))))).mono ?_;rintro e w' ⟨rfl,rfl⟩))
 all_goals
  first
  |(change Exit.then _ _ _ _ (qj0 w1 _ _);generalize hgp:w1.heap.size+1=gp;generalize hgs:w1.heap.size=gs;have hm:=qi1 w1 (x0&&&1152921487695413247#64) (x1&&&1152921487695413244#64) gs gp hgs hgp;generalize qj0 w1 (x0&&&1152921487695413247#64) (x1&&&1152921487695413244#64)=w2 at hm ⊢)
  |(change Exit.then _ _ _ _ (qj1 w1 _ _);generalize hgs:w1.heap.size+1=gs;generalize hgp:w1.heap.size=gp;have hm:=qi2 w1 (x0&&&1152921487695413247#64) (x1&&&1152921487695413244#64) gs gp hgs hgp;generalize qj1 w1 (x0&&&1152921487695413247#64) (x1&&&1152921487695413244#64)=w2 at hm ⊢)
  rw[HR0.1,HR1.1]at hm;have HS2:=qe hm.s;have HP2:=qe hm.p;have HB2:=qe (HB1.1.trans (hm.b.mono HB1.1.size));have HPt2:=qe (HP1.1.below hm.b (by omega) (by omega));have HK2:=qe (HK1.1.below hm.b (by omega));have HO2:=qe (HO1.1.below hm.b (by omega));obtain⟨zs1,zs2,zs3,zs4,zs5⟩:=hm.z;clear hm hgs hgp;try clear _t
  go_wp2_with fail
  refine(qam w2 B b off c n ps HPt2.1 (by have:=HB2.1.size;omega) HN.1 hn2 (by rw[←HX.1];have:=HT.1;omega)).mono ?_;rw[←HX.1];rintro e w3 ⟨v3,rfl,ho3,hb3⟩;obtain⟨L,hL⟩:∃L,L=text.length:=⟨_,rfl⟩;obtain⟨A3,c3,rfl,-,hA3,hc3,hm3⟩:=ho3.shape' hL.symm;have HS3:=qe (Arr.below HS2.1 hb3 zs4:yC w3 gs _ _ _);have HP3:=qe (zQ HP2.1 hb3);have HK3:=qe (HK2.1.below hb3 (by omega));have HO3:=qe (HO2.1.below hb3 (by omega))
  have HB3:=qe (HB2.1.trans (hb3.mono HB2.1.size));have HT3:=qe ho3;have hz3:=hb3.size;have HL:=qe hL;have hLb:L≤40000000:=by rw[hL];exact HT.1
  obtain⟨b3,hb3e⟩:∃b3:Nat,0<L→A3=some ⟨b3,0,none⟩:=by
   by_cases h0:0<L
   ·obtain⟨g,cap,e,-,-,-⟩:=ho3.form' hL.symm h0
    cases e;exact⟨g,fun _=>rfl⟩
   ·exact⟨0,fun h=>absurd h h0⟩
  have HA3:=qe hb3e;clear ho3 hA3 hb3 hL hb3e HS2 HP2 HK2 HO2 HB2 HPt2;have hch:=qeR A3 L c3 16 (by omega) (by omega) w3;have HCh:=qe (show Calls prog 114 #[.slice A3 L c3,.int .i64 16] w3 _ from hch);clear hch;go_wp2_with fail
  refine HCh.1.mono ?_;rintro e w4 ⟨rfl,rfl⟩;go_wp2_with fail
  obtain⟨M,hM⟩:∃M,M=(L+15)/16:=⟨_,rfl⟩;have HMe:=qe (show M=(text.length+15)/16 by rw[hM,HL.1]);generalize hW4:QY (QY w3 _) _=W4;have hI4:MkI gs gp w.heap.size (w.heap.size+1) w3.heap.size (w3.heap.size+1) (.slice A3 L c3) key text (yt key text ([]:List Nat)) W4∧Below w.heap.size w W4∧W4.heap.size=w3.heap.size+2:=by
   rw[←hW4];refine⟨⟨(Arr.alloc HS3.1 _).alloc _,(HP3.1.alloc _).alloc _,(HK3.1.alloc _).alloc _,(HO3.1.alloc _).alloc _,((HT3.1.less (Nat.zero_le _)).alloc _).alloc _,?_,?_⟩,?_,by simp⟩
   ·exact(Boxed.new w3 28 _).alloc _
   ·have:=Boxed.new (w3.alloc (.cells #[.slice A3 L c3] 28)) 3 (.int .i64 16)
    rw[QQ]at this;exact this
   ·exact(HB3.1.alloc (HB3.1.size) _).alloc (by have:=HB3.1.size;simp;omega) _
  obtain⟨hI4,hB4,hz4⟩:=hI4;have hst:SeqStopsK Fence.wide 8 prog 131 #[.pointer (some ⟨w3.heap.size,0,none⟩),.pointer (some ⟨w3.heap.size+1,0,none⟩)] (fun x:Cj L 16=>QG b3 16 L x) (KpC w.heap.size w3.heap.size (w3.heap.size+1)) (fun ys=>ys.map Jj=Q6 M) (fun _=>True) M W4:=by
   by_cases h0:0<L
   ·have hs':=hI4.s'
    rw[HA3.1 h0]at hs';exact qf6 8 (by omega) b3 c3 16 L M w3.heap.size (w3.heap.size+1) w.heap.size (by omega) (by omega) (by omega) hc3 (by omega) W4 hs' hI4.n
   ·obtain rfl:L=0:=by omega
    obtain rfl:M=0:=by omega
    exact qf8 8 (by omega) A3 b3 c3 16 w3.heap.size (w3.heap.size+1) w.heap.size W4 hI4.s' hI4.n
  have HI4:=qe hI4;have HB4:=qe hB4;have HZ4:=qe hz4;have HSt:=qe hst;have hwz:w.heap.size+2≤w1.heap.size:=hws;have hzz:w1.heap.size≤w3.heap.size:=by omega
  clear hW4 HS3 HP3 HK3 HO3 HT3 HB3 HCh hI4 hB4 hz4 hst hM;refine(wpIn_wide (n:=9)).1 ?_;refine wpIn_rangeFunc_ownF rfl (by omega) (gf:=131) (lb:= #[.pointer (some ⟨w3.heap.size,0,none⟩),.pointer (some ⟨w3.heap.size+1,0,none⟩)]) rfl trivial (enters_of func131 (by kernel_rfl) rfl)
   HSt.1
   KpC.t (fun W l o o' hl ho hc hw=>⟨(QK _ W).grown (grownBy_putObj' W l o') (by have:=(Zm.1 ho).1;have:=HZ4.1;omega) (fun k e=>by cases e;have:=HZ4.1;omega),World.putObj_heap_other (by have:=HZ4.1;omega),World.putObj_heap_other (by have:=HZ4.1;omega)⟩) (QK _ _) (fun _=>rfl)
   (fun pre W=>MkI gs gp w.heap.size (w.heap.size+1) w3.heap.size (w3.heap.size+1) (.slice A3 L c3) key text (yt key text (pre.map Jj)) W∧Below w.heap.size w W)
   (fun _ _ _=>False)
   (OwnFrom.and (Go.Own.from (fun s A' B' row hs hg hr=>hs.own hg hr) _) (ownFrom_below (QI _) (by have:=HZ4.1;omega)))
   (fun c s A' B' row hs hg hr=>hs)
   ⟨HI4.1,HB4.1⟩
   (fun x=> {tmps:= #[.agg (key.map b8).toArray,.slice (some ⟨b,off,none⟩) n c,.pointer (some ⟨w.heap.size,0,none⟩),undef,.pointer (some ⟨w.heap.size+1,0,none⟩),.pointer (some ⟨gp,0,none⟩),.slice (some ⟨b3,16*x.1,none⟩) (min 16 (L-16*x.1)) (min 16 (L-16*x.1)),.slice (some ⟨w.heap.size,0,none⟩) 32 32,.int .u64 (bv x0),.int .u64 (bv (x0&&&1152921487695413247#64)),.slice (some ⟨w.heap.size,8,none⟩) 24 24,.int .u64 (bv x1),.int .u64 (bv (x1&&&1152921487695413244#64)),.agg #[.int .u64 0,.int .u64 0,.int .u64 0,.int .u64 (bv (x0&&&1152921487695413247#64)),.int .u64 (bv (x1&&&1152921487695413244#64))],.pointer (some ⟨gs,0,none⟩),.slice (some ⟨b,off,none⟩) n c,.slice A3 L c3,.func (.func 131) #[] #[.pointer (some ⟨w3.heap.size,0,none⟩),.pointer (some ⟨w3.heap.size+1,0,none⟩)],.slice (some ⟨b3,16*x.1,none⟩) (min 16 (L-16*x.1)) (min 16 (L-16*x.1)),undef,undef,undef,undef,undef,undef],defers:=[]}) ?_ ?_ ?_ ?_
  ·
   intro l x W K hK;simp only[QG,List.zip_toArray,List.zip_cons_cons,List.zip_nil_right,List.zip_nil_left,List.foldl_toArray',List.foldl_toArray,List.foldl_cons,List.foldl_nil,qj,qz,qv]
   gi_wp2
   exact hK
  ·
   rintro l pre x W ⟨hI,hB⟩ hN;have hx:=x.2;obtain⟨k,hk⟩:∃k,k=x.1:=⟨_,rfl⟩;obtain⟨q,hq⟩:∃q,q=16*k:=⟨_,rfl⟩;obtain⟨P,hP⟩:∃P,P=min 16 (L-q):=⟨_,rfl⟩;have HKx:=qe hk;rw[←hk]at hx;have e3:=HA3.1 (by omega);obtain⟨p0,p1,p2,hp⟩:∃p0 p1 p2,yt key text (pre.map Jj)=(p0,p1,p2):=⟨_,_,_,rfl⟩;have hadd:=qmT W gs p0 p1 p2 (r0W key) (r1W key) (by have:=hI.s;rw[hp]at this;exact this) W.heap.size P P (some ⟨b3,q,none⟩) (qO text k) (by
    have h:=(hI.t.rd.drop q).take 16;have e:qO text k=(text.drop q).take 16:=by unfold qO;rw[hq]
    rw[e];have eA:(Addr.mk b3 0 none).add q=⟨b3,q,none⟩:=by by_cases h:q=0<;>simp[Addr.add,h]
    rw[e3,Option.map_some,eA]at h;exact h) (QI _) (by unfold qO;rw[List.length_take,Jf,←HL.1];omega) (by omega)
   have hsn:=qei key text (pre.map Jj) k;rw[hp]at hsn;have HA:=qe (show Calls prog 115 #[.pointer (some ⟨gs,0,none⟩),.slice (some ⟨b3,q,none⟩) P P] W fun e w'=>(∃v,e= .returned v)∧yC w' gs (yt key text (pre.map Jj++ [k])) (r0W key) (r1W key)∧W.grownBy w' (some gs)from hadd.mono fun e w' h=>⟨h.1,by rw[hsn];exact h.2.1,h.2.2⟩);have HI:=qe hI;have HB:=qe hB;have cp:=hI.p.cell
   simp only[←hk,←hq,←hP];clear hI hB hp hadd hsn hx hk hP hq e3 hN;gi_wp2_with fail
   refine⟨trivial,?_⟩;refine(CallsIn.inRound l (callsIn_wide.2 HA.1)).mono ?_;rintro e W2 ⟨⟨v,rfl⟩,hs2,hg2⟩;have HS2:=qe hs2;have HG2:=qe hg2;have hz2:=hg2.size;clear hs2 hg2;gi_wp2_with fail
   have hbw:Below w.heap.size W W2:=(QK _ W).grown HG2.1 HB.1.size (fun k e=>by cases e;omega);have hi2:=HI.1.step HS2.1 HG2.1 (by omega) (by omega) (by omega) (by omega) (by omega);refine⟨?_,⟨hbw,HG2.1.block _ HI.1.s'.lt (by simp;omega),HG2.1.block _ HI.1.n.lt (by simp;omega)⟩,?_,HB.1.trans hbw⟩
   ·refine KeepsOthers.of_grownBy HG2.1 (fun j o e ho=>?_)
    cases e;have:W.heap[gs]?=some (.cells _ _ (0,0)):=HI.1.s;rw[this]at ho;cases ho;rfl
   ·rw[Q9,List.map_cons,List.map_nil,←HKx.1];exact hi2
  ·
   rintro D ys W hD hys ⟨hI,hB⟩ hK;rw[hys]at hI;obtain⟨p0,p1,p2,hp⟩:∃p0 p1 p2,yt key text (Q6 M)=(p0,p1,p2):=⟨_,_,_,rfl⟩;have HMk:=qe (HM.1 (p0,p1,p2) (by rw[←HMe.1,hp]));rw[hp]at hI;have HI:=qe hI;have HB:=qe hB;have HK:=qe hK;have cp:=hI.p.cell;clear hI hB hK hp hys;go_wp2_with (refine qm rfl 92 (.tmp 2) rfl w.heap.size rfl _ key HI.1.k _ underlying92 rfl (by rw[HKl.1];exact kJ) ?_)
   have hE:=qhE W gs p0 p1 p2 (r0W key) (r1W key) HI.1.s key HKl.1;rw[HMk.1]at hE;have HE:=qe hE;clear hE;refine HE.1.mono ?_;rintro e W2 ⟨rfl,hb2⟩;have hDl:D<W.heap.size:=(Zm.1 HK.1).1;have hK2:W2.heap[D]?=some (.deferred (some [])):=(hb2.block D hDl).trans HK.1;have HO2:=qe (HI.1.o.below hb2 (by have:=HI.1.o.lt;omega));have HB2:=qe (HB.1.trans (hb2.mono HB.1.size))
   have hDz:D≠w.heap.size+1:=by have:=HZ4.1;omega
   have hDw:w.heap.size≤D:=by have:=HZ4.1;omega
   have HK2:=qe hK2;clear hb2 HE hK2 HI HB HK;go_wp2_with (refine qk rfl 147 (.tmp 4) (.tmp 24) rfl (w.heap.size+1) rfl O rfl _ _ HO2.1 (by rw[HML.1];rfl) (by rw[yJ,HML.1]) qU ?_;intro w9 hx9 hg9)
   have hK9:w9.heap[D]?=some (.deferred (some [])):=(hg9.block D (Zm.1 HK2.1).1 (by simpa using hDz)).trans HK2.1;have hb9:Below w.heap.size w w9:=HB2.1.grown hg9 HB2.1.size (fun k e=>by cases e;omega);refine⟨by simp,.inl ⟨_,_,rfl,run_takeDeferred hK9,?_⟩⟩;have hx10:=qjY hx9 (grownBy_putObj' _ D (.deferred none)) (fun r e=>by cases e;exact⟨_,hK9,rfl⟩);refine⟨_,qY (g:=w.heap.size+1) rfl _ _ _ _ _ rfl hx10 underlying147 rfl (by rw[yJ,HML.1]),?_,?_⟩
   ·rfl
   ·exact hb9.trans (belowK_b (w:=w) (QI _) _ D _ _ hDw hK9 rfl rfl)
  ·rintro D c' pre W hD hpre h hK
   exact h.elim
theorem qG{w w':World}{g o:Nat}{vs:List Value}(hb:Below w.heap.size w w')(hg:w.heap.size≤g):Below w.heap.size w (w'.setCells g o vs):=by
 induction vs generalizing w' o with
 |nil=>exact hb
 |cons v r ih=>exact ih (hb.setCell (p:=⟨g,o,none⟩) hg v)
def PZ(W:World)(g:Nat):Prop:=Arr b8 W g 147 (QL 16 0#8)
theorem qf9{w:World}{g:Nat}{cs:Array Value}(hg:g=w.heap.size)(hc:cs=((QL 16 0#8).map b8).toArray):PZ (w.alloc (.cells cs 147)) g:=by subst hg hc;exact Arr.new b8 w _ _
theorem qoR{w:World}{g:Nat}{o:Obj}(h:PZ w g):PZ (w.alloc o) g:=Arr.alloc h o
theorem zZ{w w':World}{g:Nat}(hb:Below w.heap.size w w')(h:PZ w g):PZ w' g:=Arr.below h hb (Arr.lt h)
theorem kr{w:World}{g:Nat}{Y:List Value}(h:PZ w g)(hY:Y.length=16):w.there g 0 Y.length:=Arr.there h (by rw[hY];simp)
theorem uk{w:World}{g:Nat}{Y:List Value}{ts:qf}(h:PZ w g)(hY:Y=ts.map b8)(hl:ts.length=16):Arr b8 (w.setCells g 0 Y) g 147 ts:=by
 subst hY;exact(zA (f:=b8) ts [] (QL 16 0#8) w (by rw[hl];rfl) h).1
theorem yf{w:World}{g:Nat}(hg:g=w.heap.size):PZ (w.alloc (.cells #[.int .u8 0,.int .u8 0,.int .u8 0,.int .u8 0,.int .u8 0,.int .u8 0,.int .u8 0,.int .u8 0,.int .u8 0,.int .u8 0,.int .u8 0,.int .u8 0,.int .u8 0,.int .u8 0,.int .u8 0,.int .u8 0] 147)) g=True:=eq_true (qf9 hg rfl)
theorem yV{w:World}{g:Nat}{o:Obj}(h:PZ w g):PZ (w.alloc o) g=True:=eq_true (qoR h)
theorem yW{w:World}{g:Nat}:PZ w.drew g=PZ w g:=rfl
theorem qnQ:(prog.info? 157).map (·.size)=some 64:=by kernel_rfl
theorem qfc(w:World)(key:qf)(hk:key.length=32)(A C T:Option Addr)(n c l cc m d Bn Bc Bm:Nat)(nonce ctx mixed:qf)
 (hrn:Rd b8 w Bn A nonce)(hBn:Bn≤w.heap.size)(hn:nonce.length=n)(h12:n=12)(hnc:n≤c)
 (hrc:Rd b8 w Bc C ctx)(hBc:Bc≤w.heap.size)(hl:ctx.length=l)(hlb:l≤1100000)
 (hrm:Rd b8 w Bm T mixed)(hBm:Bm≤w.heap.size)(hm:mixed.length=m)(hmb:m≤1100000):
 Calls prog 60 #[jL b8 key,.slice A n c,.slice C l cc,.slice T m d] w fun e w'=>∃g,e= .returned (.tuple #[.slice (some ⟨g,0,none⟩) 16 16,.nilIface])∧w.heap.size≤g∧Arr b8 w' g 147 (uc key nonce ctx mixed)∧Below w.heap.size w w':=by
 subst h12;have HK:=qe hk;have HN:=qe hn;have HL:=qe hl;have HM:=qe hm;have HRn:=qe (hrn.more hBn);have HRc:=qe (hrc.more hBc);have HRm:=qe (hrm.more hBm);clear hk hn hl hm hrn hrc hrm hBn hBc hBm;rw[qn];go_enter func60,ntmps60
 have HK1:=qe (Arr.new b8 w 92 key);have HB1:=qe (show Below w.heap.size w (w.alloc (.cells (key.map b8).toArray 92))from(QK _ w).alloc (QI _) _);have hz1:w.heap.size<(w.alloc (.cells (key.map b8).toArray 92)).heap.size:=by simp
 go_wp2_with (refine qm rfl 92 (.tmp 4) rfl w.heap.size rfl _ key HK1.1 _ underlying92 rfl (by rw[HK.1];exact kJ) ?_)
 have hpc:=qbG key A 12 c w.heap.size nonce 0 (w.alloc (.cells (key.map b8).toArray 92)) HK.1 (HRn.1.alloc (QI _) _) (by simp) HN.1 hnc;rw[show zy 12 0=0 from rfl,qW,qn,qn]at hpc;have HPc:=qe hpc;have HBl:=qe (kF key nonce 0);have HZk:=qe (show zN key nonce=(j0 key nonce 0).take 32 from by unfold zN;exact(Eq.refl ((j0 key nonce 0).take 32)))
 generalize j0 key nonce 0=BL at HPc HBl HZk;clear hpc;refine HPc.1.mono ?_;rintro e w2 ⟨rfl,hb2⟩;have hz2:=hb2.size;have HB2:=qe (HB1.1.trans (hb2.mono (by omega)));have HT2:=qe (Arr.new b8 w2 157 (QL 64 0#8));clear hb2 HPc HB1;go_wp2_with (refine qk rfl 157 (.tmp 10) (.tmp 17) rfl w2.heap.size rfl BL rfl _ _ HT2.1 (by rw[HBl.1];rfl) (by rw[HBl.1];exact qnQ) qU ?_;intro w3 hx3 hg3)
 have hsz3:w2.heap.size<w3.heap.size:=hx3.lt;have hb23:Below w2.heap.size w2 w3:=(((QK w2.heap.size w2).alloc (QI _) (.cells ((QL 64 0#8).map b8).toArray 157)).grown hg3 (by simp) (fun k e=>by cases e;exact QI _));have HB3:=qe (HB2.1.trans (hb23.mono HB2.1.size));obtain⟨Z,hZ⟩:∃Z,Z=(zN key nonce).map b8:=⟨_,rfl⟩;have hZl:Z.length=32:=by rw[hZ,QN,qaw]
 have HR3:=qe (show∀W',Below w3.heap.size w3 W'→W'.rangeAt w2.heap.size 0 Z from fun W' hb=>by
  have h:=(hx3.below hb hsz3).range 0 32;rw[List.drop_zero,←List.map_take,←HZk.1,←hZ]at h;exact h)
 have hk3:=HR3.1 _ (QK _ w3).drew;have hu:=underlying92;have hi32:(prog.info? 92).map (·.size)=some Z.length:=by rw[hZl];exact kJ
 obtain⟨Y,hY⟩:∃Y,Y=(uc key nonce ctx mixed).map b8:=⟨_,rfl⟩;have hYl:Y.length=16:=by rw[hY,QN,jT]
 have hYi:(prog.info? 147).map (·.size)=some Y.length:=by rw[hYl];exact yJ
 have hYo:∀v∈Y,v.oneCell'=true:=by rw[hY];intro v hv;obtain⟨u,-,rfl⟩:=QW.1 hv;exact qH u
 obtain⟨F,hF⟩:∃F,F=zv l:=⟨_,rfl⟩;obtain⟨G,hG⟩:∃G,G=zv m:=⟨_,rfl⟩;have HF:=qe (show∀W:World,Calls prog 92 #[.int .i64 (l:Int)] W fun e w'=>∃g,e= .returned (.slice (some ⟨g,0,none⟩) F F)∧Own b8 w' W.heap.size 5 (.slice (some ⟨g,0,none⟩) F F) (QL F 0#8)∧Below W.heap.size W w' from fun W=>by rw[hF];exact qhC l (by omega) W);have HG:=qe (show∀W:World,Calls prog 92 #[.int .i64 (m:Int)] W fun e w'=>∃g,e= .returned (.slice (some ⟨g,0,none⟩) G G)∧Own b8 w' W.heap.size 5 (.slice (some ⟨g,0,none⟩) G G) (QL G 0#8)∧Below W.heap.size W w' from fun W=>by rw[hG];exact qhC m (by omega) W)
 obtain⟨N1,hN1⟩:∃N1,N1=BitVec.ofNat 64 l:=⟨_,rfl⟩;obtain⟨N2,hN2⟩:∃N2,N2=BitVec.ofNat 64 m:=⟨_,rfl⟩;have HMk:=qe (show∀(W8 W:World) (g g5 g6 c7 c8:Nat) (A7 A8:Option Addr),Below w3.heap.size w3 W8→Rd b8 W8 W8.heap.size (some ⟨g5,0,none⟩) (QL F 0#8)→Rd b8 W8 W8.heap.size (some ⟨g6,0,none⟩) (QL G 0#8)→Rd b8 W8 W8.heap.size A7 (le8 N1)→Rd b8 W8 W8.heap.size A8 (le8 N2)→Below W8.heap.size W8 W→PAs W g [(C,l,cc),(some ⟨g5,0,none⟩,F,F),(T,m,d),(some ⟨g6,0,none⟩,G,G),(A7,8,c7),(A8,8,c8)]→
  Calls prog 91 #[.agg Z.toArray,.slice (some ⟨g,0,none⟩) 6 6] W fun e w'=>e= .returned (.agg Y.toArray)∧Below W.heap.size W w'∧Below w3.heap.size w3 w' from fun W8 W g g5 g6 c7 c8 A7 A8 hb3 h5 h6 h7 h8 hbw hp=>by
  have hbw':Below W8.heap.size W8 W:=hbw;have hs:=hbw.size;have hs3:=hb3.size;have hs0:=HB3.1.size;have rc:=(((HRc.1.below HB3.1).below (hb3.mono hs0)).below (hbw.mono (by omega))).more (show w.heap.size≤W.heap.size by omega);have rm:=(((HRm.1.below HB3.1).below (hb3.mono hs0)).below (hbw.mono (by omega))).more (show w.heap.size≤W.heap.size by omega);have hlen:∀n,(le8 n).length=8:=za;have ht:=qf5 ctx mixed
  have h:=qmW W (zN key nonce) (qaw _ _) W.heap.size g 0 6 6 _ (qnx (ps:=[((C,l,cc),ctx),((some ⟨g5,0,none⟩,F,F),QL F 0#8),((T,m,d),mixed),((some ⟨g6,0,none⟩,G,G),QL G 0#8),((A7,8,c7),le8 N1),((A8,8,c8),le8 N2)]) hp
   (by simpa using⟨rc,(h5.below hbw).more hs,rm,(h6.below hbw).more hs,(h7.below hbw).more hs,(h8.below hbw).more hs⟩) (by simpa[hlen]using⟨HL.1.symm,HM.1.symm⟩)) (QI _) rfl (by omega) (kq ctx mixed) (by
    unfold kq;rw[HL.1,HM.1,←hF,←hG,←hN1,←hN2];simp) (by rw[HL.1,HM.1]at ht;omega)
  rw[←hZ]at h;refine h.mono ?_;rintro e w' ⟨rfl,hbe⟩;refine⟨?_,hbe,(hb3.trans (hbw.mono hs3)).trans (hbe.mono (by omega))⟩;rw[hY];exact(Eq.refl (Ending.returned (.agg ((yB (zN key nonce) (kq ctx mixed)).map b8).toArray))))
 have HY:=qe hY;have HYl:=qe hYl;clear hYl;have HP1:=qe (show∀W:World,Calls prog 93 #[.int .u64 (IntKind.u64.wrap (l:Int))] W fun e w'=>∃v,e= .returned v∧Own b8 w' W.heap.size 5 v (le8 N1)∧Below W.heap.size W w' from fun W=>by
  have h:=qdq N1 W;rwa[show bv N1=IntKind.u64.wrap (l:Int) by rw[hN1,ve];unfold bv;rw[BitVec.toNat_ofNat];omega]at h)
 have HP2:=qe (show∀W:World,Calls prog 93 #[.int .u64 (IntKind.u64.wrap (m:Int))] W fun e w'=>∃v,e= .returned v∧Own b8 w' W.heap.size 5 v (le8 N2)∧Below W.heap.size W w' from fun W=>by
  have h:=qdq N2 W;rwa[show bv N2=IntKind.u64.wrap (m:Int) by rw[hN2,ve];unfold bv;rw[BitVec.toNat_ofNat];omega]at h)
 have hFb:F≤15:=by rw[hF];unfold zv;omega
 have hGb:G≤15:=by rw[hG];unfold zv;omega
 clear hx3 hg3 hb23 HT2 HB2 hZ hY hF hG hN1 hN2 hZl HRc HRm HRn HL HM HN HK HK1 HZk HBl;have hsa:∀W:World,(Instr.arrayAt 92 (.slice (some ⟨w2.heap.size,0,none⟩) 32 64)).run prog W= .ok (.pointer (some ⟨w2.heap.size,0,none⟩)) W:=fun W=>run_arrayAt W 92 5 32 (some ⟨w2.heap.size,0,none⟩) 32 64 underlying92 (by omega)
 go_wp2_with fail
 refine wp_region_noPanic ?_;refine wp_region_held_drew (S:=fun w'=>w'.rangeAt w2.heap.size 0 Z) (by kernel_rfl) hk3 (fun hS=>?_);refine tkA 0 (.slice (some ⟨w2.heap.size,0,none⟩) 32 64) hS ?_;refine tkA 1 (.pointer (some ⟨w2.heap.size,0,none⟩)) hS ?_;refine tkK 2 (.agg Z.toArray) rfl rfl (yieldsIf_load_mid (by rfl) 92 (.tmp 23) rfl w2.heap.size 0 rfl Z _ (fun _ h=>h) hu rfl hi32) hS ?_;try simp only[QJ,qj,qz,qv]
 refine tkA 3 (.slice C l cc) hS ?_;refine tkA 4 (.slice C l cc) hS ?_;refine tkA 5 (.int .i64 (l:Int)) hS ?_;try simp only[QJ,qj,qz,qv]
 refine tkA 7 (.slice T m d) hS ?_;refine tkA 8 (.slice T m d) hS ?_;refine tkA 9 (.int .i64 (m:Int)) hS ?_;try simp only[QJ,qj,qz,qv]
 refine tkA 11 (.slice C l cc) hS ?_;refine tkA 12 (.int .i64 (l:Int)) hS ?_;refine tkA 13 (.int .u64 (IntKind.u64.wrap (l:Int))) hS ?_;try simp only[QJ,qj,qz,qv]
 refine tkA 15 (.slice T m d) hS ?_;refine tkA 16 (.int .i64 (m:Int)) hS ?_;refine tkA 17 (.int .u64 (IntKind.u64.wrap (m:Int))) hS ?_;try simp only[QJ,qj,qz,qv]
 refine wpAnyH_ready (rs:=[6,21]) (by kernel_rfl) (by simp) (Jm (o:={dst:=some 28,op:=_,type:=_,pos:=_,after:=_,guard:=_}) rfl (fun K' hK=>?_) (Jm (o:={dst:=some 12,op:=_,type:=_,pos:=_,after:=_,guard:=_}) rfl (fun K' hK=>?_) J1))
 ·
  go_simp;go_at_call 92;refine(HF.1 _).mono ?_;rintro e w5 ⟨g5,rfl,ho5,hb5⟩;have HX5:=qe (show Below w3.heap.size w3 w5 from qV (by(repeat(first|(refine qG ?_ (by omega))|exact QK _ _|refine qB ?_|refine qD ?_))) hb5);have hs5:=HX5.1.size;have H55:=qe ho5.rd;clear ho5 hb5;refine hK.out _ _ (HR3.1 _ (by(repeat(first|exact HX5.1|(refine qG ?_ (by omega))|exact QK _ _|refine qB ?_|refine qD ?_)))) (fun hS=>?_)
  clear hK K';try simp only[QJ,qj,qz,qv]
  refine wpAnyH_ready (rs:=[10,21]) (by kernel_rfl) (by simp) (Jm (o:={dst:=some 32,op:=_,type:=_,pos:=_,after:=_,guard:=_}) rfl (fun K' hK=>?_) (Jm (o:={dst:=some 12,op:=_,type:=_,pos:=_,after:=_,guard:=_}) rfl (fun K' hK=>?_) J1))
  ·
   go_simp;go_at_call 92;refine(HG.1 _).mono ?_;rintro e w6 ⟨g6,rfl,ho6,hb6⟩;have HY6:=qe (show Below w5.heap.size w5 w6 from qV (by(repeat(first|(refine qG ?_ (by omega))|exact QK _ _|refine qB ?_|refine qD ?_))) hb6);have HX6:=qe (HX5.1.trans (HY6.1.mono HX5.1.size));have hs6:=HY6.1.size;have H56:=qe ((H55.1.below HY6.1).more HY6.1.size);have H66:=qe ho6.rd
   clear ho6 hb6;refine hK.out _ _ (HR3.1 _ (by(repeat(first|exact HX6.1|(refine qG ?_ (by omega))|exact QK _ _|refine qB ?_|refine qD ?_)))) (fun hS=>?_);clear hK K';try simp only[QJ,qj,qz,qv]
   refine wpAnyH_ready (rs:=[14,21]) (by kernel_rfl) (by simp) (Jm (o:={dst:=some 36,op:=_,type:=_,pos:=_,after:=_,guard:=_}) rfl (fun K' hK=>?_) (Jm (o:={dst:=some 12,op:=_,type:=_,pos:=_,after:=_,guard:=_}) rfl (fun K' hK=>?_) J1))
   ·
    go_simp;go_at_call 93;refine(HP1.1 _).mono ?_;rintro e w7 ⟨v7,rfl,ho7,hb7⟩;obtain⟨A7,c7,rfl,hr7,-,-,-⟩:=ho7.shape' (za _);have HY7:=qe (show Below w6.heap.size w6 w7 from qV (by(repeat(first|(refine qG ?_ (by omega))|exact QK _ _|refine qB ?_|refine qD ?_))) hb7);have HX7:=qe (HX6.1.trans (HY7.1.mono HX6.1.size));have hs7:=HY7.1.size;have H57:=qe ((H56.1.below HY7.1).more HY7.1.size)
    have H67:=qe ((H66.1.below HY7.1).more HY7.1.size);have H77:=qe hr7;clear ho7 hb7 hr7;refine hK.out _ _ (HR3.1 _ (by(repeat(first|exact HX7.1|(refine qG ?_ (by omega))|exact QK _ _|refine qB ?_|refine qD ?_)))) (fun hS=>?_);clear hK K';try simp only[QJ,qj,qz,qv]
    refine wpAnyH_ready (rs:=[18,21]) (by kernel_rfl) (by simp) (Jm (o:={dst:=some 40,op:=_,type:=_,pos:=_,after:=_,guard:=_}) rfl (fun K' hK=>?_) (Jm (o:={dst:=some 12,op:=_,type:=_,pos:=_,after:=_,guard:=_}) rfl (fun K' hK=>?_) J1))
    ·
     go_simp;go_at_call 93;refine(HP2.1 _).mono ?_;rintro e w8 ⟨v8,rfl,ho8,hb8⟩;obtain⟨A8,c8,rfl,hr8,-,-,-⟩:=ho8.shape' (za _);have HY8:=qe (show Below w7.heap.size w7 w8 from qV (by(repeat(first|(refine qG ?_ (by omega))|exact QK _ _|refine qB ?_|refine qD ?_))) hb8);have HX8:=qe (HX7.1.trans (HY8.1.mono HX7.1.size));have hs8:=HY8.1.size;have H58:=qe ((H57.1.below HY8.1).more HY8.1.size)
     have H68:=qe ((H67.1.below HY8.1).more HY8.1.size);have H78:=qe ((H77.1.below HY8.1).more HY8.1.size);have H88:=qe hr8;clear ho8 hb8 hr8;refine hK.out _ _ (HR3.1 _ (by(repeat(first|exact HX8.1|(refine qG ?_ (by omega))|exact QK _ _|refine qB ?_|refine qD ?_)))) (fun hS=>?_);clear hK K';try simp only[QJ,qj,qz,qv]
     refine wpAnyH_ready (rs:=[19,21]) (by kernel_rfl) (by simp) (Jm (o:={dst:=some 41,op:=_,type:=_,pos:=_,after:=_,guard:=_}) rfl (fun K' hK=>?_) (Jm (o:={dst:=some 12,op:=_,type:=_,pos:=_,after:=_,guard:=_}) rfl (fun K' hK=>?_) J1))
     ·
      go_simp;refine hK.out _ _ (HR3.1 _ (by(repeat(first|exact HX8.1|(refine qG ?_ (by omega))|exact QK _ _|refine qB ?_|refine qD ?_)))) (fun hS=>?_);clear hK K';try simp only[QJ,qj,qz,qv]
      refine wpAnyH_ready (rs:=[20,21]) (by kernel_rfl) (by simp) (Jm (o:={dst:=some 42,op:=_,type:=_,pos:=_,after:=_,guard:=_}) rfl (fun K' hK=>?_) (Jm (o:={dst:=some 12,op:=_,type:=_,pos:=_,after:=_,guard:=_}) rfl (fun K' hK=>?_) J1))
      ·
       go_simp;go_at_call 91;refine(HMk.1 w8 _ _ g5 g6 c7 c8 A7 A8 HX8.1 H58.1 H68.1 H78.1 H88.1 ?_ ?_).mono ?_;focus((repeat(first|(refine qG ?_ (by omega))|exact QK _ _|refine qB ?_|refine qD ?_)))
       focus(repeat(first|(refine uY ?_ ?_;(focus(first|rfl|(simp;done)));rfl)|refine yQ ?_|refine yR ?_))
       rintro e w9 ⟨rfl,hb9,hx9⟩;have HX9:=qe hx9;have HY9:=qe (show Below w8.heap.size w8 w9 from qV (by(repeat(first|(refine qG ?_ (by omega))|exact QK _ _|refine qB ?_|refine qD ?_))) hb9);have hs9:=HY9.1.size;clear hb9 hx9;refine hK.out _ _ (HR3.1 _ (by(repeat(first|exact HX9.1|(refine qG ?_ (by omega))|exact QK _ _|refine qB ?_|refine qD ?_)))) (fun hS=>?_)
       clear hK K';try simp only[QJ,qj,qz,qv]
       refine rdH 21 (fun K' hK=>?_);go_simp;refine hK.out _ _ (HR3.1 _ (by(repeat(first|exact HX9.1|(refine qG ?_ (by omega))|exact QK _ _|refine qB ?_|refine qD ?_)))) (fun hS=>?_);clear hK K';try simp only[QJ,qj,qz,qv]
       have HZ:vM (PZ (w9.alloc _) w9.heap.size):=qe (qf9 rfl rfl);refine rdH 22 (fun K' hK=>?_);have hth:=kr HZ.1 HYl.1;rw[if_pos (by rfl)];refine wp_store_mid _ _ _ rfl _ _ (List.toArray _) rfl rfl ?_ ?_ (all_oneCell_toArray (by assumption)) ?_
       ·first|assumption|(simp only[Jh, *]<;>assumption)
       ·first|assumption|(simp only[Jh]<;>assumption)|(simp only[Jh, *])
       simp only[QJ,qj,qz,qv,List.toList_toArray];refine hK.out _ _ (HR3.1 _ (by(repeat(first|exact HX9.1|(refine qG ?_ (by omega))|exact QK _ _|refine qB ?_|refine qD ?_)))) (fun hS=>?_);clear hK K';try simp only[QJ,qj,qz,qv]
       refine wpAnyH_done (by kernel_rfl) ?_ _;refine Q4 ?_;have HF9:=qe (uk HZ.1 HY.1 (jT key nonce ctx mixed));have hs0:=HB3.1.size;go_wp2_with fail
       go_ret2;exact⟨_,rfl,by omega,HF9.1,HB3.1.trans (Below.mono (B:=w3.heap.size) (by(repeat(first|exact HX9.1|(refine qG ?_ (by omega))|exact QK _ _|refine qB ?_|refine qD ?_))) HB3.1.size)⟩
      ·
       go_simp;refine hK.out _ _ (HR3.1 _ (by(repeat(first|exact HX8.1|(refine qG ?_ (by omega))|exact QK _ _|refine qB ?_|refine qD ?_)))) (fun hS=>?_);clear hK K';try simp only[QJ,qj,qz,qv]
       refine rdH 20 (fun K' hK=>?_);go_simp;go_at_call 91;refine(HMk.1 w8 _ _ g5 g6 c7 c8 A7 A8 HX8.1 H58.1 H68.1 H78.1 H88.1 ?_ ?_).mono ?_;focus((repeat(first|(refine qG ?_ (by omega))|exact QK _ _|refine qB ?_|refine qD ?_)))
       focus(repeat(first|(refine uY ?_ ?_;(focus(first|rfl|(simp;done)));rfl)|refine yQ ?_|refine yR ?_))
       rintro e w9 ⟨rfl,hb9,hx9⟩;have HX9:=qe hx9;have HY9:=qe (show Below w8.heap.size w8 w9 from qV (by(repeat(first|(refine qG ?_ (by omega))|exact QK _ _|refine qB ?_|refine qD ?_))) hb9);have hs9:=HY9.1.size;have HZ:vM (PZ w9 (w8.heap.size+1)):=by
        refine qe (zZ hb9 ?_);simp only[yf,yV,yW,QQ]
       clear hb9 hx9;refine hK.out _ _ (HR3.1 _ (by(repeat(first|exact HX9.1|(refine qG ?_ (by omega))|exact QK _ _|refine qB ?_|refine qD ?_)))) (fun hS=>?_);clear hK K';try simp only[QJ,qj,qz,qv]
       refine rdH 22 (fun K' hK=>?_);have hth:=kr HZ.1 HYl.1;rw[if_pos (by rfl)];refine wp_store_mid _ _ _ rfl _ _ (List.toArray _) rfl rfl ?_ ?_ (all_oneCell_toArray (by assumption)) ?_
       ·first|assumption|(simp only[Jh, *]<;>assumption)
       ·first|assumption|(simp only[Jh]<;>assumption)|(simp only[Jh, *])
       simp only[QJ,qj,qz,qv,List.toList_toArray];refine hK.out _ _ (HR3.1 _ (by(repeat(first|exact HX9.1|(refine qG ?_ (by omega))|exact QK _ _|refine qB ?_|refine qD ?_)))) (fun hS=>?_);clear hK K';try simp only[QJ,qj,qz,qv]
       refine wpAnyH_done (by kernel_rfl) ?_ _;refine Q4 ?_;have HF9:=qe (uk HZ.1 HY.1 (jT key nonce ctx mixed));have hs0:=HB3.1.size;go_wp2_with fail
       go_ret2;exact⟨_,rfl,by omega,HF9.1,HB3.1.trans (Below.mono (B:=w3.heap.size) (by(repeat(first|exact HX9.1|(refine qG ?_ (by omega))|exact QK _ _|refine qB ?_|refine qD ?_))) HB3.1.size)⟩
     ·
      go_simp;refine hK.out _ _ (HR3.1 _ (by(repeat(first|exact HX8.1|(refine qG ?_ (by omega))|exact QK _ _|refine qB ?_|refine qD ?_)))) (fun hS=>?_);clear hK K';try simp only[QJ,qj,qz,qv]
      refine rdH 19 (fun K' hK=>?_);go_simp;refine hK.out _ _ (HR3.1 _ (by(repeat(first|exact HX8.1|(refine qG ?_ (by omega))|exact QK _ _|refine qB ?_|refine qD ?_)))) (fun hS=>?_);clear hK K';try simp only[QJ,qj,qz,qv]
      refine rdH 20 (fun K' hK=>?_);go_simp;go_at_call 91;refine(HMk.1 w8 _ _ g5 g6 c7 c8 A7 A8 HX8.1 H58.1 H68.1 H78.1 H88.1 ?_ ?_).mono ?_;focus((repeat(first|(refine qG ?_ (by omega))|exact QK _ _|refine qB ?_|refine qD ?_)))
      focus(repeat(first|(refine uY ?_ ?_;(focus(first|rfl|(simp;done)));rfl)|refine yQ ?_|refine yR ?_))
      rintro e w9 ⟨rfl,hb9,hx9⟩;have HX9:=qe hx9;have HY9:=qe (show Below w8.heap.size w8 w9 from qV (by(repeat(first|(refine qG ?_ (by omega))|exact QK _ _|refine qB ?_|refine qD ?_))) hb9);have hs9:=HY9.1.size;have HZ:vM (PZ w9 (w8.heap.size)):=by
       refine qe (zZ hb9 ?_);simp only[yf,yV,yW,QQ]
      clear hb9 hx9;refine hK.out _ _ (HR3.1 _ (by(repeat(first|exact HX9.1|(refine qG ?_ (by omega))|exact QK _ _|refine qB ?_|refine qD ?_)))) (fun hS=>?_);clear hK K';try simp only[QJ,qj,qz,qv]
      refine rdH 22 (fun K' hK=>?_);have hth:=kr HZ.1 HYl.1;rw[if_pos (by rfl)];refine wp_store_mid _ _ _ rfl _ _ (List.toArray _) rfl rfl ?_ ?_ (all_oneCell_toArray (by assumption)) ?_
      ·first|assumption|(simp only[Jh, *]<;>assumption)
      ·first|assumption|(simp only[Jh]<;>assumption)|(simp only[Jh, *])
      simp only[QJ,qj,qz,qv,List.toList_toArray];refine hK.out _ _ (HR3.1 _ (by(repeat(first|exact HX9.1|(refine qG ?_ (by omega))|exact QK _ _|refine qB ?_|refine qD ?_)))) (fun hS=>?_);clear hK K';try simp only[QJ,qj,qz,qv]
      refine wpAnyH_done (by kernel_rfl) ?_ _;refine Q4 ?_;have HF9:=qe (uk HZ.1 HY.1 (jT key nonce ctx mixed));have hs0:=HB3.1.size;go_wp2_with fail
      go_ret2;exact⟨_,rfl,by omega,HF9.1,HB3.1.trans (Below.mono (B:=w3.heap.size) (by(repeat(first|exact HX9.1|(refine qG ?_ (by omega))|exact QK _ _|refine qB ?_|refine qD ?_))) HB3.1.size)⟩
    ·
     go_simp;refine hK.out _ _ (HR3.1 _ (by(repeat(first|exact HX7.1|(refine qG ?_ (by omega))|exact QK _ _|refine qB ?_|refine qD ?_)))) (fun hS=>?_);clear hK K';try simp only[QJ,qj,qz,qv]
     refine rdH 18 (fun K' hK=>?_);go_simp;go_at_call 93;refine(HP2.1 _).mono ?_;rintro e w8 ⟨v8,rfl,ho8,hb8⟩;obtain⟨A8,c8,rfl,hr8,-,-,-⟩:=ho8.shape' (za _);have HY8:=qe (show Below w7.heap.size w7 w8 from qV (by(repeat(first|(refine qG ?_ (by omega))|exact QK _ _|refine qB ?_|refine qD ?_))) hb8);have HX8:=qe (HX7.1.trans (HY8.1.mono HX7.1.size));have hs8:=HY8.1.size
     have H58:=qe ((H57.1.below HY8.1).more HY8.1.size);have H68:=qe ((H67.1.below HY8.1).more HY8.1.size);have H78:=qe ((H77.1.below HY8.1).more HY8.1.size);have H88:=qe hr8;have HZ:vM (PZ w8 (w7.heap.size)):=by
      refine qe (zZ hb8 ?_);simp only[yf,yV,yW,QQ]
     clear ho8 hb8 hr8;refine hK.out _ _ (HR3.1 _ (by(repeat(first|exact HX8.1|(refine qG ?_ (by omega))|exact QK _ _|refine qB ?_|refine qD ?_)))) (fun hS=>?_);clear hK K';try simp only[QJ,qj,qz,qv]
     refine rdH 19 (fun K' hK=>?_);go_simp;refine hK.out _ _ (HR3.1 _ (by(repeat(first|exact HX8.1|(refine qG ?_ (by omega))|exact QK _ _|refine qB ?_|refine qD ?_)))) (fun hS=>?_);clear hK K';try simp only[QJ,qj,qz,qv]
     refine rdH 20 (fun K' hK=>?_);go_simp;go_at_call 91;refine(HMk.1 w8 _ _ g5 g6 c7 c8 A7 A8 HX8.1 H58.1 H68.1 H78.1 H88.1 ?_ ?_).mono ?_;focus((repeat(first|(refine qG ?_ (by omega))|exact QK _ _|refine qB ?_|refine qD ?_)))
     focus(repeat(first|(refine uY ?_ ?_;(focus(first|rfl|(simp;done)));rfl)|refine yQ ?_|refine yR ?_))
     rintro e w9 ⟨rfl,hb9,hx9⟩;have HX9:=qe hx9;have HY9:=qe (show Below w8.heap.size w8 w9 from qV (by(repeat(first|(refine qG ?_ (by omega))|exact QK _ _|refine qB ?_|refine qD ?_))) hb9);have hs9:=HY9.1.size;have HZ:=qe (zZ HY9.1 HZ.1);clear hb9 hx9;refine hK.out _ _ (HR3.1 _ (by(repeat(first|exact HX9.1|(refine qG ?_ (by omega))|exact QK _ _|refine qB ?_|refine qD ?_)))) (fun hS=>?_)
     clear hK K';try simp only[QJ,qj,qz,qv]
     refine rdH 22 (fun K' hK=>?_);have hth:=kr HZ.1 HYl.1;rw[if_pos (by rfl)];refine wp_store_mid _ _ _ rfl _ _ (List.toArray _) rfl rfl ?_ ?_ (all_oneCell_toArray (by assumption)) ?_
     ·first|assumption|(simp only[Jh, *]<;>assumption)
     ·first|assumption|(simp only[Jh]<;>assumption)|(simp only[Jh, *])
     simp only[QJ,qj,qz,qv,List.toList_toArray];refine hK.out _ _ (HR3.1 _ (by(repeat(first|exact HX9.1|(refine qG ?_ (by omega))|exact QK _ _|refine qB ?_|refine qD ?_)))) (fun hS=>?_);clear hK K';try simp only[QJ,qj,qz,qv]
     refine wpAnyH_done (by kernel_rfl) ?_ _;refine Q4 ?_;have HF9:=qe (uk HZ.1 HY.1 (jT key nonce ctx mixed));have hs0:=HB3.1.size;go_wp2_with fail
     go_ret2;exact⟨_,rfl,by omega,HF9.1,HB3.1.trans (Below.mono (B:=w3.heap.size) (by(repeat(first|exact HX9.1|(refine qG ?_ (by omega))|exact QK _ _|refine qB ?_|refine qD ?_))) HB3.1.size)⟩
   ·
    go_simp;refine hK.out _ _ (HR3.1 _ (by(repeat(first|exact HX6.1|(refine qG ?_ (by omega))|exact QK _ _|refine qB ?_|refine qD ?_)))) (fun hS=>?_);clear hK K';try simp only[QJ,qj,qz,qv]
    refine rdH 14 (fun K' hK=>?_);go_simp;go_at_call 93;refine(HP1.1 _).mono ?_;rintro e w7 ⟨v7,rfl,ho7,hb7⟩;obtain⟨A7,c7,rfl,hr7,-,-,-⟩:=ho7.shape' (za _);have HY7:=qe (show Below w6.heap.size w6 w7 from qV (by(repeat(first|(refine qG ?_ (by omega))|exact QK _ _|refine qB ?_|refine qD ?_))) hb7);have HX7:=qe (HX6.1.trans (HY7.1.mono HX6.1.size));have hs7:=HY7.1.size
    have H57:=qe ((H56.1.below HY7.1).more HY7.1.size);have H67:=qe ((H66.1.below HY7.1).more HY7.1.size);have H77:=qe hr7;have HZ:vM (PZ w7 (w6.heap.size)):=by
     refine qe (zZ hb7 ?_);simp only[yf,yV,yW,QQ]
    clear ho7 hb7 hr7;refine hK.out _ _ (HR3.1 _ (by(repeat(first|exact HX7.1|(refine qG ?_ (by omega))|exact QK _ _|refine qB ?_|refine qD ?_)))) (fun hS=>?_);clear hK K';try simp only[QJ,qj,qz,qv]
    refine rdH 18 (fun K' hK=>?_);go_simp;go_at_call 93;refine(HP2.1 _).mono ?_;rintro e w8 ⟨v8,rfl,ho8,hb8⟩;obtain⟨A8,c8,rfl,hr8,-,-,-⟩:=ho8.shape' (za _);have HY8:=qe (show Below w7.heap.size w7 w8 from qV (by(repeat(first|(refine qG ?_ (by omega))|exact QK _ _|refine qB ?_|refine qD ?_))) hb8);have HX8:=qe (HX7.1.trans (HY8.1.mono HX7.1.size));have hs8:=HY8.1.size
    have H58:=qe ((H57.1.below HY8.1).more HY8.1.size);have H68:=qe ((H67.1.below HY8.1).more HY8.1.size);have H78:=qe ((H77.1.below HY8.1).more HY8.1.size);have H88:=qe hr8;have HZ:=qe (zZ HY8.1 HZ.1);clear ho8 hb8 hr8;refine hK.out _ _ (HR3.1 _ (by(repeat(first|exact HX8.1|(refine qG ?_ (by omega))|exact QK _ _|refine qB ?_|refine qD ?_)))) (fun hS=>?_);clear hK K'
    try simp only[QJ,qj,qz,qv]
    refine rdH 19 (fun K' hK=>?_);go_simp;refine hK.out _ _ (HR3.1 _ (by(repeat(first|exact HX8.1|(refine qG ?_ (by omega))|exact QK _ _|refine qB ?_|refine qD ?_)))) (fun hS=>?_);clear hK K';try simp only[QJ,qj,qz,qv]
    refine rdH 20 (fun K' hK=>?_);go_simp;go_at_call 91;refine(HMk.1 w8 _ _ g5 g6 c7 c8 A7 A8 HX8.1 H58.1 H68.1 H78.1 H88.1 ?_ ?_).mono ?_;focus((repeat(first|(refine qG ?_ (by omega))|exact QK _ _|refine qB ?_|refine qD ?_)))
    focus(repeat(first|(refine uY ?_ ?_;(focus(first|rfl|(simp;done)));rfl)|refine yQ ?_|refine yR ?_))
    rintro e w9 ⟨rfl,hb9,hx9⟩;have HX9:=qe hx9;have HY9:=qe (show Below w8.heap.size w8 w9 from qV (by(repeat(first|(refine qG ?_ (by omega))|exact QK _ _|refine qB ?_|refine qD ?_))) hb9);have hs9:=HY9.1.size;have HZ:=qe (zZ HY9.1 HZ.1);clear hb9 hx9;refine hK.out _ _ (HR3.1 _ (by(repeat(first|exact HX9.1|(refine qG ?_ (by omega))|exact QK _ _|refine qB ?_|refine qD ?_)))) (fun hS=>?_)
    clear hK K';try simp only[QJ,qj,qz,qv]
    refine rdH 22 (fun K' hK=>?_);have hth:=kr HZ.1 HYl.1;rw[if_pos (by rfl)];refine wp_store_mid _ _ _ rfl _ _ (List.toArray _) rfl rfl ?_ ?_ (all_oneCell_toArray (by assumption)) ?_
    ·first|assumption|(simp only[Jh, *]<;>assumption)
    ·first|assumption|(simp only[Jh]<;>assumption)|(simp only[Jh, *])
    simp only[QJ,qj,qz,qv,List.toList_toArray];refine hK.out _ _ (HR3.1 _ (by(repeat(first|exact HX9.1|(refine qG ?_ (by omega))|exact QK _ _|refine qB ?_|refine qD ?_)))) (fun hS=>?_);clear hK K';try simp only[QJ,qj,qz,qv]
    refine wpAnyH_done (by kernel_rfl) ?_ _;refine Q4 ?_;have HF9:=qe (uk HZ.1 HY.1 (jT key nonce ctx mixed));have hs0:=HB3.1.size;go_wp2_with fail
    go_ret2;exact⟨_,rfl,by omega,HF9.1,HB3.1.trans (Below.mono (B:=w3.heap.size) (by(repeat(first|exact HX9.1|(refine qG ?_ (by omega))|exact QK _ _|refine qB ?_|refine qD ?_))) HB3.1.size)⟩
  ·
   go_simp;refine hK.out _ _ (HR3.1 _ (by(repeat(first|exact HX5.1|(refine qG ?_ (by omega))|exact QK _ _|refine qB ?_|refine qD ?_)))) (fun hS=>?_);clear hK K';try simp only[QJ,qj,qz,qv]
   refine rdH 10 (fun K' hK=>?_);go_simp;go_at_call 92;refine(HG.1 _).mono ?_;rintro e w6 ⟨g6,rfl,ho6,hb6⟩;have HY6:=qe (show Below w5.heap.size w5 w6 from qV (by(repeat(first|(refine qG ?_ (by omega))|exact QK _ _|refine qB ?_|refine qD ?_))) hb6);have HX6:=qe (HX5.1.trans (HY6.1.mono HX5.1.size));have hs6:=HY6.1.size;have H56:=qe ((H55.1.below HY6.1).more HY6.1.size)
   have H66:=qe ho6.rd;have HZ:vM (PZ w6 (w5.heap.size)):=by
    refine qe (zZ hb6 ?_);simp only[yf,yV,yW,QQ]
   clear ho6 hb6;refine hK.out _ _ (HR3.1 _ (by(repeat(first|exact HX6.1|(refine qG ?_ (by omega))|exact QK _ _|refine qB ?_|refine qD ?_)))) (fun hS=>?_);clear hK K';try simp only[QJ,qj,qz,qv]
   refine rdH 14 (fun K' hK=>?_);go_simp;go_at_call 93;refine(HP1.1 _).mono ?_;rintro e w7 ⟨v7,rfl,ho7,hb7⟩;obtain⟨A7,c7,rfl,hr7,-,-,-⟩:=ho7.shape' (za _);have HY7:=qe (show Below w6.heap.size w6 w7 from qV (by(repeat(first|(refine qG ?_ (by omega))|exact QK _ _|refine qB ?_|refine qD ?_))) hb7);have HX7:=qe (HX6.1.trans (HY7.1.mono HX6.1.size));have hs7:=HY7.1.size
   have H57:=qe ((H56.1.below HY7.1).more HY7.1.size);have H67:=qe ((H66.1.below HY7.1).more HY7.1.size);have H77:=qe hr7;have HZ:=qe (zZ HY7.1 HZ.1);clear ho7 hb7 hr7;refine hK.out _ _ (HR3.1 _ (by(repeat(first|exact HX7.1|(refine qG ?_ (by omega))|exact QK _ _|refine qB ?_|refine qD ?_)))) (fun hS=>?_);clear hK K';try simp only[QJ,qj,qz,qv]
   refine rdH 18 (fun K' hK=>?_);go_simp;go_at_call 93;refine(HP2.1 _).mono ?_;rintro e w8 ⟨v8,rfl,ho8,hb8⟩;obtain⟨A8,c8,rfl,hr8,-,-,-⟩:=ho8.shape' (za _);have HY8:=qe (show Below w7.heap.size w7 w8 from qV (by(repeat(first|(refine qG ?_ (by omega))|exact QK _ _|refine qB ?_|refine qD ?_))) hb8);have HX8:=qe (HX7.1.trans (HY8.1.mono HX7.1.size));have hs8:=HY8.1.size
   have H58:=qe ((H57.1.below HY8.1).more HY8.1.size);have H68:=qe ((H67.1.below HY8.1).more HY8.1.size);have H78:=qe ((H77.1.below HY8.1).more HY8.1.size);have H88:=qe hr8;have HZ:=qe (zZ HY8.1 HZ.1);clear ho8 hb8 hr8;refine hK.out _ _ (HR3.1 _ (by(repeat(first|exact HX8.1|(refine qG ?_ (by omega))|exact QK _ _|refine qB ?_|refine qD ?_)))) (fun hS=>?_);clear hK K'
   try simp only[QJ,qj,qz,qv]
   refine rdH 19 (fun K' hK=>?_);go_simp;refine hK.out _ _ (HR3.1 _ (by(repeat(first|exact HX8.1|(refine qG ?_ (by omega))|exact QK _ _|refine qB ?_|refine qD ?_)))) (fun hS=>?_);clear hK K';try simp only[QJ,qj,qz,qv]
   refine rdH 20 (fun K' hK=>?_);go_simp;go_at_call 91;refine(HMk.1 w8 _ _ g5 g6 c7 c8 A7 A8 HX8.1 H58.1 H68.1 H78.1 H88.1 ?_ ?_).mono ?_;focus((repeat(first|(refine qG ?_ (by omega))|exact QK _ _|refine qB ?_|refine qD ?_)))
   focus(repeat(first|(refine uY ?_ ?_;(focus(first|rfl|(simp;done)));rfl)|refine yQ ?_|refine yR ?_))
   rintro e w9 ⟨rfl,hb9,hx9⟩;have HX9:=qe hx9;have HY9:=qe (show Below w8.heap.size w8 w9 from qV (by(repeat(first|(refine qG ?_ (by omega))|exact QK _ _|refine qB ?_|refine qD ?_))) hb9);have hs9:=HY9.1.size;have HZ:=qe (zZ HY9.1 HZ.1);clear hb9 hx9;refine hK.out _ _ (HR3.1 _ (by(repeat(first|exact HX9.1|(refine qG ?_ (by omega))|exact QK _ _|refine qB ?_|refine qD ?_)))) (fun hS=>?_)
   clear hK K';try simp only[QJ,qj,qz,qv]
   refine rdH 22 (fun K' hK=>?_);have hth:=kr HZ.1 HYl.1;rw[if_pos (by rfl)];refine wp_store_mid _ _ _ rfl _ _ (List.toArray _) rfl rfl ?_ ?_ (all_oneCell_toArray (by assumption)) ?_
   ·first|assumption|(simp only[Jh, *]<;>assumption)
   ·first|assumption|(simp only[Jh]<;>assumption)|(simp only[Jh, *])
   simp only[QJ,qj,qz,qv,List.toList_toArray];refine hK.out _ _ (HR3.1 _ (by(repeat(first|exact HX9.1|(refine qG ?_ (by omega))|exact QK _ _|refine qB ?_|refine qD ?_)))) (fun hS=>?_);clear hK K';try simp only[QJ,qj,qz,qv]
   refine wpAnyH_done (by kernel_rfl) ?_ _;refine Q4 ?_;have HF9:=qe (uk HZ.1 HY.1 (jT key nonce ctx mixed));have hs0:=HB3.1.size;go_wp2_with fail
   go_ret2;exact⟨_,rfl,by omega,HF9.1,HB3.1.trans (Below.mono (B:=w3.heap.size) (by(repeat(first|exact HX9.1|(refine qG ?_ (by omega))|exact QK _ _|refine qB ?_|refine qD ?_))) HB3.1.size)⟩
 ·
  go_simp;refine hK.out _ _ (HR3.1 _ (by(repeat(first|exact QK _ _|(refine qG ?_ (by omega))|exact QK _ _|refine qB ?_|refine qD ?_)))) (fun hS=>?_);clear hK K';try simp only[QJ,qj,qz,qv]
  refine rdH 6 (fun K' hK=>?_);go_simp;go_at_call 92;refine(HF.1 _).mono ?_;rintro e w5 ⟨g5,rfl,ho5,hb5⟩;have HX5:=qe (show Below w3.heap.size w3 w5 from qV (by(repeat(first|(refine qG ?_ (by omega))|exact QK _ _|refine qB ?_|refine qD ?_))) hb5);have hs5:=HX5.1.size;have H55:=qe ho5.rd;have HZ:vM (PZ w5 (w3.heap.size)):=by
   refine qe (zZ hb5 ?_);simp only[yf,yV,yW,QQ]
  clear ho5 hb5;refine hK.out _ _ (HR3.1 _ (by(repeat(first|exact HX5.1|(refine qG ?_ (by omega))|exact QK _ _|refine qB ?_|refine qD ?_)))) (fun hS=>?_);clear hK K';try simp only[QJ,qj,qz,qv]
  refine rdH 10 (fun K' hK=>?_);go_simp;go_at_call 92;refine(HG.1 _).mono ?_;rintro e w6 ⟨g6,rfl,ho6,hb6⟩;have HY6:=qe (show Below w5.heap.size w5 w6 from qV (by(repeat(first|(refine qG ?_ (by omega))|exact QK _ _|refine qB ?_|refine qD ?_))) hb6);have HX6:=qe (HX5.1.trans (HY6.1.mono HX5.1.size));have hs6:=HY6.1.size;have H56:=qe ((H55.1.below HY6.1).more HY6.1.size)
  have H66:=qe ho6.rd;have HZ:=qe (zZ HY6.1 HZ.1);clear ho6 hb6;refine hK.out _ _ (HR3.1 _ (by(repeat(first|exact HX6.1|(refine qG ?_ (by omega))|exact QK _ _|refine qB ?_|refine qD ?_)))) (fun hS=>?_);clear hK K';try simp only[QJ,qj,qz,qv]
  refine rdH 14 (fun K' hK=>?_);go_simp;go_at_call 93;refine(HP1.1 _).mono ?_;rintro e w7 ⟨v7,rfl,ho7,hb7⟩;obtain⟨A7,c7,rfl,hr7,-,-,-⟩:=ho7.shape' (za _);have HY7:=qe (show Below w6.heap.size w6 w7 from qV (by(repeat(first|(refine qG ?_ (by omega))|exact QK _ _|refine qB ?_|refine qD ?_))) hb7);have HX7:=qe (HX6.1.trans (HY7.1.mono HX6.1.size));have hs7:=HY7.1.size
  have H57:=qe ((H56.1.below HY7.1).more HY7.1.size);have H67:=qe ((H66.1.below HY7.1).more HY7.1.size);have H77:=qe hr7;have HZ:=qe (zZ HY7.1 HZ.1);clear ho7 hb7 hr7;refine hK.out _ _ (HR3.1 _ (by(repeat(first|exact HX7.1|(refine qG ?_ (by omega))|exact QK _ _|refine qB ?_|refine qD ?_)))) (fun hS=>?_);clear hK K';try simp only[QJ,qj,qz,qv]
  refine rdH 18 (fun K' hK=>?_);go_simp;go_at_call 93;refine(HP2.1 _).mono ?_;rintro e w8 ⟨v8,rfl,ho8,hb8⟩;obtain⟨A8,c8,rfl,hr8,-,-,-⟩:=ho8.shape' (za _);have HY8:=qe (show Below w7.heap.size w7 w8 from qV (by(repeat(first|(refine qG ?_ (by omega))|exact QK _ _|refine qB ?_|refine qD ?_))) hb8);have HX8:=qe (HX7.1.trans (HY8.1.mono HX7.1.size));have hs8:=HY8.1.size
  have H58:=qe ((H57.1.below HY8.1).more HY8.1.size);have H68:=qe ((H67.1.below HY8.1).more HY8.1.size);have H78:=qe ((H77.1.below HY8.1).more HY8.1.size);have H88:=qe hr8;have HZ:=qe (zZ HY8.1 HZ.1);clear ho8 hb8 hr8;refine hK.out _ _ (HR3.1 _ (by(repeat(first|exact HX8.1|(refine qG ?_ (by omega))|exact QK _ _|refine qB ?_|refine qD ?_)))) (fun hS=>?_);clear hK K'
  try simp only[QJ,qj,qz,qv]
  refine rdH 19 (fun K' hK=>?_);go_simp;refine hK.out _ _ (HR3.1 _ (by(repeat(first|exact HX8.1|(refine qG ?_ (by omega))|exact QK _ _|refine qB ?_|refine qD ?_)))) (fun hS=>?_);clear hK K';try simp only[QJ,qj,qz,qv]
  refine rdH 20 (fun K' hK=>?_);go_simp;go_at_call 91;refine(HMk.1 w8 _ _ g5 g6 c7 c8 A7 A8 HX8.1 H58.1 H68.1 H78.1 H88.1 ?_ ?_).mono ?_;focus((repeat(first|(refine qG ?_ (by omega))|exact QK _ _|refine qB ?_|refine qD ?_)))
  focus(repeat(first|(refine uY ?_ ?_;(focus(first|rfl|(simp;done)));rfl)|refine yQ ?_|refine yR ?_))
  rintro e w9 ⟨rfl,hb9,hx9⟩;have HX9:=qe hx9;have HY9:=qe (show Below w8.heap.size w8 w9 from qV (by(repeat(first|(refine qG ?_ (by omega))|exact QK _ _|refine qB ?_|refine qD ?_))) hb9);have hs9:=HY9.1.size;have HZ:=qe (zZ HY9.1 HZ.1);clear hb9 hx9;refine hK.out _ _ (HR3.1 _ (by(repeat(first|exact HX9.1|(refine qG ?_ (by omega))|exact QK _ _|refine qB ?_|refine qD ?_)))) (fun hS=>?_)
  clear hK K';try simp only[QJ,qj,qz,qv]
  refine rdH 22 (fun K' hK=>?_);have hth:=kr HZ.1 HYl.1;rw[if_pos (by rfl)];refine wp_store_mid _ _ _ rfl _ _ (List.toArray _) rfl rfl ?_ ?_ (all_oneCell_toArray (by assumption)) ?_
  ·first|assumption|(simp only[Jh, *]<;>assumption)
  ·first|assumption|(simp only[Jh]<;>assumption)|(simp only[Jh, *])
  simp only[QJ,qj,qz,qv,List.toList_toArray];refine hK.out _ _ (HR3.1 _ (by(repeat(first|exact HX9.1|(refine qG ?_ (by omega))|exact QK _ _|refine qB ?_|refine qD ?_)))) (fun hS=>?_);clear hK K';try simp only[QJ,qj,qz,qv]
  refine wpAnyH_done (by kernel_rfl) ?_ _;refine Q4 ?_;have HF9:=qe (uk HZ.1 HY.1 (jT key nonce ctx mixed));have hs0:=HB3.1.size;go_wp2_with fail
  go_ret2;exact⟨_,rfl,by omega,HF9.1,HB3.1.trans (Below.mono (B:=w3.heap.size) (by(repeat(first|exact HX9.1|(refine qG ?_ (by omega))|exact QK _ _|refine qB ?_|refine qD ?_))) HB3.1.size)⟩
attribute [local go_sem] Ze
theorem qi3(key:qf)(A:Option Addr)(n c:Nat)(number:Int)(w:World):
 Calls prog 89 #[jL b8 key,.slice A n c,.int .i64 number] w fun e w'=>e= .returned (.func (.func 109) #[] #[.pointer (some ⟨w.heap.size+2,0,none⟩),.pointer (some ⟨w.heap.size,0,none⟩),.pointer (some ⟨w.heap.size+1,0,none⟩)])∧
  w'=((w.alloc (.cells (key.map b8).toArray 92)).alloc (.cells #[.slice A n c] 28)).alloc (.cells #[.int .i64 number] 3):=by
 rw[qn];go_enter func89,ntmps89
 go_wp2_with fail
 go_ret;exact⟨rfl,rfl⟩
abbrev Pc:={x:Int×qf//0≤x.1∧x.1≤4294967295∧x.2.length=64}
def qnR(x:Pc):Array Value:= #[.int .i64 x.1.1,.agg (x.1.2.map b8).toArray]
def qhF(key nonce:qf)(number:Int)(i:Nat):Int×qf:=(number+i,uK key nonce (BitVec.ofInt 32 (number+i)))
def vn(key nonce:qf)(number:Int)(k:Nat):List (Int×qf):=(Q6 k).map (qhF key nonce number)
theorem qcl(key nonce:qf)(number:Int)(k:Nat):vn key nonce number (k+1)=vn key nonce number k++ [qhF key nonce number k]:=by simp[vn,JU]
theorem qbd(key nonce:qf)(number:Int)(k:Nat):(vn key nonce number k).length=k:=by simp[vn]
def vR(n:Nat)(number:Int):Nat:=if zy n number=0 then(4294967296-number).toNat else 0
def KpQ(n₀ bk bn:Nat)(A B:World):Prop:=Below n₀ A B∧B.heap[bk]?=A.heap[bk]?∧B.heap[bn]?=A.heap[bn]?
theorem KpQ.t{n₀ bk bn:Nat}{A B C:World}(h:KpQ n₀ bk bn A B)(k:KpQ n₀ bk bn B C):KpQ n₀ bk bn A C:=⟨h.1.trans k.1,k.2.1.trans h.2.1,k.2.2.trans h.2.2⟩
theorem qde{w w':World}(hb:Below w.heap.size w w'):w.grownBy w' none:=⟨hb.os,hb.tape,hb.output,hb.size,fun k hk _=>hb.block k hk⟩
theorem qga{w w':World}{B:Nat}{t:TypeId}{v:Value}(h:Boxed w B t v)(hb:Below w.heap.size w w'):Boxed w' B t v:=(hb.block B h.lt).trans h
theorem qnS{n:Nat}{number:Int}{k:Nat}(hz:zy n number=0):zy n (number+k)=if number+k≤4294967295 then 0 else 8:=by
 obtain⟨h12,h0,h1⟩:=vZ hz;split
 ·exact qdr h12 (by omega)
 ·exact uU h12 (.inr (by omega))
theorem qbe{xs:qf}(h:xs.length=64):(prog.info? 157).map (·.size)=some xs.length:=by rw[h];kernel_rfl
theorem qej{xs:qf}(h:xs.length=32):(prog.info? 92).map (·.size)=some xs.length:=by rw[h];kernel_rfl
theorem qi4(m:Nat)(hm:3≤m)(key:qf)(A:Option Addr)(n c:Nat)(nonce:qf)(number:Int)(l bi bk bn n₀:Nat)(hk:key.length=32)(hn:nonce.length=n)(hnc:n≤c)(hq1: -9223372036854775808≤number)(hq2:number<9223372036854775808)(J Jx:List Pc→World→Prop)(W:World)(hJ:AbidesFrom W.heap.size J)
 (hY:∀pre y W1,J pre W1→pre.length<vR n number→YieldAt Fence.wide (m-1) prog l (qnR y) W1 fun e W'=>
  (e= .returned (.bool true)∧J (pre++ [y]) W'∧KpQ n₀ bk bn W1 W')∨(e= .returned (.bool false)∧Jx (pre++ [y]) W'))
 (hbi:W.cell? ⟨bi,0,none⟩=some (.int .i64 number))(hbk:Arr b8 W bk 92 key)(hbn:Boxed W bn 28 (.slice A n c))(hr:Rd b8 W n₀ A nonce)(hn₀:n₀≤W.heap.size)(h0:J [] W):
 CallsIn Fence.wide m prog 109 #[.func (.yield l) #[] #[],.pointer (some ⟨bi,0,none⟩),.pointer (some ⟨bk,0,none⟩),.pointer (some ⟨bn,0,none⟩)] W fun e W'=>(∃v,e= .returned v)∧
  ((∃ys:List Pc,ys.map Jj=vn key nonce number (vR n number)∧J ys W')∨(∃pre:List Pc,(∃k,k≤vR n number∧pre.map Jj=vn key nonce number k)∧Jx pre W')):=by
 refine callsIn_of_wp func109 rfl trivial ?_ rfl;simp only[ntmps109,Jh,Jr,JE,JI,Nat.reduceSub,Zi,Zj,Zk,Zl,Ji,JL];have HK:=qe hk;have HN:=qe hn;have HJ:=qe hJ;have HY:=qe hY;have H0:=qe h0;have HBk:=qe hbk;have HBn:=qe hbn;have HR:=qe hr
 have hm1:1≤m:=by omega
 have hm2:1≤m-1:=by omega
 clear hk hn hJ hY h0 hbk hbn hr;gi_wp2_with fail
 gi_loopw [5] (fun v wr=>∃(k:Nat) (pre:List Pc),v= .int .i64 (number+k)∧k≤vR n number∧pre.map Jj=vn key nonce number k∧J pre wr∧Arr b8 wr bk 92 key∧Boxed wr bn 28 (.slice A n c)∧Rd b8 wr n₀ A nonce∧n₀≤wr.heap.size) (fun v _=>(4294967297-intOf v).toNat)
 case atStart=>exact⟨0,[],by simp,by omega,rfl,H0.1,HBk.1,HBn.1,HR.1,hn₀⟩
 case round=>
  obtain⟨k,pre,rfl,hkc,hpre,hJs,hbk,hbn,hr,hz⟩:=hrel;obtain⟨N,hN⟩:∃N,N=number+(k:Int):=⟨_,rfl⟩;rw[←hN];obtain⟨bad,hbad⟩:∃bad,bad=zy n N:=⟨_,rfl⟩;obtain⟨P,hP⟩:∃P,P=j0 key nonce N:=⟨_,rfl⟩;have HPl:=qe (show P.length=64 by rw[hP];exact kF _ _ _);have hc:=qbG key A n c n₀ nonce N wr HK.1 hr hz HN.1 hnc;rw[←hbad,←hP]at hc;have cn:=hbn.cell;have HBk2:=qe hbk;have HBn2:=qe hbn
  have HR2:=qe hr;have HJs:=qe hJs;have Hpre:=qe hpre;have HNn:=qe hN;have Hbad:=qe hbad;have HP:=qe hP;clear hbk hbn hr hJs hpre hN hbad hP;by_cases hb0:bad=0
  ·subst hb0
   have hz0:=vZ Hbad.1.symm;obtain⟨h12,g0,g1⟩:=hz0;subst h12;have hzn:zy 12 number=0:=by
    by_cases hzn:zy 12 number=0
    ·exact hzn
    ·exfalso
     have hc0:vR 12 number=0:=if_neg hzn;have hk0:k=0:=by omega
     have e1:=HNn.1;rw[hk0]at e1;have e2:=Hbad.1;rw[e1]at e2;exact hzn (by simpa using e2.symm)
   have hcount:vR 12 number=(4294967296-number).toNat:=if_pos hzn;have hkl:k<vR 12 number:=by rw[hcount];have:=HNn.1;omega
   have Hit:=qe (show(N,P)=qhF key nonce number k by
    unfold qhF;rw[←HNn.1,HP.1];unfold j0;rw[HN.1,if_pos Hbad.1.symm])
   have Hkl:=qe hkl;rw[qW]at hc;have HC:=qe hc;clear hc hzn hcount hkl;gi_wp2_with (refine jQ rfl 92 _ rfl bk rfl _ key HBk2.1 _ underlying92 rfl (qej HK.1) ?_)
   refine⟨trivial,?_⟩;refine(callsIn_wide.2 HC.1).mono ?_;rintro e w1 ⟨rfl,hb1⟩;rw[qn];have HZ1:=qe (Arr.new b8 w1 157 (QL 64 0#8));have HB1:=qe hb1;have hs1:=hb1.size;clear hb1;gi_wp2_with (first
    |(refine qaa rfl 157 _ _ rfl w1.heap.size rfl P rfl _ _ HZ1.1 (by rw[HPl.1];rfl) (qbe HPl.1) qU ?_;intro w2 hp2 hg2;have HP2:=qe hp2;have HB2:=qe (show Below wr.heap.size wr w2 from(HB1.1.alloc hs1 _).grown hg2 (by simp;omega) (fun k e=>by cases e;exact hs1));clear hp2 hg2;obtain⟨fn,tmps,assign,body,hy,hR⟩:=HY.1 pre ⟨(N,P),g0,g1,HPl.1⟩ w2 (HJ.1 _ _ _ none HJs.1 (qde HB2.1) (fun r e=>by cases e)) (by have:=congrArg JT Hpre.1;rw[QN,qbd]at this;rw[this];exact Hkl.1);dsimp only[qnR]at hy;have HRn:=qe hR;clear hR)
    |refine jQ rfl 157 _ rfl w1.heap.size rfl _ P HP2.1 _ underlying157 rfl (qbe HPl.1) ?_)
   refine HRn.1.mono ?_;rintro e w3 (⟨rfl,hJ3,hk3,hkk,hkn⟩|⟨rfl,hJx3⟩)
   ·have hz3:n₀≤w3.heap.size:=by have:=hk3.size;have:=HB2.1.size;omega
    have hN1:N+1≤4294967296:=by omega
    gi_wp2_with fail
    go_roundw
    case rel=>
     refine⟨k+1,pre++ [⟨(N,P),g0,g1,HPl.1⟩],by rw[HNn.1];congr 1;omega,Hkl.1,?_,hJ3,hkk.trans (HBk2.1.below HB2.1 HBk2.1.lt),hkn.trans (qga HBn2.1 HB2.1),(HR2.1.below (HB2.1.mono hz)).below hk3,hz3⟩;rw[qcl,Q9,Hpre.1,←Hit.1];rfl
    case measure=>simp[intOf];omega
   ·gi_wp2_with fail
    refine bodyPost_ret (results_none rfl _ _ _) rfl ?_;exact⟨⟨_,rfl⟩,.inr ⟨_,⟨k+1,Hkl.1,by rw[qcl,Q9,Hpre.1,←Hit.1];rfl⟩,hJx3⟩⟩
  ·have hcount:k=vR n number:=by
    unfold vR at hkc ⊢;by_cases hzn:zy n number=0
    ·rw[if_pos hzn]at hkc ⊢
     have h1:=Hbad.1;rw[HNn.1,qnS hzn]at h1;obtain⟨-,g0,g1⟩:=vZ hzn;split at h1
     ·exact absurd h1 hb0
     ·omega
    ·rw[if_neg hzn]at hkc ⊢;omega
   have Hcount:=qe hcount;rw[jO hb0]at hc;have HC:=qe hc;clear hc hcount;gi_wp2_with (refine jQ rfl 92 _ rfl bk rfl _ key HBk2.1 _ underlying92 rfl (qej HK.1) ?_)
   refine⟨trivial,?_⟩;refine(callsIn_wide.2 HC.1).mono ?_;rintro e w1 ⟨rfl,hb1⟩;rw[qn];have HZ1:=qe (Arr.new b8 w1 157 (QL 64 0#8));have HB1:=qe hb1;have hs1:=hb1.size;clear hb1;gi_wp2_with (refine qaa rfl 157 _ _ rfl w1.heap.size rfl P rfl _ _ HZ1.1 (by rw[HPl.1];rfl) (qbe HPl.1) qU ?_;intro w2 hp2 hg2;have HP2:=qe hp2;have HB2:=qe (show Below wr.heap.size wr w2 from(HB1.1.alloc hs1 _).grown hg2 (by simp;omega) (fun k e=>by cases e;exact hs1));clear hp2 hg2)
   refine⟨fun _ h=>(by cases h),?_⟩;gi_wp2_with fail
   refine bodyPost_ret (results_none rfl _ _ _) rfl ?_;refine⟨⟨_,rfl⟩,.inl ⟨pre,by rw[Hpre.1,←Hcount.1],HJ.1 _ _ _ none HJs.1 (qde HB2.1) (fun r e=>by cases e)⟩⟩
theorem qgb(m:Nat)(hm:3≤m)(key:qf)(A:Option Addr)(n c:Nat)(nonce:qf)(number:Int)(bi bk bn n₀:Nat)(hk:key.length=32)(hn:nonce.length=n)(hnc:n≤c)(hq1: -9223372036854775808≤number)(hq2:number<9223372036854775808)(w:World)
 (hbi:Boxed w bi 3 (.int .i64 number))(hbk:Arr b8 w bk 92 key)(hbn:Boxed w bn 28 (.slice A n c))(hr:Rd b8 w n₀ A nonce)(hn₀:n₀≤w.heap.size):
 SeqStopsK Fence.wide m prog 109 #[.pointer (some ⟨bi,0,none⟩),.pointer (some ⟨bk,0,none⟩),.pointer (some ⟨bn,0,none⟩)] qnR (KpQ n₀ bk bn) (fun ys=>ys.map Jj=vn key nonce number (vR n number)) (fun pre=>∃k,k≤vR n number∧pre.map Jj=vn key nonce number k) (vR n number) w:=fun l J Jx W hW hJ _ hY h0=>
 qi4 m hm key A n c nonce number l bi bk bn n₀ hk hn hnc hq1 hq2 J Jx W hJ hY ((qga hbi hW).cell) (hbk.below hW hbk.lt) (qga hbn hW) (hr.below (hW.mono hn₀)) (Nat.le_trans hn₀ hW.size) h0
end
end Go.Proofs.YtelgjaiknaalkaaGreatDoor
