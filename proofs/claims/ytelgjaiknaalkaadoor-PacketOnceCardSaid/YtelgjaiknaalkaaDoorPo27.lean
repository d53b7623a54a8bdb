/- Lemmas, joined and made smaller by a program. -/
import Derived.Test.YtelgjaiknaalkaaDoorPo26
import Derived.Test.YtelgjaiknaalkaaDoorPo20
import Derived.Laws.CopyOwn
import Derived.StillTailTactics
import Derived.Test.YtelgjaiknaalkaaDoorPo09
open Go.Lib renaming hid → qq
open List renaming setIfInBounds_toArray → qj
open List renaming set_cons_zero → qz
open List renaming set_cons_succ → qv
set_option linter.unusedVariables false
set_option linter.unusedSimpArgs false
namespace Go.Proofs.YtelgjaiknaalkaaDoor
open Go.RowKit
attribute [local go_sem] add64_zero add64_go
theorem sizeU8a:(Tryd.prog.info? 5).map (·.size)=some 1:=by kernel_rfl
theorem splice_m(kk:List (BitVec 8))(m:Nat):splice ((List.replicate m 0#8).map b8) 0 (kk.map b8)=(kk++List.replicate (m-kk.length) 0#8).map b8:=by
 unfold splice
 simp[List.drop_replicate]
theorem splice_p(p:List (BitVec 8)):splice ((List.replicate 17 0#8).map b8) 0 (p.map b8)=(p++List.replicate (17-p.length) 0#8).map b8:=splice_m p 17
theorem padP_set(p:List (BitVec 8))(h:p.length≤16):(p++List.replicate (17-p.length) 0#8).set p.length 1#8=padP p:=by
 obtain⟨m,hm⟩:∃m,17-p.length=m+1:=⟨16-p.length,by omega⟩
 rw[hm,List.set_append_right _ _ (Nat.le_refl _),Nat.sub_self,List.replicate_succ,qz]
 unfold padP
 rw[show 16-p.length=m by omega];simp
theorem low_still(w:World)(B n c:Nat)(A:Option Addr)(xs:List (BitVec 8))(hr:Rd b8 w B A xs)(hn:n=xs.length)(h8:8≤n):
 Calls Tryd.prog 63 #[.slice A n c] w fun e w'=>e= .returned (.int .u64 (bv (low8 xs)))∧w'=w:=
 (low_any w B n c A xs hr hn h8).mono fun _ _ h=>⟨h.1,h.2.symm⟩
theorem wpAnyY_takeD{P:Program}{ops:Array Oper}{md:Region.Mode}{Q:Exit→Act→World→Prop}{S:World→Prop}{z i:Nat}(d:Nat){oi:Oper}{v:Value}{f:Nat}{L:Array Bool}{a:Act}{w:World}(hi:ops[i]?=some oi)(hd:oi.dst=some d)(hs:Region.noSelect ops=true)(hw:waitsB md ops z i=true)(hz:L.getD z true=false)(hf:Region.free md ops L i=true)(hr:(Region.ready md ops L).contains i=true)
 (hQ:∀c a w,Q (.panic c) (a.put oi.dst v) w→Q (.panic c) a w)(hy:YieldsIf P ops S oi v a)(hS:S w)(h:wpAnyY P md ops Q S z f (L.setIfInBounds i true) {tmps:=a.tmps.setIfInBounds d v,defers:=a.defers} w):wpAnyY P md ops Q S z (f+1) L a w:=
 wpAnyY_take hi hs hw hz hf hr hQ hy hS (by rw[hd];exact h)
theorem wpAnyY_pureD{P:Program}{ops:Array Oper}{md:Region.Mode}{Q:Exit→Act→World→Prop}{S:World→Prop}{z i:Nat}(d:Nat){oi:Oper}{v:Value}{f:Nat}{L:Array Bool}{a:Act}{w:World}(hi:ops[i]?=some oi)(hd:oi.dst=some d)(hs:Region.noSelect ops=true)(hiz:decide (i≠z)=true)(hf:Region.free md ops L i=true)(hr:(Region.ready md ops L).contains i=true)
 (hQ:∀c a w,Q (.panic c) (a.put oi.dst v) w→Q (.panic c) a w)(hy:YieldsIf P ops (fun _=>True) oi v a)(hS:S w)(h:wpAnyY P md ops Q S z f (L.setIfInBounds i true) {tmps:=a.tmps.setIfInBounds d v,defers:=a.defers} w):wpAnyY P md ops Q S z (f+1) L a w:=
 wpAnyY_pure hi hs hiz hf hr hQ hy hS (by rw[hd];exact h)
theorem wpAnyY_late{P:Program}{ops:Array Oper}{md:Region.Mode}{Q:Exit→Act→World→Prop}{S:World→Prop}{z i:Nat}{o:Oper}{f:Nat}{L:Array Bool}{a:Act}{w:World}(hz:L.getD z true=true)(hr:Region.ready md ops L=[i])(ho:ops[i]?=some o)
 (h:∀K':Act→World→Prop,(∀a w,wpAnyY P md ops Q S z f (L.setIfInBounds i true) a w→K' a w)→if Region.wanted o (yielded ops a.tmps)=true then o.wp P a w K' Q else K' (a.put o.dst undef) w):wpAnyY P md ops Q S z (f+1) L a w:=by
 refine⟨fun h0=>(by rw[h0]at hr;cases hr),fun j hj=>?_⟩
 rw[hr,List.mem_singleton]at hj
 subst hj
 have h1:=h (fun a' w'=>(L.getD z true=false→j≠z→S w')∧wpAnyY P md ops Q S z f (L.setIfInBounds j true) a' w') (fun _ _ h2=>⟨fun h3=>(by rw[hz]at h3;cases h3),h2⟩)
 unfold wpOp
 rw[ho]
 dsimp only
 split
 ·rename_i hw;rw[if_pos hw]at h1;exact .inl h1
 ·rename_i hw;rw[if_neg hw]at h1;exact h1
set_option maxRecDepth 100000 in
set_option maxHeartbeats 4000000 in
theorem addp_any(w:World)(b:Nat)(h0 h1 h2 r0 r1:BitVec 64)(hs:SumA w b (h0,h1,h2) r0 r1)(B n c:Nat)(A:Option Addr)(p:List (BitVec 8))(hr:Rd b8 w B A p)(hB:B≤w.heap.size)(hn:n=p.length)(h16:n≤16):
 Calls Tryd.prog 65 #[.pointer (some ⟨b,0,none⟩),.slice A n c] w fun e w'=>(∃v,e= .returned v)∧SumA w' b (timesW (addP (h0,h1,h2) (low8 (padP p)) (low8 ((padP p).drop 8)) (((padP p).getD 16 0#8).setWidth 64)) r0 r1) r0 r1∧w.grownBy w' (some b):=by
 have HS:=qq hs
 have hlt:b<w.heap.size:=Arr.lt hs
 have HR:=qq (hr.more hB)
 have HN:=qq hn
 clear hs hr hB hn
 go_enter Tryd.func65,Tryd.ntmps65
 have hp16:p.length≤16:=by rw[←HN.out];exact h16
 have HP16:=qq hp16
 have HZ:=qq (Arr.new b8 w 143 (List.replicate 17 0#8))
 have HBz:=qq ((Below.refl w.heap.size w).alloc (Nat.le_refl _) (.cells ((List.replicate 17 0#8).map b8).toArray 143))
 have HRz:=qq (HR.out.alloc (Nat.le_refl _) (.cells ((List.replicate 17 0#8).map b8).toArray 143))
 clear hp16
 go_wp2_with (refine wpList_copy_splice (o:=⟨some 8,_,_,_,_,_⟩) rfl (.tmp 6) (.tmp 7) 33 33 rfl 5 Tryd.underlying33 sizeU8a (some ⟨w.heap.size,0,none⟩) A 17 17 n c rfl rfl w.heap.size 0 ((List.replicate 17 0#8).map b8) 143 HZ.out (p.map b8) (by rw[List.length_map,←HN.out];exact(Nat.min_eq_left (by omega)).symm) (fun hp=>⟨rfl,by obtain⟨b',off',e',hb',hc'⟩:=HRz.out (by simpa using hp);exact⟨_,e',HRz.out.cells e'⟩⟩) (by rw[List.length_map,List.length_map,List.length_replicate];have:=HP16.out;omega) (fun v hv=>by obtain⟨x,-,rfl⟩:=List.mem_map.1 hv;exact b8_one x) w.heap.size w HBz.out (Nat.le_refl _) ?_;intro w4 hx4 hb4;have HX4:=qq (show Arr b8 w4 w.heap.size 143 (p++List.replicate (17-p.length) 0#8)from by have:=hx4.out;rw[splice_p p]at this;exact this);have HB4:=qq hb4;have hf4:=HX4.out.frozen n;have hc4:w4.cell? ⟨w.heap.size,n,none⟩=some (.int .u8 (bv 0#8)):=(HX4.out.at_ (u:=0#8) (by rw[HN.out,List.getElem?_append_right (Nat.le_refl _),Nat.sub_self,List.getElem?_replicate,if_pos (by have:=HP16.out;omega)]));clear hx4 hb4)
 have HX5:=qq (show Arr b8 (w4.setCell ⟨w.heap.size,n,none⟩ (.int .u8 1)) w.heap.size 143 (padP p) by
  rw[←padP_set p HP16.out,←HN.out];have h:=HX4.out.set_ n 1#8;rw[←HN.out]at h;exact h)
 have HB5:=qq (HB4.out.setCell (p:=⟨w.heap.size,n,none⟩) (Nat.le_refl _) (.int .u8 1))
 clear HX4 HB4 hf4 hc4 HZ HBz HRz
 generalize w4.setCell ⟨w.heap.size,n,none⟩ (.int .u8 1)=w5 at HX5 HB5 ⊢
 have HS5:=qq (show SumA w5 b (h0,h1,h2) r0 r1 from Arr.below HS.out HB5.out hlt)
 have hl17:(padP p).length=17:=padP_len p HP16.out
 have HR5:=qq (show∀W:World,Arr b8 W w.heap.size 143 (padP p)→Rd b8 W (w.heap.size+1) (some ⟨w.heap.size,0,none⟩) (padP p)from fun W h=>h.rd 0)
 have HR6:=qq (show∀W:World,Arr b8 W w.heap.size 143 (padP p)→Rd b8 W (w.heap.size+1) (some ⟨w.heap.size,8,none⟩) ((padP p).drop 8)from fun W h=>h.rd 8)
 have HL17:=qq hl17
 have HL9:=qq (show 9=((padP p).drop 8).length by rw[List.length_drop,hl17])
 obtain⟨x0,hx0⟩:∃x,x=low8 (padP p):=⟨_,rfl⟩
 obtain⟨x1,hx1⟩:∃x,x=low8 ((padP p).drop 8):=⟨_,rfl⟩
 obtain⟨x2,hx2⟩:∃x,x=(padP p).getD 16 0#8:=⟨_,rfl⟩
 have HXX:=qq (And.intro hx0 (And.intro hx1 hx2))
 have HC0:=qq (show∀W:World,Arr b8 W w.heap.size 143 (padP p)→Calls Tryd.prog 63 #[.slice (some ⟨w.heap.size,0,none⟩) 17 17] W fun e w'=>e= .returned (.int .u64 (bv x0))∧w'=W from fun W h=>by rw[hx0];exact low_still W _ _ _ _ _ (h.rd 0) HL17.out.symm (by omega))
 have HC1:=qq (show∀W:World,Arr b8 W w.heap.size 143 (padP p)→Calls Tryd.prog 63 #[.slice (some ⟨w.heap.size,8,none⟩) 9 9] W fun e w'=>e= .returned (.int .u64 (bv x1))∧w'=W from fun W h=>by rw[hx1];exact low_still W _ _ _ _ _ (h.rd 8) HL9.out (by omega))
 have HX2:=qq (show∀W:World,Arr b8 W w.heap.size 143 (padP p)→W.cell? ⟨w.heap.size,16,none⟩=some (.int .u8 (bv x2))from fun W h=>by rw[hx2];exact h.cellD (by rw[HL17.out];omega) 0#8)
 clear hl17 hx0 hx1 hx2
 have k1:(cy h0 x0 0#64).toNat≤1:=cy_le _ _ _ (by simp)
 have s0:w5.cell? ⟨b,0,none⟩=some (.int .u64 (bv h0)):=Arr.at_ HS5.out rfl
 have f0:=Arr.frozen HS5.out 0
 have hS:(fun w':World=>w'.cell? ⟨b,0,none⟩=some (.int .u64 (bv h0))) w5.drew:=s0
 refine wp_region_Y (by kernel_rfl) (fun w':World=>w'.cell? ⟨b,0,none⟩=some (.int .u64 (bv h0))) 15 ?_
 refine wpAnyY_pureD 13 (i:=0) (v:= .pointer (some ⟨b,0,none⟩)) rfl rfl (by kernel_rfl) (by kernel_rfl) (by kernel_rfl) (by kernel_rfl) (fun _ _ _ h=>h) (Or.inl ⟨by rfl,?_⟩) hS ?_
 ·intro w' hw'
  go_simp
 simp only[qj,qz,qv]
 refine wpAnyY_pureD 14 (i:=1) (v:= .pointer (some ⟨b,0,none⟩)) rfl rfl (by kernel_rfl) (by kernel_rfl) (by kernel_rfl) (by kernel_rfl) (fun _ _ _ h=>h) (Or.inl ⟨by rfl,?_⟩) hS ?_
 ·intro w' hw'
  go_simp
 simp only[qj,qz,qv]
 refine wpAnyY_pureD 15 (i:=2) (v:= .pointer (some ⟨b,0,none⟩)) rfl rfl (by kernel_rfl) (by kernel_rfl) (by kernel_rfl) (by kernel_rfl) (fun _ _ _ h=>h) (Or.inl ⟨by rfl,?_⟩) hS ?_
 ·intro w' hw'
  go_simp
 simp only[qj,qz,qv]
 refine wpAnyY_pureD 16 (i:=3) (v:= .pointer (some ⟨b,0,none⟩)) rfl rfl (by kernel_rfl) (by kernel_rfl) (by kernel_rfl) (by kernel_rfl) (fun _ _ _ h=>h) (Or.inl ⟨by rfl,?_⟩) hS ?_
 ·intro w' hw'
  go_simp
 simp only[qj,qz,qv]
 refine wpAnyY_pureD 17 (i:=4) (v:= .pointer (some ⟨b,0,none⟩)) rfl rfl (by kernel_rfl) (by kernel_rfl) (by kernel_rfl) (by kernel_rfl) (fun _ _ _ h=>h) (Or.inl ⟨by rfl,?_⟩) hS ?_
 ·intro w' hw'
  go_simp
 simp only[qj,qz,qv]
 refine wpAnyY_takeD 18 (i:=5) (v:= .int .u64 (bv h0)) rfl rfl (by kernel_rfl) (by kernel_rfl) (by kernel_rfl) (by kernel_rfl) (by kernel_rfl) (fun _ _ _ h=>h) (Or.inl ⟨by rfl,?_⟩) hS ?_
 ·intro w' hw'
  go_simp
 simp only[qj,qz,qv]
 refine wpAnyY_pureD 19 (i:=6) (v:= .slice (some ⟨w.heap.size,0,none⟩) 17 17) rfl rfl (by kernel_rfl) (by kernel_rfl) (by kernel_rfl) (by kernel_rfl) (fun _ _ _ h=>h) (Or.inl ⟨by rfl,?_⟩) hS ?_
 ·intro w' hw'
  go_simp
 simp only[qj,qz,qv]
 refine wpAnyY_pureD 24 (i:=12) (v:= .pointer (some ⟨b,0,none⟩)) rfl rfl (by kernel_rfl) (by kernel_rfl) (by kernel_rfl) (by kernel_rfl) (fun _ _ _ h=>h) (Or.inl ⟨by rfl,?_⟩) hS ?_
 ·intro w' hw'
  go_simp
 simp only[qj,qz,qv]
 refine wpAnyY_pureD 25 (i:=13) (v:= .pointer (some ⟨b,0,none⟩)) rfl rfl (by kernel_rfl) (by kernel_rfl) (by kernel_rfl) (by kernel_rfl) (fun _ _ _ h=>h) (Or.inl ⟨by rfl,?_⟩) hS ?_
 ·intro w' hw'
  go_simp
 simp only[qj,qz,qv]
 refine wpAnyY_one (i:=7) (by kernel_rfl) rfl (fun K' hK=>?_)
 go_simp
 go_at_call 63
 refine(HC0.out _ HX5.out.drew).mono ?_
 rintro e w' ⟨rfl,rfl⟩
 refine hK _ _ (fun _=>hS) ?_
 clear hK K'
 try simp only[Act.put,qj,qz,qv]
 refine wpAnyY_one (i:=8) (by kernel_rfl) rfl (fun K' hK=>?_)
 go_simp
 refine hK _ _ (fun _=>hS) ?_
 clear hK K'
 try simp only[Act.put,qj,qz,qv]
 refine wpAnyY_pureD 12 (i:=9) (v:= .tuple #[.int .u64 (bv (ad h0 x0 0#64)),.int .u64 (bv (cy h0 x0 0#64))]) rfl rfl (by kernel_rfl) (by kernel_rfl) (by kernel_rfl) (by kernel_rfl) (fun _ _ _ h=>h) (Or.inl ⟨by rfl,?_⟩) hS ?_
 ·intro w' hw'
  go_simp
 simp only[qj,qz,qv]
 refine wpAnyY_pureD 22 (i:=10) (v:= .int .u64 (bv (ad h0 x0 0#64))) rfl rfl (by kernel_rfl) (by kernel_rfl) (by kernel_rfl) (by kernel_rfl) (fun _ _ _ h=>h) (Or.inl ⟨by rfl,?_⟩) hS ?_
 ·intro w' hw'
  go_simp
 simp only[qj,qz,qv]
 refine wpAnyY_pureD 23 (i:=11) (v:= .int .u64 (bv (cy h0 x0 0#64))) rfl rfl (by kernel_rfl) (by kernel_rfl) (by kernel_rfl) (by kernel_rfl) (fun _ _ _ h=>h) (Or.inl ⟨by rfl,?_⟩) hS ?_
 ·intro w' hw'
  go_simp
 simp only[qj,qz,qv]
 refine wpAnyY_pureD 26 (i:=14) (v:= .pointer (some ⟨b,0,none⟩)) rfl rfl (by kernel_rfl) (by kernel_rfl) (by kernel_rfl) (by kernel_rfl) (fun _ _ _ h=>h) (Or.inl ⟨by rfl,?_⟩) hS ?_
 ·intro w' hw'
  go_simp
 simp only[qj,qz,qv]
 refine wpAnyY_one (i:=15) (by kernel_rfl) rfl (fun K' hK=>?_)
 go_simp
 refine hK _ _ (fun h=>absurd rfl h) ?_
 clear hK K' hS
 try simp only[Act.put,qj,qz,qv]
 refine wpAnyY_late (i:=16) (by kernel_rfl) (by kernel_rfl) rfl (fun K' hK=>?_)
 go_simp
 refine hK _ _ (wpAnyY_done (by kernel_rfl) ?_ _)
 clear hK K'
 go_wp2_with fail
 have HS6:=qq (show SumA (w5.setCell ⟨b,0,none⟩ (.int .u64 (bv (ad h0 x0 0#64)))).drew b (ad h0 x0 0#64,h1,h2) r0 r1 from Arr.set_ HS5.out 0 (ad h0 x0 0#64))
 have HX6:=qq (show Arr b8 (w5.setCell ⟨b,0,none⟩ (.int .u64 (bv (ad h0 x0 0#64)))).drew w.heap.size 143 (padP p)from HX5.out.far (p:=⟨b,0,none⟩) (by show w.heap.size≠b;omega) _)
 have HG6:=qq (show w.grownBy (w5.setCell ⟨b,0,none⟩ (.int .u64 (bv (ad h0 x0 0#64)))).drew (some b)from by
  have h:=grownBy_trans (r:=some b) (s:=some b) ⟨HB5.out.os,HB5.out.tape,HB5.out.output,HB5.out.size,fun k hk _=>HB5.out.block k hk⟩ (gb_set w5 b 0 (.int .u64 (bv (ad h0 x0 0#64)))) (fun g e=> .inl e)
  exact⟨h.os,h.tape,h.output,h.size,h.block⟩)
 generalize(w5.setCell ⟨b,0,none⟩ (.int .u64 (bv (ad h0 x0 0#64)))).drew=w6 at HS6 HX6 HG6 ⊢
 clear HS5 HX5 HB5 s0 f0
 have s1:w6.cell? ⟨b,1,none⟩=some (.int .u64 (bv h1)):=Arr.at_ HS6.out rfl
 have f1:=Arr.frozen HS6.out 1
 have hS:(fun w':World=>w'.cell? ⟨b,1,none⟩=some (.int .u64 (bv h1))) w6.drew:=s1
 refine wp_region_Y (by kernel_rfl) (fun w':World=>w'.cell? ⟨b,1,none⟩=some (.int .u64 (bv h1))) 16 ?_
 refine wpAnyY_pureD 28 (i:=0) (v:= .pointer (some ⟨b,0,none⟩)) rfl rfl (by kernel_rfl) (by kernel_rfl) (by kernel_rfl) (by kernel_rfl) (fun _ _ _ h=>h) (Or.inl ⟨by rfl,?_⟩) hS ?_
 ·intro w' hw'
  go_simp
 simp only[qj,qz,qv]
 refine wpAnyY_pureD 29 (i:=1) (v:= .pointer (some ⟨b,0,none⟩)) rfl rfl (by kernel_rfl) (by kernel_rfl) (by kernel_rfl) (by kernel_rfl) (fun _ _ _ h=>h) (Or.inl ⟨by rfl,?_⟩) hS ?_
 ·intro w' hw'
  go_simp
 simp only[qj,qz,qv]
 refine wpAnyY_pureD 30 (i:=2) (v:= .pointer (some ⟨b,0,none⟩)) rfl rfl (by kernel_rfl) (by kernel_rfl) (by kernel_rfl) (by kernel_rfl) (fun _ _ _ h=>h) (Or.inl ⟨by rfl,?_⟩) hS ?_
 ·intro w' hw'
  go_simp
 simp only[qj,qz,qv]
 refine wpAnyY_pureD 31 (i:=3) (v:= .pointer (some ⟨b,0,none⟩)) rfl rfl (by kernel_rfl) (by kernel_rfl) (by kernel_rfl) (by kernel_rfl) (fun _ _ _ h=>h) (Or.inl ⟨by rfl,?_⟩) hS ?_
 ·intro w' hw'
  go_simp
 simp only[qj,qz,qv]
 refine wpAnyY_pureD 32 (i:=4) (v:= .pointer (some ⟨b,1,none⟩)) rfl rfl (by kernel_rfl) (by kernel_rfl) (by kernel_rfl) (by kernel_rfl) (fun _ _ _ h=>h) (Or.inl ⟨by rfl,?_⟩) hS ?_
 ·intro w' hw'
  go_simp
 simp only[qj,qz,qv]
 refine wpAnyY_takeD 33 (i:=5) (v:= .int .u64 (bv h1)) rfl rfl (by kernel_rfl) (by kernel_rfl) (by kernel_rfl) (by kernel_rfl) (by kernel_rfl) (fun _ _ _ h=>h) (Or.inl ⟨by rfl,?_⟩) hS ?_
 ·intro w' hw'
  go_simp
 simp only[qj,qz,qv]
 refine wpAnyY_pureD 34 (i:=6) (v:= .slice (some ⟨w.heap.size,8,none⟩) 9 9) rfl rfl (by kernel_rfl) (by kernel_rfl) (by kernel_rfl) (by kernel_rfl) (fun _ _ _ h=>h) (Or.inl ⟨by rfl,?_⟩) hS ?_
 ·intro w' hw'
  go_simp
 simp only[qj,qz,qv]
 refine wpAnyY_pureD 36 (i:=8) (v:= .int .u64 (bv (cy h0 x0 0#64))) rfl rfl (by kernel_rfl) (by kernel_rfl) (by kernel_rfl) (by kernel_rfl) (fun _ _ _ h=>h) (Or.inl ⟨by rfl,?_⟩) hS ?_
 ·intro w' hw'
  go_simp
 simp only[qj,qz,qv]
 refine wpAnyY_pureD 40 (i:=13) (v:= .pointer (some ⟨b,0,none⟩)) rfl rfl (by kernel_rfl) (by kernel_rfl) (by kernel_rfl) (by kernel_rfl) (fun _ _ _ h=>h) (Or.inl ⟨by rfl,?_⟩) hS ?_
 ·intro w' hw'
  go_simp
 simp only[qj,qz,qv]
 refine wpAnyY_pureD 41 (i:=14) (v:= .pointer (some ⟨b,0,none⟩)) rfl rfl (by kernel_rfl) (by kernel_rfl) (by kernel_rfl) (by kernel_rfl) (fun _ _ _ h=>h) (Or.inl ⟨by rfl,?_⟩) hS ?_
 ·intro w' hw'
  go_simp
 simp only[qj,qz,qv]
 refine wpAnyY_one (i:=7) (by kernel_rfl) rfl (fun K' hK=>?_)
 go_simp
 go_at_call 63
 refine(HC1.out _ HX6.out.drew).mono ?_
 rintro e w' ⟨rfl,rfl⟩
 refine hK _ _ (fun _=>hS) ?_
 clear hK K'
 try simp only[Act.put,qj,qz,qv]
 refine wpAnyY_one (i:=9) (by kernel_rfl) rfl (fun K' hK=>?_)
 go_simp
 refine hK _ _ (fun _=>hS) ?_
 clear hK K'
 try simp only[Act.put,qj,qz,qv]
 refine wpAnyY_pureD 27 (i:=10) (v:= .tuple #[.int .u64 (bv (ad h1 x1 (cy h0 x0 0#64))),.int .u64 (bv (cy h1 x1 (cy h0 x0 0#64)))]) rfl rfl (by kernel_rfl) (by kernel_rfl) (by kernel_rfl) (by kernel_rfl) (fun _ _ _ h=>h) (Or.inl ⟨by rfl,?_⟩) hS ?_
 ·intro w' hw'
  go_simp
 simp only[qj,qz,qv]
 refine wpAnyY_pureD 38 (i:=11) (v:= .int .u64 (bv (ad h1 x1 (cy h0 x0 0#64)))) rfl rfl (by kernel_rfl) (by kernel_rfl) (by kernel_rfl) (by kernel_rfl) (fun _ _ _ h=>h) (Or.inl ⟨by rfl,?_⟩) hS ?_
 ·intro w' hw'
  go_simp
 simp only[qj,qz,qv]
 refine wpAnyY_pureD 39 (i:=12) (v:= .int .u64 (bv (cy h1 x1 (cy h0 x0 0#64)))) rfl rfl (by kernel_rfl) (by kernel_rfl) (by kernel_rfl) (by kernel_rfl) (fun _ _ _ h=>h) (Or.inl ⟨by rfl,?_⟩) hS ?_
 ·intro w' hw'
  go_simp
 simp only[qj,qz,qv]
 refine wpAnyY_pureD 42 (i:=15) (v:= .pointer (some ⟨b,1,none⟩)) rfl rfl (by kernel_rfl) (by kernel_rfl) (by kernel_rfl) (by kernel_rfl) (fun _ _ _ h=>h) (Or.inl ⟨by rfl,?_⟩) hS ?_
 ·intro w' hw'
  go_simp
 simp only[qj,qz,qv]
 refine wpAnyY_one (i:=16) (by kernel_rfl) rfl (fun K' hK=>?_)
 go_simp
 refine hK _ _ (fun h=>absurd rfl h) ?_
 clear hK K' hS
 try simp only[Act.put,qj,qz,qv]
 refine wpAnyY_late (i:=17) (by kernel_rfl) (by kernel_rfl) rfl (fun K' hK=>?_)
 go_simp
 refine hK _ _ (wpAnyY_done (by kernel_rfl) ?_ _)
 clear hK K'
 go_wp2_with fail
 have HS7:=qq (show SumA (w6.setCell ⟨b,1,none⟩ (.int .u64 (bv (ad h1 x1 (cy h0 x0 0#64))))).drew b (ad h0 x0 0#64,ad h1 x1 (cy h0 x0 0#64),h2) r0 r1 from Arr.set_ HS6.out 1 (ad h1 x1 (cy h0 x0 0#64)))
 have HX7:=qq (show Arr b8 (w6.setCell ⟨b,1,none⟩ (.int .u64 (bv (ad h1 x1 (cy h0 x0 0#64))))).drew w.heap.size 143 (padP p)from HX6.out.far (p:=⟨b,1,none⟩) (by show w.heap.size≠b;omega) _)
 have HG7:=qq (show w.grownBy (w6.setCell ⟨b,1,none⟩ (.int .u64 (bv (ad h1 x1 (cy h0 x0 0#64))))).drew (some b)from by
  have h:=grownBy_trans (r:=some b) (s:=some b) HG6.out (gb_set w6 b 1 (.int .u64 (bv (ad h1 x1 (cy h0 x0 0#64))))) (fun g e=> .inl e)
  exact⟨h.os,h.tape,h.output,h.size,h.block⟩)
 generalize(w6.setCell ⟨b,1,none⟩ (.int .u64 (bv (ad h1 x1 (cy h0 x0 0#64))))).drew=w7 at HS7 HX7 HG7 ⊢
 clear HS6 HX6 HG6 s1 f1
 have s2:w7.cell? ⟨b,2,none⟩=some (.int .u64 (bv h2)):=Arr.at_ HS7.out rfl
 have f2:=Arr.frozen HS7.out 2
 have c16:=HX2.out w7 HX7.out
 go_region
 have HS8:=qq (show SumA (w7.setCell ⟨b,2,none⟩ (.int .u64 (bv (h2+(x2.setWidth 64+cy h1 x1 (cy h0 x0 0#64)))))).drew b (addP (h0,h1,h2) x0 x1 (x2.setWidth 64)) r0 r1 from Arr.set_ HS7.out 2 (h2+(x2.setWidth 64+cy h1 x1 (cy h0 x0 0#64))))
 have HG8:=qq (show w.grownBy (w7.setCell ⟨b,2,none⟩ (.int .u64 (bv (h2+(x2.setWidth 64+cy h1 x1 (cy h0 x0 0#64)))))).drew (some b)from by
  have h:=grownBy_trans (r:=some b) (s:=some b) HG7.out (gb_set w7 b 2 (.int .u64 (bv (h2+(x2.setWidth 64+cy h1 x1 (cy h0 x0 0#64)))))) (fun g e=> .inl e)
  exact⟨h.os,h.tape,h.output,h.size,h.block⟩)
 generalize(w7.setCell ⟨b,2,none⟩ (.int .u64 (bv (h2+(x2.setWidth 64+cy h1 x1 (cy h0 x0 0#64)))))).drew=w8 at HS8 HG8 ⊢
 clear HS7 HX7 HG7 s2 f2 c16
 go_wp2_with fail
 refine(times_any w8 b _ _ _ r0 r1 HS8.out).mono ?_
 rintro e w9 ⟨⟨v9,rfl⟩,hs9,hg9⟩
 have HS9:=qq hs9
 have HG9:=qq (grownBy_trans HG8.out hg9 (fun g e=> .inl e))
 clear hs9 hg9
 go_wp2_with fail
 go_end0
 refine⟨⟨_,rfl⟩,?_,HG9.out⟩
 obtain⟨e0,e1,e2⟩:=HXX.out
 rw[←e0,←e1,←e2]
 exact HS9.out
attribute [local go_sem] add64_zero add64_five add64_none add64_go
theorem size16e:(Tryd.prog.info? 102).map (·.size)=some 16:=by kernel_rfl
def lessN(h:BitVec 64×BitVec 64×BitVec 64):Nat→BitVec 64×BitVec 64×BitVec 64
 |0=>h
 |i+1=>lessW (lessN h i)
set_option maxRecDepth 100000 in
set_option maxHeartbeats 4000000 in
theorem polyEnd_any(w:World)(b:Nat)(h0 h1 h2 r0 r1:BitVec 64)(hs:SumA w b (h0,h1,h2) r0 r1)(key:List (BitVec 8))(hk:key.length=32):
 Calls Tryd.prog 66 #[.pointer (some ⟨b,0,none⟩),.agg (key.map b8).toArray] w fun e w'=>e= .returned (.agg ((le8 (endW (h0,h1,h2) (low8 (key.drop 16)) (low8 (key.drop 24))).1++le8 (endW (h0,h1,h2) (low8 (key.drop 16)) (low8 (key.drop 24))).2).map b8).toArray)∧Below w.heap.size w w':=by
 have HS:=qq hs
 have hlt:b<w.heap.size:=Arr.lt hs
 have HK:=qq hk
 have s0:w.cell? ⟨b,0,none⟩=some (.int .u64 (bv h0)):=Arr.at_ hs rfl
 have s1:w.cell? ⟨b,1,none⟩=some (.int .u64 (bv h1)):=Arr.at_ hs rfl
 have s2:w.cell? ⟨b,2,none⟩=some (.int .u64 (bv h2)):=Arr.at_ hs rfl
 clear hs hk
 go_enter Tryd.func66,Tryd.ntmps66
 go_wp2_with fail
 obtain⟨H,hH0,hHs⟩:∃H:Nat→BitVec 64×BitVec 64×BitVec 64,H 0=(h0,h1,h2)∧∀i,H (i+1)=lessW (H i):=⟨lessN (h0,h1,h2),rfl,fun _=>rfl⟩
 have HHs:=qq hHs
 have HK1:=qq (Arr.alloc (Arr.alloc (Arr.new b8 w 54 key) (.cells ((List.replicate 16 0#8).map b8).toArray 102)) (.cells ([h0,h1,h2].map u64v).toArray 128))
 have HO1:=qq (Arr.alloc (Arr.at_size b8 (w:=w.alloc (.cells (key.map b8).toArray 54)) (k:=w.heap.size+1) 102 (List.replicate 16 0#8) (World.size_alloc ..)) (.cells ([h0,h1,h2].map u64v).toArray 128))
 have HH1:=qq (Arr.at_size u64v (w:=(w.alloc (.cells (key.map b8).toArray 54)).alloc (.cells ((List.replicate 16 0#8).map b8).toArray 102)) (k:=w.heap.size+1+1) 128 [h0,h1,h2] (by rw[World.size_alloc,World.size_alloc]))
 have HB1:=qq (show Below w.heap.size w (((w.alloc (.cells (key.map b8).toArray 54)).alloc (.cells ((List.replicate 16 0#8).map b8).toArray 102)).alloc (.cells ([h0,h1,h2].map u64v).toArray 128))from(((Below.refl _ w).alloc (Nat.le_refl _) _).alloc (by simp) _).alloc (by simp;omega) _)
 have hz1':(((w.alloc (.cells (key.map b8).toArray 54)).alloc (.cells ((List.replicate 16 0#8).map b8).toArray 102)).alloc (.cells ([h0,h1,h2].map u64v).toArray 128)).heap.size=w.heap.size+1+1+1:=by simp
 change Code.wp _ _ _ _ (((w.alloc (.cells (key.map b8).toArray 54)).alloc (.cells ((List.replicate 16 0#8).map b8).toArray 102)).alloc (.cells ([h0,h1,h2].map u64v).toArray 128))
 generalize((w.alloc (.cells (key.map b8).toArray 54)).alloc (.cells ((List.replicate 16 0#8).map b8).toArray 102)).alloc (.cells ([h0,h1,h2].map u64v).toArray 128)=w1 at HK1 HO1 HH1 HB1 hz1' ⊢
 have hz1:w1.heap.size=w.heap.size+1+1+1:=by have:=HH1.out.lt;exact hz1'
 go_loopw [18] (fun iv wr=>∃i:Nat,i≤2∧iv= .int .i64 (i:Int)∧Arr u64v wr (w.heap.size+1+1) 128 [(H i).1,(H i).2.1,(H i).2.2]∧w1.grownBy wr (some (w.heap.size+1+1))) (fun iv _=>2-(intOf iv).toNat)
 case atStart=>exact⟨0,by omega,rfl,by rw[hH0];exact HH1.out,World.grownBy.refl _ _⟩
 case round=>
  obtain⟨i,hi2,rfl,ha,hg⟩:=hrel
  by_cases hlt2:i<2
  ·obtain⟨p0,p1,p2,hp⟩:∃p0 p1 p2,H i=(p0,p1,p2):=⟨_,_,_,rfl⟩
   have HNx:=qq (show H (i+1)=lessW (p0,p1,p2) by rw[HHs.out,hp])
   rw[hp]at ha
   have HA:=qq ha
   have HG:=qq hg
   have s0:wr.cell? ⟨w.heap.size+1+1,0,none⟩=some (.int .u64 (bv p0)):=ha.at_ rfl
   have s1:wr.cell? ⟨w.heap.size+1+1,1,none⟩=some (.int .u64 (bv p1)):=ha.at_ rfl
   have s2:wr.cell? ⟨w.heap.size+1+1,2,none⟩=some (.int .u64 (bv p2)):=ha.at_ rfl
   have k1:(cy p0 5#64 0#64).toNat≤1:=cy_le _ _ _ (by simp)
   have f0:=ha.frozen 0
   have f1:=ha.frozen 1
   have f2:=ha.frozen 2
   have hli:(i:Int)<2:=by omega
   clear hp ha hg
   obtain⟨T,hT⟩:∃T,T=p2+cy p1 0#64 (cy p0 5#64 0#64):=⟨_,rfl⟩
   have HT:=qq hT
   by_cases h4:4≤T.toNat
   ·have hge:(4:Int)≤bv (p2+cy p1 0#64 (cy p0 5#64 0#64)):=by rw[←hT];unfold bv;omega
    clear hT
    go_wp2_with fail
    refine⟨⟨i+1,by omega,by simp,?_,?_⟩,by simp[intOf];omega⟩
    ·rw[HNx.out]
     have e:lessW (p0,p1,p2)=(ad p0 5#64 0#64,ad p1 0#64 (cy p0 5#64 0#64),T-4#64):=by
      rw[HT.out]at h4 ⊢;exact if_pos h4
     rw[e,HT.out]
     exact((HA.out.set_ 0 (ad p0 5#64 0#64)).set_ 1 (ad p1 0#64 (cy p0 5#64 0#64))).set_ 2 (p2+cy p1 0#64 (cy p0 5#64 0#64)-4#64)
    ·exact grownBy_trans (grownBy_trans (grownBy_trans HG.out (gb_set _ _ _ _) (fun g e=> .inl e)) (gb_set _ _ _ _) (fun g e=> .inl e)) (gb_set _ _ _ _) (fun g e=> .inl e)
   ·have hge:bv (p2+cy p1 0#64 (cy p0 5#64 0#64))<(4:Int):=by rw[←hT];unfold bv;omega
    clear hT
    go_wp2_with fail
    refine⟨⟨i+1,by omega,by simp,?_,HG.out⟩,by simp[intOf];omega⟩
    rw[HNx.out]
    have e:lessW (p0,p1,p2)=(p0,p1,p2):=by
     rw[HT.out]at h4;exact if_neg h4
    rw[e]
    exact HA.out
  ·obtain rfl:i=2:=by omega
   obtain⟨q0,q1,q2,hq⟩:∃q0 q1 q2,H 2=(q0,q1,q2):=⟨_,_,_,rfl⟩
   have hq':lessW (lessW (h0,h1,h2))=(q0,q1,q2):=by rw[←hq,HHs.out,HHs.out,hH0]
   rw[hq]at ha
   obtain⟨x0,hx0⟩:∃x,x=low8 (key.drop 16):=⟨_,rfl⟩
   obtain⟨x1,hx1⟩:∃x,x=low8 (key.drop 24):=⟨_,rfl⟩
   obtain⟨a,haE⟩:∃a,a=ad q0 x0 0#64:=⟨_,rfl⟩
   obtain⟨b',hbE⟩:∃b',b'=ad q1 x1 (cy q0 x0 0#64):=⟨_,rfl⟩
   have HE:=qq (show endW (h0,h1,h2) (low8 (key.drop 16)) (low8 (key.drop 24))=(a,b') by unfold endW;rw[hq',←hx0,←hx1,haE,hbE];exact(Eq.refl (ad q0 x0 0#64,ad q1 x1 (cy q0 x0 0#64))))
   have HBr:=qq (show Below w.heap.size w wr from HB1.out.grown hg HB1.out.size (fun k e=>by have:=Option.some.inj e;omega))
   have HKr:=qq (show Arr b8 wr w.heap.size 54 key from HK1.out.grown hg (by intro e;have:=Option.some.inj e;omega))
   have HOr:=qq (show Arr b8 wr (w.heap.size+1) 102 (List.replicate 16 0#8)from HO1.out.grown hg (by intro e;have:=Option.some.inj e;omega))
   have hzr:w.heap.size+1+1+1≤wr.heap.size:=by have:=hg.size;omega
   have s0:wr.cell? ⟨w.heap.size+1+1,0,none⟩=some (.int .u64 (bv q0)):=ha.at_ rfl
   have s1:wr.cell? ⟨w.heap.size+1+1,1,none⟩=some (.int .u64 (bv q1)):=ha.at_ rfl
   have HC0:=qq (show∀W:World,Arr b8 W w.heap.size 54 key→Calls Tryd.prog 63 #[.slice (some ⟨w.heap.size,16,none⟩) 16 16] W fun e w'=>e= .returned (.int .u64 (bv x0))∧W=w' from fun W h=>by rw[hx0];exact low_any W _ _ _ _ _ (h.rd 16) (by rw[List.length_drop,HK.out]) (by omega))
   have HC1:=qq (show∀W:World,Arr b8 W w.heap.size 54 key→Calls Tryd.prog 63 #[.slice (some ⟨w.heap.size,24,none⟩) 8 8] W fun e w'=>e= .returned (.int .u64 (bv x1))∧W=w' from fun W h=>by rw[hx1];exact low_any W _ _ _ _ _ (h.rd 24) (by rw[List.length_drop,HK.out]) (by omega))
   have k2:(cy q0 x0 0#64).toNat≤1:=cy_le _ _ _ (by simp)
   have HAe:=qq haE
   have HBe:=qq hbE
   clear hx0 hx1 haE hbE hq hq' ha hg HHs hHs hH0 HK1 HO1 HH1 HB1 hz1
   go_wp2_with fail
   go_quiet ((go_at_call 63;exact quiet_same (HC0.out _ (HKr.out.drewN _))))
   go_wp2_with fail
   have s1':(wr.drewN nq).cell? ⟨w.heap.size+1+1,1,none⟩=some (.int .u64 (bv q1)):=s1
   have HK2:=qq (HKr.out.drewN nq)
   have HO2:=qq (HOr.out.drewN nq)
   have HB2:=qq (below_drewN HBr.out nq)
   have hz2:w.heap.size+1+1+1≤(wr.drewN nq).heap.size:=hzr
   clear s0 s1 HKr HOr HBr hzr
   generalize wr.drewN nq=w2 at s1' HK2 HO2 HB2 hz2 ⊢
   go_quiet ((go_at_call 63;exact quiet_same (HC1.out _ (HK2.out.drewN _))))
   rw[←HBe.out,←HAe.out]
   have HO3:=qq (HO2.out.drewN nq)
   have HB3:=qq (below_drewN HB2.out nq)
   have hz3:w.heap.size+1+1+1≤(w2.drewN nq).heap.size:=hz2
   clear s1' HK2 HO2 HB2 hz2 HC0 HC1 k2
   generalize w2.drewN nq=w3 at HO3 HB3 hz3 ⊢
   go_wp2_with fail
   have hl8:∀n,(le8 n).length=8:=fun n=>by simp[le8]
   have tok1:True:=trivial
   have tok2:True:=trivial
   go_region_held3 (fun _=>True) (trivial)
    (first
     |(go_simp;go_at_call 46;have _t:=tok1;clear tok1;refine(put_any _ _).mono ?_;rintro e w5 ⟨v5,rfl,ho5,hb5⟩;obtain⟨A5,c5,rfl,hr5,-,-,-⟩:=ho5.shape' (hl8 _);have hz5:w3.heap.size≤w5.heap.size:=hb5.size;have HB5:=qq (show Below w3.heap.size w3 w5 from(Below.refl _ w3).drew.trans hb5);have HR5:=qq hr5;clear hb5 hr5 ho5)
     |(go_simp;go_at_call 46;have _t:=tok2;clear tok2;refine(put_any _ _).mono ?_;rintro e w6 ⟨v6,rfl,ho6,hb6⟩;obtain⟨A6,c6,rfl,hr6,-,-,-⟩:=ho6.shape' (hl8 _);have hz6:w5.heap.size≤w6.heap.size:=hb6.size;have HB6:=qq (show Below w3.heap.size w3 w6 from HB5.out.trans (hb6.mono hz5));have HR6:=qq hr6;have HR56:=qq ((HR5.out.below hb6).more hz6);clear hb6 hr6 ho6)
     |(go_simp;go_at_call 29;refine(concat_two w6 w6.heap.size 8 c5 8 c6 A5 A6 (le8 a) (le8 b') HR56.out HR6.out (Nat.le_refl _) (hl8 _).symm (hl8 _).symm (by rw[hl8,hl8];omega)).mono ?_;rintro e w7 ⟨v7,rfl,ho7,hb7⟩;obtain⟨A7,c7,rfl,hr7,-,-,-⟩:=ho7.shape' (n:=16) (by rw[List.length_append,hl8,hl8]);have hz7:w6.heap.size≤w7.heap.size:=hb7.size;have HB7:=qq (show Below w3.heap.size w3 w7 from HB6.out.trans (hb7.mono (by omega)));have HR7:=qq hr7;have HO7:=qq (HO3.out.below HB7.out (by omega));clear hb7 hr7 ho7)
     |(refine step_copy_splice rfl (.tmp 62) (.tmp 68) 33 33 rfl 5 Tryd.underlying33 sizeU8a (some ⟨w.heap.size+1,0,none⟩) A7 16 16 16 c7 rfl rfl (w.heap.size+1) 0 ((List.replicate 16 0#8).map b8) 102 HO7.out ((le8 a++le8 b').map b8) (by rw[List.length_map,List.length_append,hl8,hl8];rfl) (fun hp=>⟨rfl,by obtain⟨b9,off',e',hb',hc'⟩:=HR7.out (by simpa using hp);exact⟨_,e',HR7.out.cells e'⟩⟩) (by rw[List.length_map,List.length_map,List.length_replicate,List.length_append,hl8,hl8];omega) (fun v hv=>by obtain⟨x,-,rfl⟩:=List.mem_map.1 hv;exact b8_one x) (w.heap.size+1) w7 (Below.refl _ _) (Nat.le_refl _) ?_;intro w8 hx8 hb8))
   have e16:splice ((List.replicate 16 0#8).map b8) 0 ((le8 a++le8 b').map b8)=(le8 a++le8 b').map b8:=by
    rw[splice_m,List.length_append,hl8,hl8];simp
   have HO8:=qq (show Arr b8 w8 (w.heap.size+1) 102 (le8 a++le8 b')from by have:=hx8.out;rw[e16]at this;exact this)
   have HB8:=qq (show Below w.heap.size w w8 from(HB3.out.trans (HB7.out.mono (by omega))).trans (hb8.mono (by omega)))
   have hl16:(le8 a++le8 b').length=16:=by rw[List.length_append,hl8,hl8]
   clear hx8 hb8 e16 HO7 HR7 HB7
   obtain⟨O,hO⟩:∃O,O=le8 a++le8 b':=⟨_,rfl⟩
   rw[←hO]at HO8 hl16
   have HML:=qq hl16
   have HOe:=qq hO
   clear hO hl16
   go_wp2_with (first
    |(refine wpList_load_arr rfl 102 (.tmp 4) rfl (w.heap.size+1) rfl _ O HO8.out _ Tryd.underlying102 rfl (by rw[size16e,HML.out]) ?_)
    |(refine wpList_store_arr rfl 102 (.tmp 4) (.tmp 70) rfl (w.heap.size+1) rfl O rfl _ _ HO8.out rfl (by rw[size16e,HML.out]) b8_one' ?_;intro w9 hp9 hg9;have HP9:=qq hp9;have HG9:=qq hg9;clear hp9 hg9))
   refine bodyPost_ret (v:= .agg (O.map b8).toArray) (results_arr (g:=w.heap.size+1) rfl _ _ _ _ _ rfl HP9.out Tryd.underlying102 rfl (by rw[size16e,HML.out])) rfl ?_
   refine⟨?_,HB8.out.grown HG9.out HB8.out.size (fun k e=>by cases e;omega)⟩
   rw[HE.out,HOe.out]
end Go.Proofs.YtelgjaiknaalkaaDoor
