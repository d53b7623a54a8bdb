/- Lemmas, joined and made smaller by a program. -/
import Derived.Test.YtelgjaiknaalkaaGreatDoorPm30
import Derived.Test.YtelgjaiknaalkaaGreatDoorPm31
import Derived.Test.YtelgjaiknaalkaaGreatDoorPm44
import Derived.Test.YtelgjaiknaalkaaGreatDoorPm12
import Derived.OpenShut
import Derived.Test.YtelgjaiknaalkaaGreatDoorPm20
import Derived.Lib.LaidTab
import Derived.Stop.LaidErr
import Derived.ProofKit
open Go.Lib renaming hid → qq
open List renaming setIfInBounds_toArray → qj
open List renaming set_cons_zero → qz
open List renaming set_cons_succ → qv
set_option linter.unusedVariables false
set_option linter.unusedSimpArgs false
namespace Go.Proofs.YtelgjaiknaalkaaGreatDoor
open Go.RowKit
set_option maxRecDepth 100000
structure MayAt(w wr:World)(gB gX k:Nat)(gr:List (BitVec 8))(b:BX)(x:RX):Prop where
 gl:gr.length=32
 ga:Arr b8 wr w.heap.size 23 gr
 box:BoxAt wr (w.heap.size+1) gB b
 rb:Blk wr gX 34 x.cells
 rx:x.At wr
 m:x.m=b.m
 le:b.es.length≤k
 ap:∀j∈x.foot,j∉BX.foot gB b
 gx:gX∉BX.foot gB b∧gX∉x.foot∧w.heap.size<gX
 gs:w.heap.size∉x.foot
 bl:Below w.heap.size w wr
section
variable{w wr w':World}{gB gX k:Nat}{gr:List (BitVec 8)}{b:BX}{x:RX}
theorem MayAt.below(h:MayAt w wr gB gX k gr b x)(hb:Below wr.heap.size wr w'):MayAt w w' gB gX k gr b x:=
 ⟨h.gl,h.ga.below hb h.ga.lt,h.box.below hb,h.rb.below hb h.rb.lt,h.rx.below hb (Nat.le_refl _),h.m,h.le,h.ap,h.gx,h.gs,h.bl.trans (hb.mono h.bl.size)⟩
theorem MayAt.out(h:MayAt w wr gB gX k gr b x):w.heap.size∉BX.foot gB b:=fun hm=>by
 have:=(h.box.foot_lt _ hm).1
 omega
theorem MayAt.group(h:MayAt w wr gB gX k gr b x)(u:BitVec 8):MayAt w (wr.setCell ⟨w.heap.size,0,none⟩ (b8 u)) gB gX k (gr.set 0 u) b x:=by
 have hz:(wr.setCell ⟨w.heap.size,0,none⟩ (b8 u)).heap.size=wr.heap.size:=by simp[World.setCell]
 have hs:∀j,j≠w.heap.size→(wr.setCell ⟨w.heap.size,0,none⟩ (b8 u)).heap[j]?=wr.heap[j]?:=fun j hj=>Below.heap_setCell _ _ _ _ hj
 refine⟨by rw[List.length_set];exact h.gl,h.ga.set_ 0 u,h.box.of_same (fun j hj=>hs j (fun e=>h.out (e▸hj))),(hs gX (by have:=h.gx.2.2;omega)).trans h.rb,h.rx.same (Nat.le_of_eq hz.symm) (fun j hj=>hs j (fun e=>h.gs (e▸hj))),h.m,h.le,h.ap,h.gx,h.gs,h.bl.setCell (Nat.le_refl _) _⟩
theorem MayAt.step{w5 w6 w7 w8:World}{b':BX}{y:RX}(h:MayAt w wr gB gX k gr b x)(s:BStep wr w5 (w.heap.size+1) gB b b')(hm:y.m=b'.m)(hl:b'.es.length≤k+1)(hy:y.At w6)(hf:∀j∈y.foot,j∈x.foot∨w5.heap.size≤j)(h6:Below w5.heap.size w5 w6)
 (h7:Below w6.heap.size w6 w7)(h8:w7.grownBy w8 (some gX))(hb8:Blk w8 gX 34 y.cells):MayAt w w8 gB gX (k+1) gr b' y:=by
 have hz5:=s.frm.size
 have hz6:=h6.size
 have hz7:=h7.size
 have hgx5:gX<wr.heap.size:=h.rb.lt
 have hgs5:w.heap.size<wr.heap.size:=h.ga.lt
 have hxn:gX∉BX.foot gB b':=fun hm=>by
  rcases s.foot _ hm with h1|h1
  ·exact h.gx.1 h1
  ·omega
 have hyn:gX∉y.foot:=fun hm=>by
  rcases hf _ hm with h1|h1
  ·exact h.gx.2.1 h1
  ·omega
 have hsb:w.heap.size∉BX.foot gB b:=h.out
 have ha5:Arr b8 w5 w.heap.size 23 gr:=(s.frm.block _ h.ga.lt hsb).trans h.ga
 have hB78:Below w.heap.size w w8:=by
  have h5:Below w.heap.size w w5:=h.bl.trans ⟨s.frm.os,s.frm.tape,s.frm.output,s.frm.size,fun j hj=>s.frm.block j (by omega) (fun hm=>by have:=(h.box.foot_lt _ hm).1;omega)⟩
  exact(((h5.trans (h6.mono h5.size)).trans (h7.mono (by omega))).grown h8 (by omega) (fun j e=>by injection e with e;have:=h.gx.2.2;omega))
 refine⟨h.gl,?_,?_,hb8,?_,hm,hl,fun j hj hm=>?_,⟨hxn,hyn,h.gx.2.2⟩,fun hm=>?_,hB78⟩
 ·exact((ha5.below h6 (by omega)).below h7 (by omega)).grown h8 (fun e=>by injection e with e;have:=h.gx.2.2;omega)
 ·refine((s.box.below h6).below h7).of_same (fun j hj=>h8.block j ?_ (fun e=>?_))
  ·have:=(s.box.foot_lt _ hj).2;omega
  ·injection e with e;exact hxn (e▸hj)
 ·exact(hy.below h7 (Nat.le_refl _)).grown h8 hyn
 ·rcases hf _ hj with h1|h1
  ·rcases s.foot _ hm with h2|h2
   ·exact h.ap _ h1 h2
   ·have:=h.rx.lt _ h1;omega
  ·have:=(s.box.foot_lt _ hm).2;omega
 ·rcases hf _ hm with h1|h1
  ·exact h.gs h1
  ·omega
end
theorem enterM_len{b:BM}{grp s:List (BitVec 8)}{no lv lf:Int}:(enterM b grp no lv lf s).es.length≤b.es.length+1:=by
 unfold enterM
 split
 ·show(pushE b.es _).length≤_
  unfold pushE
  split<;>simp
 ·omega
set_option maxHeartbeats 8000000 in
theorem enters_any(w:World)(hT:Tab w)(grp:List (BitVec 8))(hg:grp.length=32)(no lv lf:Int)(l0: -9223372036854775808≤lv)(l1:lv<9223372036854775808):
 Calls Tryz.prog 7 #[arrV b8 grp,.int .i64 no,.int .i64 lv,.int .i64 lf] w fun e w'=>e= .returned (.bool true)∧Below w.heap.size w w':=by
 have hb1:∀w:World,(Instr.build 23 #[(0,Value.int .u8 1)]).run Tryz.prog w= .ok (.agg ((exG 1#8).map b8).toArray) w:=fun w=>run_build w _ _ _ (by kernel_rfl)
 have hb2:∀w:World,(Instr.build 34 #[]).run Tryz.prog w= .ok (.agg zeroRB.toArray) w:=fun w=>run_build w _ _ _ (by kernel_rfl)
 have hbase:=hT.lt
 obtain⟨w1,hw1⟩:∃w1,w1=w.alloc (.cells (grp.map b8).toArray 23):=⟨_,rfl⟩
 have HA1:=qq (show Arr b8 w1 w.heap.size 23 grp by rw[hw1];exact Arr.new b8 w 23 grp)
 have HB1:=qq (show Below w.heap.size w w1 by rw[hw1];exact(Below.refl _ w).alloc (Nat.le_refl _) _)
 have hz1:w1.heap.size=w.heap.size+1:=by rw[hw1];simp
 have HAl:=qq (alive23_any w1 (hT.below HB1.out))
 have HTb:=qq (show∀W,Below w.heap.size w W→Tab W from fun W hb=>hT.below hb)
 have HW1:=qq hw1
 have HG:=qq hg
 have HZ1:=qq hz1
 rw[arrV_mk]
 clear hw1 hg hT hz1
 go_enter Tryz.func7,Tryz.ntmps7
 go_upto_region 1 with fail
 rw[←HW1.out]
 go_wp2_with fail
 refine HAl.out.mono ?_
 rintro e w2 ⟨rfl,hb2'⟩
 have HA2:=qq (HA1.out.below hb2' HA1.out.lt)
 have HB2:=qq (HB1.out.trans (hb2'.mono HB1.out.size))
 have hz2:w.heap.size+1≤w2.heap.size:=by have:=hb2'.size;have:=HZ1.out;omega
 clear hb2'
 go_wp2_with fail
 refine(boxNew_any _).mono ?_
 rintro e w3 ⟨rfl,hbx,hb3⟩
 have HBx:=qq hbx
 have HA3:=qq (HA2.out.below hb3 HA2.out.lt)
 have HB3:=qq (HB2.out.trans (hb3.mono HB2.out.size))
 have hz3:=hbx.gB_lt
 clear hbx hb3
 obtain⟨gB,hgB⟩:∃gB,gB=w2.heap.size:=⟨_,rfl⟩
 rw[←hgB]
 rw[←hgB]at HBx hz3
 have HgB:=qq hgB
 clear hgB
 go_upto_region 4 with(first
  |(refine wpList_bparts rfl 34 [] rfl zeroRB.toArray [] rfl built_zeroRB ?_)
  |(refine wpList_store_piece rfl 34 (.tmp 10) (.tmp 18) rfl w3.heap.size 0 rfl zeroRB rfl 34 _ [] zeroRB [] (Blk.new w3 _ zeroRB) (by simp) rfl rfl infoRBox (boxR_one rfl) ?_;intro w4 hx4 hg4))
 try simp only[Act.put,qj,qz,qv]
 obtain⟨gX,hgX⟩:∃gX,gX=w3.heap.size:=⟨_,rfl⟩
 have hB34:Below w3.heap.size w3 w4:=((Below.refl _ w3).alloc (Nat.le_refl _) (.cells zeroRB.toArray 34)).grown hg4 (by simp) (fun k e=>by cases e;exact Nat.le_refl _)
 have HM0:=qq (show MayAt w w4 gB gX 0 grp ⟨List.replicate 32 0#8,.slice none 0 0,[],false⟩ emptyRX from
  ⟨HG.out,HA3.out.below hB34 HA3.out.lt,(HBx.out.less (by have:=HgB.out;omega)).below hB34,by rw[hgX];exact hx4.cast (by simp;rfl),emptyRX_at _,rfl,Nat.le_refl _,(fun j hj=>by simp[RX.foot,optBlk,emptyRX]at hj),
   ⟨fun hm=>by have:=(HBx.out.foot_lt _ hm).2;omega,by simp[RX.foot,optBlk,emptyRX],by have:=HgB.out;omega⟩,by simp[RX.foot,optBlk,emptyRX],HB3.out.trans (hB34.mono HB3.out.size)⟩)
 rw[←hgX]
 clear hgX hB34 hx4 hg4 HA1 HA2 HA3 HB1 HB2 HB3 HBx HAl
 go_upto_region 5 with fail
 go_loopw [19] (fun iv wr=>∃(k:Nat) (gr:List (BitVec 8)) (b:BX) (x:RX),iv= .int .i64 (k:Int)∧k≤3∧MayAt w wr gB gX k gr b x) (fun iv _=>3-(intOf iv).toNat)
 case atStart=>exact⟨0,grp,_,_,rfl,by omega,HM0.out⟩
 case round=>
  clear HM0
  obtain⟨k,gr,b,x,rfl,hk,hM⟩:=hrel
  have HM:=qq hM
  by_cases hlt:k<3
  ·have hlt2:(k:Int)<3:=by omega
   have hb4:b.es.length≤4:=by have:=hM.le;omega
   have en:=enter_step hM.box hb4 (HTb.out wr hM.bl) (by omega) gr (exG 1#8) hM.gl (exG_len _) no lv lf l0 l1
   obtain⟨E,hE⟩:∃E,E=enterE b.m gr no lv lf:=⟨_,rfl⟩
   rw[arrV_mk,arrV_mk,←hE]at en
   have HEn:=qq en
   have HE:=qq hE
   obtain⟨Cx,hCx⟩:∃Cx,Cx=x.cells:=⟨_,rfl⟩
   have HCx:=qq hCx
   have HCl:=qq (show Cx.length=34 by rw[hCx];exact boxR_len hM.rx.glen)
   clear hM en hE hCx
   go_upto_region 7 with fail
   go_wp2_with (refine wpList_load_arr rfl 23 (.tmp 4) rfl w.heap.size rfl _ gr HM.out.ga _ Tryz.underlying23 rfl (by rw[HM.out.gl];exact infoSum) ?_)
   refine HEn.out.mono ?_
   rintro e w5 ⟨rfl,b',hbm,hs⟩
   have HS:=qq hs
   have HBm:=qq hbm
   have HGa5:=qq (show Arr b8 w5 w.heap.size 23 gr from(hs.frm.block _ HM.out.ga.lt HM.out.out).trans HM.out.ga)
   have HRb5:=qq (show Blk w5 gX 34 Cx by rw[HCx.out];exact(hs.frm.block _ HM.out.rb.lt HM.out.gx.1).trans HM.out.rb)
   have HRx5:=qq (show x.At w5 from HM.out.rx.frm hs.frm HM.out.ap)
   have hxl:x.es.length≤4:=by
    have h1:=congrArg (fun q:BM=>q.es.length) HM.out.m
    have h2:x.es.length=b.es.length:=by simpa[RX.m,BX.m]using h1
    omega
   have re:=refEnter_any w5 x HRx5.out hxl gr (exG 1#8) HM.out.gl (exG_len _) no lv lf
   rw[arrV_mk,arrV_mk,HM.out.m,←HE.out,←HCx.out]at re
   have HRe:=qq re
   clear hs hbm re HEn
   go_wp2_with (first
    |(refine wpList_load_mid rfl 34 (.tmp 10) rfl gX 0 rfl Cx _ HRb5.out.whole Tryz.underlying34 rfl (by rw[HCl.out];exact infoRBox) ?_)
    |(refine wpList_load_arr rfl 23 (.tmp 4) rfl w.heap.size rfl _ gr HGa5.out _ Tryz.underlying23 rfl (by rw[HM.out.gl];exact infoSum) ?_))
   refine HRe.out.mono ?_
   rintro e w6 ⟨y,rfl,hym,hyA,hyf,hb6⟩
   obtain⟨Cy,hCy⟩:∃Cy,Cy=y.cells:=⟨_,rfl⟩
   have HCy:=qq hCy
   have HCyl:=qq (show Cy.length=34 by rw[hCy];exact boxR_len hyA.glen)
   have HCy1:=qq (show∀u∈Cy,u.oneCell'=true by rw[hCy];exact boxR_one rfl)
   rw[←hCy]
   have HYm:=qq hym
   have HYA:=qq hyA
   have HYf:=qq hyf
   have HB6:=qq hb6
   have HRb6:=qq (HRb5.out.below hb6 HRb5.out.lt)
   clear hCy hym hyA hyf hb6 HRe
   go_upto_region 9 with(refine wpList_store_piece rfl 34 (.tmp 13) (.tmp 37) rfl w6.heap.size 0 rfl Cy rfl 34 _ [] zeroRB [] (Blk.new w6 _ zeroRB) (by simp) rfl (by rw[HCyl.out];rfl) (by rw[HCyl.out];exact infoRBox) HCy1.out ?_;intro w7 hx7 hg7)
   try simp only[Act.put,qj,qz,qv]
   have HX7:=qq (show Blk w7 w6.heap.size 34 Cy from hx7.cast (by simp))
   have HB7:=qq (show Below w6.heap.size w6 w7 from((Below.refl _ w6).alloc (Nat.le_refl _) (.cells zeroRB.toArray 34)).grown hg7 (by simp) (fun k e=>by cases e;exact Nat.le_refl _))
   have HRb7:=qq (HRb6.out.below HB7.out HRb6.out.lt)
   clear hx7 hg7
   have tokL:True:=trivial
   have tokS:True:=trivial
   go_upto_region 10 with(first
    |(have _t:=tokL;refine wpList_load_mid rfl 34 (.tmp 13) rfl w6.heap.size 0 rfl Cy _ HX7.out.whole Tryz.underlying34 rfl (by rw[HCyl.out];exact infoRBox) ?_;clear tokL _t)
    |(have _t:=tokS;refine wpList_store_piece rfl 34 (.tmp 10) (.tmp 39) rfl gX 0 rfl Cy rfl 34 _ [] Cx [] HRb7.out (by simp) rfl (by rw[HCyl.out,HCl.out]) (by rw[HCyl.out];exact infoRBox) HCy1.out ?_;intro w8 hx8 hg8;clear tokS _t))
   try simp only[Act.put,qj,qz,qv]
   have HM8:=qq (show MayAt w w8 gB gX (k+1) gr b' y from HM.out.step HS.out (by rw[HYm.out,HBm.out]) (by
    have h1:b'.es.length=(enterM b.m gr no lv lf (exG 1#8)).es.length:=by rw[←HBm.out];simp[BX.m]
    have h2:=enterM_len (b:=b.m) (grp:=gr) (s:=exG 1#8) (no:=no) (lv:=lv) (lf:=lf)
    have h3:b.m.es.length=b.es.length:=by simp[BX.m]
    have h4:=HM.out.le
    omega) HYA.out HYf.out HB6.out HB7.out hg8 (by rw[←HCy.out];exact hx8.cast (by simp)))
   have hb4':b'.es.length≤4:=by have:=HM8.out.le;omega
   have HSt:=qq (stands_any HM8.out.box HM8.out.rx HM8.out.m hb4')
   have HRb8:=qq (show Blk w8 gX 34 Cy by rw[HCy.out];exact HM8.out.rb)
   clear hx8 hg8
   go_wp2_with fail
   refine(num_any E w8).mono ?_
   rintro e w8' ⟨rfl,rfl⟩
   go_wp2_with (refine wpList_load_midw (by rfl) 34 (.tmp 10) rfl gX 0 rfl Cy _ HRb8.out.whole Tryz.underlying34 rfl (by rw[HCyl.out];exact infoRBox) ?_)
   rw[HCy.out]
   refine HSt.out.mono ?_
   rintro e w9 ⟨rfl,hb9⟩
   have HM9:=qq (HM8.out.below hb9)
   clear hb9
   by_cases hk1:k=1
   ·subst hk1
    obtain⟨g0,hg0⟩:∃g0,gr[0]?=some g0:=⟨gr[0]'(by rw[HM9.out.gl];decide),List.getElem?_eq_getElem _⟩
    have c0:w9.cell? ⟨w.heap.size,0,none⟩=some (.int .u8 (bv g0)):=HM9.out.ga.at_ hg0
    have f0:=HM9.out.ga.frozen 0
    have HMg:=qq (HM9.out.group (g0^^^1#8))
    clear hg0
    go_wp2_with fail
    go_roundw
    case rel=>exact⟨2,_,b',y,rfl,by omega,HMg.out⟩
    case measure=>simp[intOf]
   ·have hk1i:¬((k:Int)=1):=by omega
    go_wp2_with fail
    go_roundw
    case rel=>exact⟨k+1,gr,b',y,by go_num,by omega,HM9.out⟩
    case measure=>simp[intOf];omega
  ·have hlt2:¬((k:Int)<3):=by omega
   go_wp2_with fail
   go_ret
   exact⟨rfl,HM.out.bl⟩
set_option maxHeartbeats 4000000 in
theorem packetMay_walk(grp:List (BitVec 8))(hg:grp.length=32)(no lv lf:Int)(wn:(Lit.int .i64 no).wf=true)(wl:(Lit.int .i64 lv).wf=true)(wf:(Lit.int .i64 lf).wf=true)(w:World)(hT:Tab w):
 Calls Tryz.prog 3 #[.agg (enteringC grp no lv lf).toArray] w fun e w'=>e= .returned (.bool true)∧Below w.heap.size w w':=by
 have hb:=bounds_i64 wl
 obtain⟨C,hC⟩:∃C,C=enteringC grp no lv lf:=⟨_,rfl⟩
 obtain⟨w1,hw1⟩:∃w1,w1=w.alloc (.cells C.toArray 25):=⟨_,rfl⟩
 have HB1:=qq (show Below w.heap.size w w1 by rw[hw1];exact(Below.refl _ w).alloc (Nat.le_refl _) _)
 have hX:Blk w1 w.heap.size 25 C:=by rw[hw1];exact Blk.new w _ _
 have e32:C[32]?=some (.int .i64 no):=by rw[hC];unfold enteringC;rw[List.getElem?_append_right (by simp[hg])];simp[hg]
 have e33:C[33]?=some (.int .i64 lv):=by rw[hC];unfold enteringC;rw[List.getElem?_append_right (by simp[hg])];simp[hg]
 have e34:C[34]?=some (.int .i64 lf):=by rw[hC];unfold enteringC;rw[List.getElem?_append_right (by simp[hg])];simp[hg]
 have c32:=hX.cell 32 e32
 have c33:=hX.cell 33 e33
 have c34:=hX.cell 34 e34
 have hgr:w1.rangeAt w.heap.size 0 (grp.map b8):=by
  have h:=hX.range 0 32
  rwa[List.drop_zero,show C.take 32=grp.map b8 by rw[hC];unfold enteringC;rw[List.take_left' (by rw[List.length_map,hg])]]at h
 have hen:=enters_any w1 (hT.below HB1.out) grp hg no lv lf hb.1 (by have:=hb.2;omega)
 rw[arrV_mk]at hen
 have HEn:=qq hen
 have HGr:=qq hgr
 have HG:=qq hg
 have HW1:=qq hw1
 rw[←hC]
 clear hb hw1 hX e32 e33 e34 hgr hen hg hT hC
 go_enter Tryz.func3,Tryz.ntmps3
 go_upto_region 1 with fail
 rw[←HW1.out]
 go_wp2_with (refine wpList_load_mid rfl 23 (.tmp 3) rfl w.heap.size 0 rfl (grp.map b8) _ HGr.out Tryz.underlying23 rfl (by rw[List.length_map,HG.out];exact infoSum) ?_)
 refine HEn.out.mono ?_
 rintro e w2 ⟨rfl,hb2⟩
 have HB2:=qq (HB1.out.trans (hb2.mono HB1.out.size))
 clear hb2
 go_wp2_with fail
 go_ret
 exact⟨rfl,HB2.out⟩
end Go.Proofs.YtelgjaiknaalkaaGreatDoor
namespace Go.Proofs.YtelgjaiknaalkaaGreatDoor
open Go.RowKit
theorem gTab:Tryz.prog.globalNamed "math/bits.deBruijn64tab" =some 1:=by kernel_rfl
theorem gTabType:(Tryz.prog.globals[1]?).map (·.type)=some 157:=by kernel_rfl
theorem cellsTab:Tryz.prog.cellsOf 157=64:=by kernel_rfl
theorem cellsByte:Tryz.prog.cellsOf 5=1:=by kernel_rfl
def tabInts:List Int:=Lib.deBruijn64tab.map Int.ofNat
def rowsLaid:List (String×DataW Unit):=[("math/bits.deBruijn32tab",Rows.laid_math_bits_deBruijn32tab),("math/bits.deBruijn64tab",Rows.laid_math_bits_deBruijn64tab)]
theorem tab_eq:(Rows.laid_math_bits_deBruijn64tab:DataW Unit)=Lib.tabData .u8 tabInts:=rfl
theorem tab_at:∀j,j<64→tabInts.getD j 0=((Lib.deBruijn64tab.getD j 0:Nat):Int):=by decide+kernel
theorem tab_of_row{W:World}(h:laidMetH Tryz.prog rowsLaid W):Tab W:=by
 have h1:laidMet Tryz.prog rowsLaid W:=h
 have h2:laidMet Tryz.prog [("math/bits.deBruijn64tab",Lib.tabData .u8 tabInts)] W:=by
  rw[←tab_eq];exact h1.tail
 have h3:Lib.TabIs Tryz.prog W "math/bits.deBruijn64tab" .u8 tabInts:=Lib.tabIs_of_head (rest:=[]) gTab gTabType Tryz.underlying157 Tryz.underlying5 cellsByte cellsTab h2
 intro j hj
 have hj64:j<64:=hj
 have:=h3.cell gTab j (by simpa[tabInts,Lib.deBruijn64tab]using hj64)
 rw[tab_at j hj64]at this
 exact this
def layCells(vs:Array Value):Obj→Obj
 | .cells _ t frozen=> .cells vs t frozen
 |o=>o
noncomputable def laidWorld(os:Os):World:=
 {World.holding Tryz.prog os ⟨#[],#[],[]⟩with heap:=((World.holding Tryz.prog os ⟨#[],#[],[]⟩).heap.modify 0 (layCells (Lib.deBruijn32tab.map fun n=>Value.int .u8 (Int.ofNat n)).toArray)).modify 1 (layCells (Lib.deBruijn64tab.map fun n=>Value.int .u8 (Int.ofNat n)).toArray)}
end Go.Proofs.YtelgjaiknaalkaaGreatDoor
