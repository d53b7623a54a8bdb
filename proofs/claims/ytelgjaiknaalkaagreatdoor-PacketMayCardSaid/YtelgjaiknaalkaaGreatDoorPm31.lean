/- Lemmas, joined and made smaller by a program. -/
import Derived.Test.YtelgjaiknaalkaaGreatDoorPm24
import Derived.Test.YtelgjaiknaalkaaGreatDoorPm23
import Derived.Test.YtelgjaiknaalkaaGreatDoorPm27
import Derived.Test.YtelgjaiknaalkaaGreatDoorPm12
import Derived.OrdersHeld
open Go.Lib renaming hid → qq
open List renaming setIfInBounds_toArray → qj
open List renaming set_cons_zero → qz
open List renaming set_cons_succ → qv
set_option linter.unusedVariables false
set_option linter.unusedSimpArgs false
namespace Go.Proofs.YtelgjaiknaalkaaGreatDoor
open Go.RowKit
set_option maxRecDepth 100000
set_option maxHeartbeats 1000000 in
theorem ints_same{w:World}{B1 B2:Nat}{A1 A2:Option Addr}{xs:List Int}{n:Nat}(c1 c2:Nat)(h1:Rd i64v w B1 A1 xs)(h2:Rd i64v w B2 A2 xs)(hB1:B1≤w.heap.size)(hB2:B2≤w.heap.size)(hn:xs.length=n)(hx:n≤1000):
 Calls Tryz.prog 48 #[.slice A1 n c1,.slice A2 n c2] w fun e w'=>e= .returned (.bool true)∧Below w.heap.size w w':=by
 have HN:=qq hn
 have H1:=qq h1
 have H2:=qq h2
 clear hn h1 h2
 go_enter Tryz.func48,Tryz.ntmps48
 go_wp2_with fail
 go_loopw [13] (fun iv wr=>∃k:Nat,iv= .int .i64 (k:Int)∧k≤n∧Below w.heap.size w wr) (fun iv _=>n-(intOf iv).toNat)
 case atStart=>exact⟨0,rfl,Nat.zero_le _,Below.refl _ _⟩
 case round=>
  obtain⟨k,rfl,hk,hb⟩:=hrel
  by_cases hlt:k<n
  ·have hkl:k<xs.length:=by rw[HN.out];exact hlt
   obtain⟨b1,o1,rfl,hb1,d1⟩:=H1.out.at_ hkl
   obtain⟨b2,o2,rfl,hb2,d2⟩:=H2.out.at_ hkl
   obtain⟨y,hy⟩:∃y,y=xs[k]:=⟨_,rfl⟩
   rw[←hy]at d1 d2
   have d1:wr.cell? ⟨b1,o1+k,none⟩=some (.int .i64 y):=(hb.cell (p:=⟨b1,o1+k,none⟩) (by show b1<_;omega)).trans d1
   have d2:wr.cell? ⟨b2,o2+k,none⟩=some (.int .i64 y):=(hb.cell (p:=⟨b2,o2+k,none⟩) (by show b2<_;omega)).trans d2
   have hlt2:(k:Int)<(n:Int):=by omega
   have HB:=qq hb
   clear hy hb
   go_upto_region 6 with fail
   go_quiet (fail)
   go_wp2_with fail
   go_roundw
   case rel=>exact⟨k+1,by go_num,by omega,below_drewN HB.out nq⟩
   case measure=>simp[intOf];omega
  ·obtain rfl:n=k:=by omega
   go_wp2_with fail
   go_ret
   exact⟨rfl,hb⟩
def nxt(es:List EM):Int:=match lastLine es with
 |none=>0
 |some l=>l.place
theorem nxt_succ{es:List RE}{k:Nat}{e:RE}{y:RL}(hk:es[k]?=some e)(hy:e.ls[e.leaf]?=some y):nxt ((es.take (k+1)).map RE.m)=y.l.place:=by
 have hlt:=(List.getElem?_eq_some_iff.1 hk).1
 have hl:((es.take (k+1)).map RE.m).length=k+1:=by rw[List.length_map,List.length_take];omega
 have hg:((es.take (k+1)).map RE.m)[k]?=some e.m:=by rw[List.getElem?_map,List.getElem?_take_of_lt (by omega),hk];rfl
 have hs:lastLine ((es.take (k+1)).map RE.m)=some y.l:=by
  unfold lastLine lastLeaf lineAt
  rw[hl,Nat.add_sub_cancel,hg]
  show(e.ls.map RL.l)[e.leaf]?=some y.l
  rw[List.getElem?_map,hy];rfl
 unfold nxt
 rw[hs]
set_option maxHeartbeats 4000000 in
theorem stands_any{w:World}{base gB:Nat}{b:BX}{x:RX}(h:BoxAt w base gB b)(hx:x.At w)(hm:x.m=b.m)(h4:b.es.length≤4):
 Calls Tryz.prog 16 #[.pointer (some ⟨gB,0,none⟩),.agg x.cells.toArray] w fun e w'=>e= .returned (.bool true)∧Below w.heap.size w w':=by
 obtain⟨i0,hi0,hz0,hzz1,hzz2⟩:=info_parts infoInt
 obtain⟨C,hC⟩:∃C,C=x.cells:=⟨_,rfl⟩
 obtain⟨m,hm0⟩:∃m,m=x.es.length:=⟨_,rfl⟩
 have hml:x.es.length=b.es.length:=by
  have h1:=congrArg (fun q:BM=>q.es.length) hm
  simpa[RX.m,BX.m]using h1
 have hm4:m≤4:=by omega
 obtain⟨w1,hw1⟩:∃w1,w1=w.alloc (.cells C.toArray 34):=⟨_,rfl⟩
 obtain⟨w2,hw2⟩:∃w2,w2=w1.alloc (.cells #[] 3):=⟨_,rfl⟩
 have hz1:w1.heap.size=w.heap.size+1:=by rw[hw1];simp
 have hz2:w2.heap.size=w.heap.size+2:=by rw[hw2,World.size_alloc];omega
 have HB2:=qq (show Below w.heap.size w w2 by rw[hw2,hw1];exact((Below.refl _ w).alloc (Nat.le_refl _) _).alloc (by simp) _)
 have HX1:=qq (show Blk w2 w.heap.size 34 C by rw[hw2,hw1];exact(Blk.new w _ _).alloc _)
 have HO2:=qq (show Own i64v w2 (w.heap.size+1) 3 (.slice (some ⟨w.heap.size+1,0,none⟩) 0 0) [] by
  rw[hw2,←hz1]
  have:=Own.lit i64v w1 w1.heap.size 3 [] (by omega) (by simp[maxLen])
  simpa using this)
 have c32:w1.cell? ⟨w.heap.size,32,none⟩=some (.slice x.A m x.c):=by
  rw[hw1,hm0]
  exact(Blk.new w 34 C).cell 32 (by rw[hC];exact boxR_32 hx.glen)
 have c322:w2.cell? ⟨w.heap.size,32,none⟩=some (.slice x.A m x.c):=HX1.out.cell 32 (by rw[hC,hm0];exact boxR_32 hx.glen)
 have HE:=qq (show∀k (hk:k<m),∃(b0 off b2 off2 c2:Nat) (e:RE) (y:RL),x.es[k]?=some e∧e.ls[e.leaf]?=some y∧x.A=some ⟨b0,off,none⟩∧b0<w.heap.size∧b2<w.heap.size∧e.leaf<e.ls.length∧e.ls.length≤32∧
  w.cell? ⟨b0,off+k*3,none⟩=some (.int .i64 e.no)∧w.cell? ⟨b0,off+k*3+1,none⟩=some (.int .i64 (e.leaf:Int))∧w.cell? ⟨b0,off+k*3+2,none⟩=some (.slice (some ⟨b2,off2,none⟩) e.ls.length c2)∧w.cell? ⟨b2,off2+e.leaf*36+32,none⟩=some (.int .i64 y.l.place)from fun k hk=>by
  have hkx:k<x.es.length:=by omega
  have hke:x.es[k]?=some x.es[k]:=List.getElem?_eq_getElem hkx
  have hem:x.es[k].m=b.es[k].m:=by
   have h1:=congrArg (fun q:BM=>q.es[k]?) hm
   simp only[RX.m,BX.m,List.getElem?_map,hke,List.getElem?_eq_getElem (show k<b.es.length by omega),Option.map_some]at h1
   injection h1
  have hlf:x.es[k].leaf=b.es[k].leaf:=congrArg EM.leaf hem
  have hll:x.es[k].ls.length=b.es[k].xs.length:=by
   have h1:=congrArg (fun q:EM=>q.ls.length) hem
   simpa[RE.m,EP.m]using h1
  obtain⟨n1,n2,-,-⟩:=h.bnd b.es[k] (List.getElem_mem _)
  have hyl:x.es[k].leaf<x.es[k].ls.length:=by omega
  have heA:=hx.each x.es[k] (List.getElem_mem _)
  obtain⟨b0,off,hA,hb0,hc0⟩:=RdV.elem hx.rows (fun y _=>RE.cells_len y) (by decide) hke
  obtain⟨b2,off2,hA2,hb2,hc2⟩:=RdV.elem heA.rows (fun y hy=>lineR_len (heA.each y hy).ok.len) (by decide) (List.getElem?_eq_getElem hyl)
  rw[Nat.mul_comm 3 k]at hc0
  rw[Nat.mul_comm 36]at hc2
  refine⟨b0,off,b2,off2,x.es[k].c,x.es[k],x.es[k].ls[x.es[k].leaf],hke,List.getElem?_eq_getElem hyl,hA,hb0,hb2,hyl,by omega,hc0 0 _ rfl,hc0 1 _ rfl,?_,?_⟩
  ·rw[←hA2];exact hc0 2 _ rfl
  ·exact hc2 32 _ (lineR_32 (heA.each _ (List.getElem_mem _)).ok.len))
 have HBx:=qq h
 have HMm:=qq hm
 have HW1:=qq hw1
 have HW2:=qq hw2
 have HH4:=qq h4
 have HM0:=qq hm0
 obtain⟨Ns,hNs⟩:∃Ns,Ns=x.es.map RE.no:=⟨_,rfl⟩
 have HNs:=qq hNs
 have hNl:Ns.length=m:=by rw[hNs,List.length_map,hm0]
 have HNl:=qq hNl
 rw[←hC]
 clear h hx hm h4 hC hw1 hw2 hml hm0 hNs hNl
 go_enter Tryz.func16,Tryz.ntmps16
 go_upto_region 1 with fail
 rw[←HW1.out]
 go_upto_region 2 with fail
 rw[←HW2.out]
 clear c32
 go_upto_region 4 with fail
 go_loopw [5,6,13] (fun lv nv iv wr=>∃k:Nat,iv= .int .i64 (k:Int)∧k≤m∧nv= .int .i64 (nxt ((x.es.take k).map RE.m))∧Own i64v wr (w.heap.size+1) 3 lv (Ns.take k)∧Below w.heap.size w wr∧w.heap.size+1≤wr.heap.size) (fun _ _ iv _=>m-(intOf iv).toNat)
 case atStart=>exact⟨0,rfl,Nat.zero_le _,rfl,HO2.out,HB2.out,by omega⟩
 case round=>
  obtain⟨k,rfl,hk,rfl,hown,hb,hzr⟩:=hrel
  have HO:=qq hown
  have HB:=qq hb
  clear hown
  by_cases hlt:k<m
  ·obtain⟨b0,off,b2,off2,c2,e,y,hke,hly,hA,hb0,hb2,hyl,hl32,a0,a1,a2,a3⟩:=HE.out k hlt
   have d0:=(hb.cell (p:=⟨b0,off+k*3,none⟩) hb0).trans a0
   have d1:=(hb.cell (p:=⟨b0,off+k*3+1,none⟩) hb0).trans a1
   have d2:=(hb.cell (p:=⟨b0,off+k*3+2,none⟩) hb0).trans a2
   have hlt2:(k:Int)<(m:Int):=by omega
   obtain⟨q,hq⟩:∃q,q=e.ls.length:=⟨_,rfl⟩
   obtain⟨lf,hlf⟩:∃lf,lf=e.leaf:=⟨_,rfl⟩
   obtain⟨no,hno⟩:∃no,no=e.no:=⟨_,rfl⟩
   obtain⟨pl,hpl⟩:∃pl,pl=y.l.place:=⟨_,rfl⟩
   rw[←hlf]at d1 a3 hyl
   rw[←hq]at d2 hyl hl32
   rw[←hno]at d0
   rw[←hpl]at a3
   have hyl2:(lf:Int)<(q:Int):=by omega
   have hA2:=hA
   rw[hA]
   have HNo:=qq hno
   have HPl:=qq hpl
   have HKe:=qq hke
   have HLy:=qq hly
   have HA3:=qq a3
   have hkl:(Ns.take k).length=k:=by rw[List.length_take,HNl.out];omega
   have HKl:=qq hkl
   clear a0 a1 a2 a3 hq hlf hno hpl hke hly hA hA2 hkl hb
   go_upto_region 6 with fail
   have HP0:=qq (show Blk ((wr.alloc (.cells #[.int .i64 no,.int .i64 (lf:Int),.slice (some ⟨b2,off2,none⟩) q c2] 85)).alloc (.cells #[.int .i64 no] 3)) wr.heap.size 85 [.int .i64 no,.int .i64 (lf:Int),.slice (some ⟨b2,off2,none⟩) q c2]from(Blk.new wr 85 [.int .i64 no,.int .i64 (lf:Int),.slice (some ⟨b2,off2,none⟩) q c2]).alloc _)
   go_upto_region 7 with(at_builtin;refine wpList_append_rd rfl _ _ 70 rfl i64v_one (w.heap.size+1) 3 i0 _ 8 Tryz.underlying70 hi0 hz0 hzz1 hzz2 rfl _ (Ns.take k) rfl ((HO.out.alloc _).alloc _) (wr.heap.size+2) _ 1 1 [no] rfl rfl (by have:=Rd.new i64v (wr.alloc (Obj.cells #[Value.int IntKind.i64 no,Value.int IntKind.i64 (lf:Int),Value.slice (some {block:=b2,off:=off2}) q c2] 85)) 3 [no];rw[World.size_alloc]at this;exact this) (by rw[HKl.out];simp[maxLen];omega) (by rw[HKl.out];simp;omega) (by simp;omega) ?_;intro v7 w7 hown7 hg7 hbb7)
   have hrowne:=HP0.out.not_row (by decide) ((HO.out.alloc (.cells #[.int .i64 no,.int .i64 (lf:Int),.slice (some ⟨b2,off2,none⟩) q c2] 85)).alloc (.cells #[.int .i64 no] 3))
   have HP7:=qq (HP0.out.grown hg7.by_ hrowne)
   have HB7:=qq (hbb7 w.heap.size w (by omega) ((HB.out.alloc HB.out.size _).alloc (Nat.le_trans HB.out.size (by simp)) _))
   have HO7:=qq hown7
   have hz7:w.heap.size+1≤w7.heap.size:=by
    have h1:=(hbb7 (w.heap.size+1) _ (Nat.le_refl _) (Below.refl (w.heap.size+1) _)).size
    simp only[World.size_alloc]at h1
    omega
   have d1:=HP7.out.cell 1 rfl
   have d2:=HP7.out.cell 2 rfl
   have d3:=(HB7.out.cell (p:=⟨b2,off2+lf*36+32,none⟩) hb2).trans HA3.out
   clear hown7 hg7 hbb7 hrowne
   go_wp2_with fail
   go_roundw
   case rel=>
    refine⟨k+1,by go_num,by omega,?_,HO7.out.cast ?_,HB7.out,hz7⟩
    ·rw[nxt_succ HKe.out HLy.out,HPl.out]
    ·have hg:Ns[k]?=some no:=by rw[HNs.out,List.getElem?_map,HKe.out,HNo.out];rfl
     rw[List.take_add_one,hg];rfl
   case measure=>simp[intOf];omega
  ·obtain rfl:m=k:=by omega
   have hlt2:¬((m:Int)<(m:Int)):=by omega
   have e1:Ns.take m=Ns:=List.take_of_length_le (by rw[HNl.out];exact Nat.le_refl _)
   have e2:nxt ((x.es.take m).map RE.m)=nextM b.m:=by
    rw[HM0.out,List.take_length]
    have h1:=congrArg nextM HMm.out
    exact h1
   have e3:Ns=nosM b.m:=by
    rw[HNs.out]
    have h1:=congrArg nosM HMm.out
    rw[←h1]
    unfold nosM RX.m
    rw[List.map_map];rfl
   rw[e2]
   have hO:=HO.out
   rw[e1]at hO
   obtain⟨A9,c9,rfl,hr9,-⟩:=hO.shape
   rw[HNl.out]
   have HR9:=qq hr9
   have HEp:=qq (epochs_any (HBx.out.below hb))
   have HBz:=qq (HBx.out.below hb)
   have HE3:=qq e3
   have hm4i:(m:Int)≤4:=by omega
   clear e1 e2 e3 hO hr9 hb
   go_wp2_with fail
   refine HEp.out.mono ?_
   rintro e w8 ⟨v,rfl,ho8,hb8⟩
   rw[←HE3.out]at ho8
   obtain⟨A8,c8,rfl,hr8,-⟩:=ho8.shape
   rw[HNl.out]
   have HIn:=qq (ints_same (w:=w8) c8 c9 hr8 (HR9.out.below hb8) (Nat.le_refl _) hb8.size HNl.out (by omega))
   have HB8:=qq (HB.out.trans (hb8.mono HB.out.size))
   have HBx8:=qq (HBz.out.below hb8)
   clear ho8 hr8 hb8
   go_wp2_with fail
   refine HIn.out.mono ?_
   rintro e w9 ⟨rfl,hb9⟩
   have HNx:=qq (boxNext_any (HBx8.out.below hb9))
   have HB9:=qq (HB8.out.trans (hb9.mono HB8.out.size))
   clear hb9
   go_wp2_with fail
   refine HNx.out.mono ?_
   rintro e w10 ⟨rfl,q,hq⟩
   have HB10:=qq (HB9.out.trans ((drewN_below hq).mono HB9.out.size))
   clear hq
   go_wp2_with fail
   go_ret
   exact⟨rfl,HB10.out⟩
theorem bv_ofInt8(z:Int):bv (BitVec.ofInt 8 z)=z % 256:=by
 show((BitVec.ofInt 8 z).toNat:Int)=z % 256
 rw[BitVec.toNat_ofInt]
 omega
theorem b8_ofInt(z:Int):b8 (BitVec.ofInt 8 z)= .int .u8 (z % 256):=by rw[b8_eq,bv_ofInt8]
theorem be_four(n:Int):be n 4=[BitVec.ofInt 8 (n/16777216),BitVec.ofInt 8 (n/65536),BitVec.ofInt 8 (n/256),BitVec.ofInt 8 n]:=by simp[be,beAt]
theorem be_one(n:Int):be n 1=[BitVec.ofInt 8 n]:=by simp[be,beAt]
theorem bput_any(n:Int)(w:World):Calls Tryz.prog 62 #[.int .i64 n] w fun e w'=>∃v,e= .returned v∧Own b8 w' w.heap.size 5 v (be n 4)∧Below w.heap.size w w':=by
 have hl: #[Value.int IntKind.u8 (n/16777216 % 256),Value.int IntKind.u8 (n/65536 % 256),Value.int IntKind.u8 (n/256 % 256),Value.int IntKind.u8 (n % 256)]=((be n 4).map b8).toArray:=by
  rw[be_four];simp only[List.map_cons,List.map_nil,b8_ofInt]
 have HL:=qq hl
 clear hl
 go_enter Tryz.func62,Tryz.ntmps62
 go_wp2_with fail
 go_ret
 rw[HL.out]
 refine⟨_,rfl,?_,(Below.refl _ w).alloc (Nat.le_refl _) _⟩
 have:=Own.lit b8 w w.heap.size 5 (be n 4) (Nat.le_refl _) (by rw[be_len];simp[maxLen])
 rw[be_len]at this
 exact this
theorem concat_four(W:World)(B:Nat){m1 d1 m2 d2 m3 d3 m4 d4:Nat}{C1 C2 C3 C4:Option Addr}{x1 x2 x3 x4:List (BitVec 8)}(hr1:Rd b8 W B C1 x1)(hr2:Rd b8 W B C2 x2)(hr3:Rd b8 W B C3 x3)(hr4:Rd b8 W B C4 x4)(hB:B≤W.heap.size)(hm1:m1=x1.length)(hm2:m2=x2.length)(hm3:m3=x3.length)(hm4:m4=x4.length)
 (htot:x1.length+(x2.length+(x3.length+x4.length))≤40000000):
 Calls Tryz.prog 61 #[.slice (some ⟨W.heap.size,0,none⟩) 4 4] (W.alloc (.cells #[.slice C1 m1 d1,.slice C2 m2 d2,.slice C3 m3 d3,.slice C4 m4 d4] 28)) fun e w'=>∃v,e= .returned v∧Own b8 w' (W.heap.size+1) 5 v (x1++(x2++(x3++x4)))∧Below W.heap.size W w':=by
 refine(concat_any _ B W.heap.size 0 4 4 _ (pts_new W B [((C1,m1,d1),x1),((C2,m2,d2),x2),((C3,m3,d3),x3),((C4,m4,d4),x4)] (by simpa using⟨hr1,hr2,hr3,hr4⟩) (by simpa using⟨hm1,hm2,hm3,hm4⟩) hB) (by simp;omega) rfl (by omega) (by simp;omega)).mono ?_
 rintro e w' ⟨v,rfl,ho,hb⟩
 refine⟨v,rfl,?_,((Below.refl _ W).alloc (Nat.le_refl _) _).trans (hb.mono (by simp))⟩
 rw[World.size_alloc]at ho
 exact ho.cast (by simp)
def ctxV(grp:List (BitVec 8))(ep fr nu:Int):List (BitVec 8):=groupB grp ep fr++be nu 4
theorem ctxV_len{grp:List (BitVec 8)}(h:grp.length=32)(ep fr nu:Int):(ctxV grp ep fr nu).length=41:=by
 unfold ctxV;rw[List.length_append,groupB_len,be_len,h]
theorem lit_one(fr:Int):(List.map b8 [BitVec.ofInt 8 fr]).toArray= #[Value.int .u8 (fr % 256)]:=by simp only[List.map_cons,List.map_nil,b8_ofInt]
set_option maxHeartbeats 2000000 in
theorem context_any(grp:List (BitVec 8))(hg:grp.length=32)(ep fr nu:Int)(A:Option Addr)(n c:Nat)(w:World):
 Calls Tryz.prog 36 #[.agg (packetC grp ep fr nu A n c).toArray] w fun e w'=>∃v,e= .returned v∧Own b8 w' w.heap.size 5 v (ctxV grp ep fr nu)∧Below w.heap.size w w':=by
 have HG:=qq hg
 have HBx:=qq (show PkBox (w.alloc (.cells (packetC grp ep fr nu A n c).toArray 41)) w.heap.size grp ep fr nu A n c from Blk.new w _ _)
 have HB0:=qq ((Below.refl w.heap.size w).alloc (Nat.le_refl _) (.cells (packetC grp ep fr nu A n c).toArray 41))
 have hz:=World.size_alloc w (.cells (packetC grp ep fr nu A n c).toArray 41)
 clear hg
 go_enter Tryz.func36,Tryz.ntmps36
 go_upto_region 1 with fail
 generalize World.alloc w _=w0 at HBx HB0 hz ⊢
 have HS:=qq (show∀W,Below w0.heap.size w0 W→W.cell? ⟨w.heap.size,32,none⟩=some (.int .i64 ep)∧W.cell? ⟨w.heap.size,33,none⟩=some (.int .i64 fr)∧W.cell? ⟨w.heap.size,34,none⟩=some (.int .i64 nu)from fun W hb=>by
  obtain⟨c32,c33,c34,-⟩:=(HBx.out.below hb (by omega)).all5 HG.out
  exact⟨c32,c33,c34⟩)
 have hk0:=HS.out _ (Below.refl _ w0).drew
 have HB1:=qq (show Below w0.heap.size w0 w0.drew from(Below.refl _ w0).drew)
 have HR1x0:=qq (show Rd b8 w0.drew w0.drew.heap.size (some ⟨w.heap.size,0,none⟩) grp from fun _=>⟨w.heap.size,0,rfl,by show w.heap.size<w0.heap.size;omega,fun j u hu=>by
  have h:=(HBx.out.r0 HG.out) j (b8 u) (by rw[List.getElem?_map,hu];rfl)
  exact h⟩)
 refine wp_region_noPanic ?_
 refine wp_region_held_drew (S:=fun w'=>w'.cell? ⟨w.heap.size,32,none⟩=some (.int .i64 ep)∧w'.cell? ⟨w.heap.size,33,none⟩=some (.int .i64 fr)∧w'.cell? ⟨w.heap.size,34,none⟩=some (.int .i64 nu)) (by kernel_rfl) hk0 (fun hS=>?_)
 refine wpAnyH_take (i:=0) (oi:={dst:=some 3,op:=_,type:=_,pos:=_,after:=_,guard:=_}) (v:= .pointer (some ⟨w.heap.size,0,none⟩)) rfl (by kernel_rfl) (by kernel_rfl) (by kernel_rfl) (fun _ _ _ h=>h) (Or.inl ⟨by rfl,?_⟩) hS ?_
 ·intro w' hw'
  go_simp
 try simp only[Act.put,qj,qz,qv]
 refine wpAnyH_take (i:=1) (oi:={dst:=some 4,op:=_,type:=_,pos:=_,after:=_,guard:=_}) (v:= .slice (some ⟨w.heap.size,0,none⟩) 32 32) rfl (by kernel_rfl) (by kernel_rfl) (by kernel_rfl) (fun _ _ _ h=>h) (Or.inl ⟨by rfl,?_⟩) hS ?_
 ·intro w' hw'
  go_simp
 try simp only[Act.put,qj,qz,qv]
 refine wpAnyH_take (i:=2) (oi:={dst:=some 5,op:=_,type:=_,pos:=_,after:=_,guard:=_}) (v:= .pointer (some ⟨w.heap.size,32,none⟩)) rfl (by kernel_rfl) (by kernel_rfl) (by kernel_rfl) (fun _ _ _ h=>h) (Or.inl ⟨by rfl,?_⟩) hS ?_
 ·intro w' hw'
  go_simp
 try simp only[Act.put,qj,qz,qv]
 refine wpAnyH_take (i:=3) (oi:={dst:=some 6,op:=_,type:=_,pos:=_,after:=_,guard:=_}) (v:= .int .i64 ep) rfl (by kernel_rfl) (by kernel_rfl) (by kernel_rfl) (fun _ _ _ h=>h) (Or.inl ⟨by rfl,?_⟩) hS ?_
 ·intro w' hw'
  obtain⟨s0,s1,s2⟩:=hw'
  go_simp
 try simp only[Act.put,qj,qz,qv]
 refine wpAnyH_take (i:=5) (oi:={dst:=some 8,op:=_,type:=_,pos:=_,after:=_,guard:=_}) (v:= .pointer (some ⟨w.heap.size,33,none⟩)) rfl (by kernel_rfl) (by kernel_rfl) (by kernel_rfl) (fun _ _ _ h=>h) (Or.inl ⟨by rfl,?_⟩) hS ?_
 ·intro w' hw'
  go_simp
 try simp only[Act.put,qj,qz,qv]
 refine wpAnyH_take (i:=6) (oi:={dst:=some 9,op:=_,type:=_,pos:=_,after:=_,guard:=_}) (v:= .int .i64 fr) rfl (by kernel_rfl) (by kernel_rfl) (by kernel_rfl) (fun _ _ _ h=>h) (Or.inl ⟨by rfl,?_⟩) hS ?_
 ·intro w' hw'
  obtain⟨s0,s1,s2⟩:=hw'
  go_simp
 try simp only[Act.put,qj,qz,qv]
 refine wpAnyH_take (i:=7) (oi:={dst:=some 10,op:=_,type:=_,pos:=_,after:=_,guard:=_}) (v:= .int .u8 (fr % 256)) rfl (by kernel_rfl) (by kernel_rfl) (by kernel_rfl) (fun _ _ _ h=>h) (Or.inl ⟨by rfl,?_⟩) hS ?_
 ·intro w' hw'
  go_simp;rfl
 try simp only[Act.put,qj,qz,qv]
 refine wpAnyH_take (i:=9) (oi:={dst:=some 12,op:=_,type:=_,pos:=_,after:=_,guard:=_}) (v:= .pointer (some ⟨w.heap.size,34,none⟩)) rfl (by kernel_rfl) (by kernel_rfl) (by kernel_rfl) (fun _ _ _ h=>h) (Or.inl ⟨by rfl,?_⟩) hS ?_
 ·intro w' hw'
  go_simp
 try simp only[Act.put,qj,qz,qv]
 refine wpAnyH_take (i:=10) (oi:={dst:=some 13,op:=_,type:=_,pos:=_,after:=_,guard:=_}) (v:= .int .i64 nu) rfl (by kernel_rfl) (by kernel_rfl) (by kernel_rfl) (fun _ _ _ h=>h) (Or.inl ⟨by rfl,?_⟩) hS ?_
 ·intro w' hw'
  obtain⟨s0,s1,s2⟩:=hw'
  go_simp
 try simp only[Act.put,qj,qz,qv]
 refine wpAnyH_ready (rs:=[4,8]) (by kernel_rfl) (by simp) (AllReadyH.cons (o:={dst:=some 7,op:=_,type:=_,pos:=_,after:=_,guard:=_}) rfl (fun K' hK=>?_) (AllReadyH.cons (o:={dst:=some 11,op:=_,type:=_,pos:=_,after:=_,guard:=_}) rfl (fun K' hK=>?_) AllReadyH.nil))
 ·
  go_simp
  go_at_call 62
  refine(bput_any ep _).mono ?_
  rintro e w2 ⟨v2,rfl,ho,hb⟩
  obtain⟨A4,c4,rfl,hr,-,-,-⟩:=ho.shape' (be_len _ _)
  have HR2x4:=qq hr
  have hx:Below w0.drew.heap.size w0.drew w2:=hb
  have HR2x0:=qq ((HR1x0.out.below hx).more hx.size)
  have HB2:=qq (HB1.out.trans (hx.mono HB1.out.size))
  clear hr hx ho hb
  refine hK.out _ _ (HS.out _ HB2.out) (fun hS=>?_)
  clear hK K'
  try simp only[Act.put,qj,qz,qv]
  refine wpAnyH_ready (rs:=[8,11]) (by kernel_rfl) (by simp) (AllReadyH.cons (o:={dst:=some 11,op:=_,type:=_,pos:=_,after:=_,guard:=_}) rfl (fun K' hK=>?_) (AllReadyH.cons (o:={dst:=some 14,op:=_,type:=_,pos:=_,after:=_,guard:=_}) rfl (fun K' hK=>?_) AllReadyH.nil))
  ·
   go_simp
   obtain⟨w3,hw3⟩:∃w3,w3=World.alloc w2 (.cells (List.map b8 [BitVec.ofInt 8 fr]).toArray 5):=⟨_,rfl⟩
   have hr:=Rd.new b8 w2 5 [BitVec.ofInt 8 fr]
   have hx:Below w2.heap.size w2 (World.alloc w2 (.cells (List.map b8 [BitVec.ofInt 8 fr]).toArray 5)):=(Below.refl _ _).alloc (Nat.le_refl _) _
   have hsz:(World.alloc w2 (.cells (List.map b8 [BitVec.ofInt 8 fr]).toArray 5)).heap.size=w2.heap.size+1:=World.size_alloc _ _
   rw[←hw3]at hr hx hsz
   rw[lit_one]at hw3
   rw[←hw3]
   have HR3x8:=qq (show Rd b8 w3 w3.heap.size (some ⟨w2.heap.size,0,none⟩) (be fr 1) by rw[hsz,be_one];exact hr)
   have HR3x0:=qq ((HR2x0.out.below hx).more hx.size)
   have HR3x4:=qq ((HR2x4.out.below hx).more hx.size)
   have HB3:=qq (HB2.out.trans (hx.mono HB2.out.size))
   clear hr hx hsz hw3
   refine hK.out _ _ (HS.out _ HB3.out) (fun hS=>?_)
   clear hK K'
   try simp only[Act.put,qj,qz,qv]
   refine wpAnyH_ready (rs:=[11]) (by kernel_rfl) (by simp) (AllReadyH.cons (o:={dst:=some 14,op:=_,type:=_,pos:=_,after:=_,guard:=_}) rfl (fun K' hK=>?_) AllReadyH.nil)
   go_simp
   go_at_call 62
   refine(bput_any nu _).mono ?_
   rintro e w4 ⟨v4,rfl,ho,hb⟩
   obtain⟨A11,c11,rfl,hr,-,-,-⟩:=ho.shape' (be_len _ _)
   have HR4x11:=qq hr
   have hx:Below w3.heap.size w3 w4:=hb
   have HR4x0:=qq ((HR3x0.out.below hx).more hx.size)
   have HR4x4:=qq ((HR3x4.out.below hx).more hx.size)
   have HR4x8:=qq ((HR3x8.out.below hx).more hx.size)
   have HB4:=qq (HB3.out.trans (hx.mono HB3.out.size))
   clear hr hx ho hb
   refine hK.out _ _ (HS.out _ HB4.out) (fun hS=>?_)
   clear hK K'
   try simp only[Act.put,qj,qz,qv]
   refine wpAnyH_ready (rs:=[12]) (by kernel_rfl) (by simp) (AllReadyH.cons (o:={dst:=some 15,op:=_,type:=_,pos:=_,after:=_,guard:=_}) rfl (fun K' hK=>?_) AllReadyH.nil)
   go_simp
   refine hK.out _ _ (HS.out _ (HB4.out.alloc HB4.out.size _)) (fun hS=>?_)
   clear hK K'
   try simp only[Act.put,qj,qz,qv]
   refine wpAnyH_ready (rs:=[13]) (by kernel_rfl) (by simp) (AllReadyH.cons (o:={dst:=some 16,op:=_,type:=_,pos:=_,after:=_,guard:=_}) rfl (fun K' hK=>?_) AllReadyH.nil)
   go_simp
   go_at_call 61
   refine(concat_four w4 w4.heap.size HR4x0.out HR4x4.out HR4x8.out HR4x11.out (Nat.le_refl _) HG.out.symm (be_len _ _).symm (be_len _ _).symm (be_len _ _).symm (by rw[HG.out,be_len,be_len,be_len];omega)).mono ?_
   rintro e w9 ⟨v9,rfl,ho,hb⟩
   have HO9:=qq (ho.less (show w.heap.size≤w4.heap.size+1 by have:=HB4.out.size;omega))
   have HB9:=qq (HB4.out.trans (hb.mono HB4.out.size))
   clear ho hb
   refine hK.out _ _ (HS.out _ HB9.out) (fun hS=>?_)
   clear hK K'
   try simp only[Act.put,qj,qz,qv]
   refine wpAnyH_take (i:=14) (oi:={dst:=some 2,op:=_,type:=_,pos:=_,after:=_,guard:=_}) (v:=v9) rfl (by kernel_rfl) (by kernel_rfl) (by kernel_rfl) (fun _ _ _ h=>h) (Or.inl ⟨by rfl,?_⟩) hS ?_
   ·intro w' hw'
    go_simp
   try simp only[Act.put,qj,qz,qv]
   refine wpAnyH_done (by kernel_rfl) ?_ _
   refine NoPanic.normal ?_
   go_wp2_with fail
   go_ret
   exact⟨_,rfl,HO9.out.cast (by unfold ctxV groupB;simp only[List.append_assoc]),(HB0.out.trans (HB9.out.mono HB0.out.size))⟩
  ·
   go_simp
   go_at_call 62
   refine(bput_any nu _).mono ?_
   rintro e w3 ⟨v3,rfl,ho,hb⟩
   obtain⟨A11,c11,rfl,hr,-,-,-⟩:=ho.shape' (be_len _ _)
   have HR3x11:=qq hr
   have hx:Below w2.heap.size w2 w3:=hb
   have HR3x0:=qq ((HR2x0.out.below hx).more hx.size)
   have HR3x4:=qq ((HR2x4.out.below hx).more hx.size)
   have HB3:=qq (HB2.out.trans (hx.mono HB2.out.size))
   clear hr hx ho hb
   refine hK.out _ _ (HS.out _ HB3.out) (fun hS=>?_)
   clear hK K'
   try simp only[Act.put,qj,qz,qv]
   refine wpAnyH_ready (rs:=[8]) (by kernel_rfl) (by simp) (AllReadyH.cons (o:={dst:=some 11,op:=_,type:=_,pos:=_,after:=_,guard:=_}) rfl (fun K' hK=>?_) AllReadyH.nil)
   go_simp
   obtain⟨w4,hw4⟩:∃w4,w4=World.alloc w3 (.cells (List.map b8 [BitVec.ofInt 8 fr]).toArray 5):=⟨_,rfl⟩
   have hr:=Rd.new b8 w3 5 [BitVec.ofInt 8 fr]
   have hx:Below w3.heap.size w3 (World.alloc w3 (.cells (List.map b8 [BitVec.ofInt 8 fr]).toArray 5)):=(Below.refl _ _).alloc (Nat.le_refl _) _
   have hsz:(World.alloc w3 (.cells (List.map b8 [BitVec.ofInt 8 fr]).toArray 5)).heap.size=w3.heap.size+1:=World.size_alloc _ _
   rw[←hw4]at hr hx hsz
   rw[lit_one]at hw4
   rw[←hw4]
   have HR4x8:=qq (show Rd b8 w4 w4.heap.size (some ⟨w3.heap.size,0,none⟩) (be fr 1) by rw[hsz,be_one];exact hr)
   have HR4x0:=qq ((HR3x0.out.below hx).more hx.size)
   have HR4x4:=qq ((HR3x4.out.below hx).more hx.size)
   have HR4x11:=qq ((HR3x11.out.below hx).more hx.size)
   have HB4:=qq (HB3.out.trans (hx.mono HB3.out.size))
   clear hr hx hsz hw4
   refine hK.out _ _ (HS.out _ HB4.out) (fun hS=>?_)
   clear hK K'
   try simp only[Act.put,qj,qz,qv]
   refine wpAnyH_ready (rs:=[12]) (by kernel_rfl) (by simp) (AllReadyH.cons (o:={dst:=some 15,op:=_,type:=_,pos:=_,after:=_,guard:=_}) rfl (fun K' hK=>?_) AllReadyH.nil)
   go_simp
   refine hK.out _ _ (HS.out _ (HB4.out.alloc HB4.out.size _)) (fun hS=>?_)
   clear hK K'
   try simp only[Act.put,qj,qz,qv]
   refine wpAnyH_ready (rs:=[13]) (by kernel_rfl) (by simp) (AllReadyH.cons (o:={dst:=some 16,op:=_,type:=_,pos:=_,after:=_,guard:=_}) rfl (fun K' hK=>?_) AllReadyH.nil)
   go_simp
   go_at_call 61
   refine(concat_four w4 w4.heap.size HR4x0.out HR4x4.out HR4x8.out HR4x11.out (Nat.le_refl _) HG.out.symm (be_len _ _).symm (be_len _ _).symm (be_len _ _).symm (by rw[HG.out,be_len,be_len,be_len];omega)).mono ?_
   rintro e w9 ⟨v9,rfl,ho,hb⟩
   have HO9:=qq (ho.less (show w.heap.size≤w4.heap.size+1 by have:=HB4.out.size;omega))
   have HB9:=qq (HB4.out.trans (hb.mono HB4.out.size))
   clear ho hb
   refine hK.out _ _ (HS.out _ HB9.out) (fun hS=>?_)
   clear hK K'
   try simp only[Act.put,qj,qz,qv]
   refine wpAnyH_take (i:=14) (oi:={dst:=some 2,op:=_,type:=_,pos:=_,after:=_,guard:=_}) (v:=v9) rfl (by kernel_rfl) (by kernel_rfl) (by kernel_rfl) (fun _ _ _ h=>h) (Or.inl ⟨by rfl,?_⟩) hS ?_
   ·intro w' hw'
    go_simp
   try simp only[Act.put,qj,qz,qv]
   refine wpAnyH_done (by kernel_rfl) ?_ _
   refine NoPanic.normal ?_
   go_wp2_with fail
   go_ret
   exact⟨_,rfl,HO9.out.cast (by unfold ctxV groupB;simp only[List.append_assoc]),(HB0.out.trans (HB9.out.mono HB0.out.size))⟩
 ·
  go_simp
  obtain⟨w2,hw2⟩:∃w2,w2=World.alloc w0.drew (.cells (List.map b8 [BitVec.ofInt 8 fr]).toArray 5):=⟨_,rfl⟩
  have hr:=Rd.new b8 w0.drew 5 [BitVec.ofInt 8 fr]
  have hx:Below w0.drew.heap.size w0.drew (World.alloc w0.drew (.cells (List.map b8 [BitVec.ofInt 8 fr]).toArray 5)):=(Below.refl _ _).alloc (Nat.le_refl _) _
  have hsz:(World.alloc w0.drew (.cells (List.map b8 [BitVec.ofInt 8 fr]).toArray 5)).heap.size=w0.drew.heap.size+1:=World.size_alloc _ _
  rw[←hw2]at hr hx hsz
  rw[lit_one]at hw2
  rw[show(w0.alloc (Obj.cells #[Value.int IntKind.u8 (fr % 256)] 5)).drew=w2 from hw2.symm]
  have HR2x8:=qq (show Rd b8 w2 w2.heap.size (some ⟨w.heap.size+1,0,none⟩) (be fr 1) by rw[hsz,be_one,←hz];exact hr)
  have HR2x0:=qq ((HR1x0.out.below hx).more hx.size)
  have HB2:=qq (HB1.out.trans (hx.mono HB1.out.size))
  clear hr hx hsz hw2
  refine hK.out _ _ (HS.out _ HB2.out) (fun hS=>?_)
  clear hK K'
  try simp only[Act.put,qj,qz,qv]
  refine wpAnyH_ready (rs:=[4]) (by kernel_rfl) (by simp) (AllReadyH.cons (o:={dst:=some 7,op:=_,type:=_,pos:=_,after:=_,guard:=_}) rfl (fun K' hK=>?_) AllReadyH.nil)
  go_simp
  go_at_call 62
  refine(bput_any ep _).mono ?_
  rintro e w3 ⟨v3,rfl,ho,hb⟩
  obtain⟨A4,c4,rfl,hr,-,-,-⟩:=ho.shape' (be_len _ _)
  have HR3x4:=qq hr
  have hx:Below w2.heap.size w2 w3:=hb
  have HR3x0:=qq ((HR2x0.out.below hx).more hx.size)
  have HR3x8:=qq ((HR2x8.out.below hx).more hx.size)
  have HB3:=qq (HB2.out.trans (hx.mono HB2.out.size))
  clear hr hx ho hb
  refine hK.out _ _ (HS.out _ HB3.out) (fun hS=>?_)
  clear hK K'
  try simp only[Act.put,qj,qz,qv]
  refine wpAnyH_ready (rs:=[11]) (by kernel_rfl) (by simp) (AllReadyH.cons (o:={dst:=some 14,op:=_,type:=_,pos:=_,after:=_,guard:=_}) rfl (fun K' hK=>?_) AllReadyH.nil)
  go_simp
  go_at_call 62
  refine(bput_any nu _).mono ?_
  rintro e w4 ⟨v4,rfl,ho,hb⟩
  obtain⟨A11,c11,rfl,hr,-,-,-⟩:=ho.shape' (be_len _ _)
  have HR4x11:=qq hr
  have hx:Below w3.heap.size w3 w4:=hb
  have HR4x0:=qq ((HR3x0.out.below hx).more hx.size)
  have HR4x8:=qq ((HR3x8.out.below hx).more hx.size)
  have HR4x4:=qq ((HR3x4.out.below hx).more hx.size)
  have HB4:=qq (HB3.out.trans (hx.mono HB3.out.size))
  clear hr hx ho hb
  refine hK.out _ _ (HS.out _ HB4.out) (fun hS=>?_)
  clear hK K'
  try simp only[Act.put,qj,qz,qv]
  refine wpAnyH_ready (rs:=[12]) (by kernel_rfl) (by simp) (AllReadyH.cons (o:={dst:=some 15,op:=_,type:=_,pos:=_,after:=_,guard:=_}) rfl (fun K' hK=>?_) AllReadyH.nil)
  go_simp
  refine hK.out _ _ (HS.out _ (HB4.out.alloc HB4.out.size _)) (fun hS=>?_)
  clear hK K'
  try simp only[Act.put,qj,qz,qv]
  refine wpAnyH_ready (rs:=[13]) (by kernel_rfl) (by simp) (AllReadyH.cons (o:={dst:=some 16,op:=_,type:=_,pos:=_,after:=_,guard:=_}) rfl (fun K' hK=>?_) AllReadyH.nil)
  go_simp
  go_at_call 61
  refine(concat_four w4 w4.heap.size HR4x0.out HR4x4.out HR4x8.out HR4x11.out (Nat.le_refl _) HG.out.symm (be_len _ _).symm (be_len _ _).symm (be_len _ _).symm (by rw[HG.out,be_len,be_len,be_len];omega)).mono ?_
  rintro e w9 ⟨v9,rfl,ho,hb⟩
  have HO9:=qq (ho.less (show w.heap.size≤w4.heap.size+1 by have:=HB4.out.size;omega))
  have HB9:=qq (HB4.out.trans (hb.mono HB4.out.size))
  clear ho hb
  refine hK.out _ _ (HS.out _ HB9.out) (fun hS=>?_)
  clear hK K'
  try simp only[Act.put,qj,qz,qv]
  refine wpAnyH_take (i:=14) (oi:={dst:=some 2,op:=_,type:=_,pos:=_,after:=_,guard:=_}) (v:=v9) rfl (by kernel_rfl) (by kernel_rfl) (by kernel_rfl) (fun _ _ _ h=>h) (Or.inl ⟨by rfl,?_⟩) hS ?_
  ·intro w' hw'
   go_simp
  try simp only[Act.put,qj,qz,qv]
  refine wpAnyH_done (by kernel_rfl) ?_ _
  refine NoPanic.normal ?_
  go_wp2_with fail
  go_ret
  exact⟨_,rfl,HO9.out.cast (by unfold ctxV groupB;simp only[List.append_assoc]),(HB0.out.trans (HB9.out.mono HB0.out.size))⟩
end Go.Proofs.YtelgjaiknaalkaaGreatDoor
