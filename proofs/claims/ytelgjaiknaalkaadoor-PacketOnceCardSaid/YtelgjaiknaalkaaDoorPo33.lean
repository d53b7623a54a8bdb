/- Lemmas, joined and made smaller by a program. -/
import Derived.Test.YtelgjaiknaalkaaDoorPo32
import Derived.Deep.CutRange
open Go.Lib renaming hid → qq
open List renaming setIfInBounds_toArray → qj
open List renaming set_cons_zero → qz
open List renaming set_cons_succ → qv
set_option linter.unusedVariables false
set_option linter.unusedSimpArgs false
namespace Go.Proofs.YtelgjaiknaalkaaDoor
open Go.RowKit
set_option maxRecDepth 100000
theorem BoxAt.typed_out{w:World}{base gB g:Nat}{b:BX}(h:BoxAt w base gB b){cs:Array Value}{T:TypeId}(hg:w.heap[g]?=some (.cells cs T (0,0)))(h1:T≠68)(h2:T≠77)(h3:T≠5)(h4:T≠45)(h5:T≠49):g∉BX.foot gB b:=by
 intro hm
 simp only[BX.foot,List.mem_cons,List.mem_append,Option.mem_toList]at hm
 rcases hm with rfl|hm|hm
 ·have h6:w.heap[g]?=some (.cells b.cells.toArray 45 (0,0)):=h.blk
  rw[h6]at hg;injection hg with hg;injection hg with _ hT _;exact h4 hT.symm
 ·obtain⟨-,-,cs',h6⟩:=row_in h.row hm
  rw[h6]at hg;injection hg with hg;injection hg with _ hT _;exact h5 hT.symm
 ·obtain⟨e,he,hk⟩:=List.mem_flatMap.1 hm
  exact h.gB_out he hg h1 h2 h3 hk
structure NextAt(w w':World)(base gB:Nat)(b b':BX)(M:BM)(bk:Nat)(kn:List (BitVec 8)):Prop where
 arr:Arr b8 w' bk 5 kn
 m:b'.m=M
 v:b'.v=b.v
 box:BoxAt w' base gB b'
 frm:Frm w w' b.efoot
 foot:∀k∈BX.foot gB b',k∈BX.foot gB b∨w.heap.size≤k
section
variable{w w4 w5:World}{base gB:Nat}{b b':BX}{M:BM}{bk:Nat}{kn:List (BitVec 8)}
theorem NextAt.below(h:NextAt w w4 base gB b b' M bk kn)(hb:Below w4.heap.size w4 w5):NextAt w w5 base gB b b' M bk kn:=
 ⟨h.arr.below hb h.arr.lt,h.m,h.v,h.box.below hb,h.frm.below hb (Nat.le_refl _),h.foot⟩
theorem NextAt.turn(h:NextAt w w4 base gB b b' M bk kn){gO:Nat}{T:TypeId}{cs:List Value}(hb:Blk w4 gO T cs)(hg:w4.grownBy w5 (some gO))(hn:w.heap.size≤gO)(h1:T≠68)(h2:T≠77)(h3:T≠5)(h4:T≠45)(h5:T≠49):NextAt w w5 base gB b b' M bk kn:=by
 refine⟨h.arr.grown hg (fun e=>?_),h.m,h.v,h.box.of_same (fun k hk=>hg.block k (h.box.foot_lt k hk).2 (fun e=>?_)),h.frm.new hg hn,h.foot⟩
 ·injection e with e
  have h6:=h.arr
  unfold Arr at h6
  have h7:w4.heap[gO]?=some (.cells cs.toArray T (0,0)):=hb
  rw[←e,h6]at h7;injection h7 with h7;injection h7 with _ hT _;exact h3 hT.symm
 ·injection e with e
  exact h.box.typed_out hb h1 h2 h3 h4 h5 (by rw[←e];exact hk)
theorem NextAt.keep(h:NextAt w w4 base gB b b' M bk kn){g:Nat}(hg:g<w.heap.size)(hn:g∉b.efoot):w4.heap[g]?=w.heap[g]?:=h.frm.block g hg hn
end
def pkZ:List Value:=packetC (List.replicate 32 0#8) 0 0 0 none 0 0
theorem built_pkZ:Tryd.prog.built 35 []=some pkZ.toArray:=by kernel_rfl
theorem sizePk:(Tryd.prog.info? 35).map (·.size)=some 36:=by kernel_rfl
theorem pkC_len{grp:List (BitVec 8)}(h:grp.length=32)(ep fr nu:Int)(A:Option Addr)(n c:Nat):(packetC grp ep fr nu A n c).length=36:=by simp[packetC,h]
theorem pkC_one(grp:List (BitVec 8))(ep fr nu:Int)(A:Option Addr)(n c:Nat):∀u∈packetC grp ep fr nu A n c,u.oneCell'=true:=by
 intro u hu
 unfold packetC at hu
 simp only[List.mem_append,List.mem_cons,List.not_mem_nil,or_false]at hu
 rcases hu with hu|rfl|rfl|rfl|rfl
 ·obtain⟨x,-,rfl⟩:=List.mem_map.1 hu;exact b8_one x
 all_goals rfl
theorem built_pk{grp:List (BitVec 8)}(h:grp.length=32)(ep fr nu:Int):Tryd.prog.built 35 [(0,.agg (grp.map b8).toArray),(1,.int .i64 ep),(2,.int .i64 fr),(3,.int .i64 nu)]=some (packetC grp ep fr nu none 0 0).toArray:=by
 obtain⟨x0,x1,x2,x3,x4,x5,x6,x7,x8,x9,x10,x11,x12,x13,x14,x15,x16,x17,x18,x19,x20,x21,x22,x23,x24,x25,x26,x27,x28,x29,x30,x31,rfl⟩:=list_of32 h
 kernel_rfl
theorem pkC_set35{grp:List (BitVec 8)}(h:grp.length=32)(ep fr nu:Int)(A A':Option Addr)(n c n' c':Nat):(packetC grp ep fr nu A n c).set 35 (.slice A' n' c')=packetC grp ep fr nu A' n' c':=by
 unfold packetC
 rw[List.set_append,if_neg (by simp[h])]
 simp[h]
theorem pkZ_lit:pkZ.toArray= #[Value.int .u8 0,Value.int .u8 0,Value.int .u8 0,Value.int .u8 0,Value.int .u8 0,Value.int .u8 0,Value.int .u8 0,Value.int .u8 0,Value.int .u8 0,Value.int .u8 0,Value.int .u8 0,Value.int .u8 0,Value.int .u8 0,Value.int .u8 0,Value.int .u8 0,Value.int .u8 0,Value.int .u8 0,Value.int .u8 0,Value.int .u8 0,Value.int .u8 0,Value.int .u8 0,Value.int .u8 0,Value.int .u8 0,Value.int .u8 0,Value.int .u8 0,Value.int .u8 0,Value.int .u8 0,Value.int .u8 0,Value.int .u8 0,Value.int .u8 0,Value.int .u8 0,Value.int .u8 0,Value.int .i64 0,Value.int .i64 0,Value.int .i64 0,Value.slice none 0 0]:=rfl
theorem run_bld{P:Program}{op:Oper}{a:Act}{t:TypeId}{parts:List (Nat×Operand)}{cells:Array Value}{vals:List (Nat×Value)}(ho:op.op= .build t parts.toArray)(hv:parts.map (fun x=>(x.1,a.eval x.2))=vals)(hb:P.built t vals=some cells)(w:World):
 (execOp a.eval op).run P w= .ok (.value (.agg cells)) w:=by
 have hr:=run_build (P:=P) w t vals.toArray cells hb
 rw[←hv,←List.map_toArray]at hr
 unfold execOp
 simp only[ho]
 have e:(parts.toArray.map fun(i,x)=>(i,a.eval x))=parts.toArray.map (fun x=>(x.1,a.eval x.2)):=rfl
 rw[e]
 simp only[Sem.run_bind,Sem.run_pure,Result.andThen_ok,hr]
set_option maxHeartbeats 8000000 in
theorem seal23_any{w:World}{base gB:Nat}{b:BX}(h:BoxAt w base gB b)(T:Option Addr)(m d Bm:Nat)(text:List (BitVec 8))(hr:Rd b8 w Bm T text)(hBm:Bm≤w.heap.size)(hTf:∀bt off,T=some ⟨bt,off,none⟩→bt∉b.efoot)(hm:text.length=m):
 Calls Tryd.prog 7 #[.pointer (some ⟨gB,0,none⟩),.slice T m d] w fun e w'=>∃(A:Option Addr) (n c:Nat),e= .returned (.tuple #[.agg (packetC (sealP b.m text).grp (sealP b.m text).ep (sealP b.m text).fr (sealP b.m text).nu A n c).toArray,errV (sealE b.m m)])∧Own b8 w' w.heap.size 5 (.slice A n c) (sealP b.m text).sl∧
  ∃b',b'.m=sealM b.m m∧BoxAt w' base gB b'∧Frm w w' (BX.foot gB b)∧(∀k∈BX.foot gB b',k∈BX.foot gB b∨w.heap.size≤k)∧∀k,(Value.slice A n c).ownBlock=some k→k∉BX.foot gB b':=by
 obtain⟨w1,hw1⟩:∃w1,w1=w.alloc (.cells pkZ.toArray 35):=⟨_,rfl⟩
 have HZ1:=qq (show Blk w1 w.heap.size 35 pkZ by rw[hw1];exact Blk.new _ _ _)
 have HK1:=qq (show Below w.heap.size w w1 by rw[hw1];exact(Below.refl _ w).alloc (Nat.le_refl _) _)
 have hz1:w1.heap.size=w.heap.size+1:=by rw[hw1];simp
 have HW1:=qq hw1
 clear hw1
 have HB1:=qq (h.below HK1.out)
 have HH:=qq h
 have HTf:=qq hTf
 clear hTf
 have HR1:=qq ((hr.below (HK1.out.mono hBm)).more (show Bm≤w1.heap.size by omega))
 rcases Nat.eq_zero_or_pos b.es.length with h0|h0
 ·have he:b.es=[]:=List.eq_nil_of_length_eq_zero h0
  have hll:lastLine b.m.es=none:=by unfold lastLine lineAt BX.m;simp[he]
  have hE:sealE b.m m=10:=by unfold sealE;rw[hll]
  have hP:sealP b.m text=zeroP:=by unfold sealP;rw[hll]
  have hM:sealM b.m m=b.m:=by unfold sealM;rw[hll]
  rw[hE,hP,hM]
  have HL:=qq (last_empty HB1.out he)
  clear h h0 he hll hE hP hM hr hm
  go_enter Tryd.func7,Tryd.ntmps7
  go_upto_region 1 with fail
  have hw1:=HW1.out
  rw[pkZ_lit]at hw1
  rw[←hw1]
  clear hw1
  go_wp2_with fail
  refine HL.out.mono ?_
  rintro e w2 ⟨rfl,q,hq⟩
  have HB2:=qq (drewN_below hq)
  have hz2:=HB2.out.size
  clear hq
  go_wp2_with (first
   |(refine wpList_bparts rfl 35 [] rfl pkZ.toArray [] rfl built_pkZ ?_)
   |(refine wpList_store_piece rfl 35 (.tmp 4) (.tmp 15) rfl w.heap.size 0 rfl pkZ rfl 35 _ [] pkZ [] (HZ1.out.below HB2.out (by omega)) (by simp) rfl rfl sizePk (pkC_one _ _ _ _ _ _ _) ?_;intro w9 hx9 hg9))
  have HX9:=qq (show Blk w9 w.heap.size 35 pkZ from hx9.cast (by simp))
  refine bodyPost_ret (v:= .tuple #[.agg pkZ.toArray,errV 10]) (results_blk_tmp (g:=w.heap.size) rfl _ _ _ _ _ _ rfl rfl HX9.out Tryd.underlying35 rfl sizePk) rfl ?_
  have hbz:=(HK1.out.trans (HB2.out.mono (by omega)))
  have hbx:=hbz.grown hg9 hbz.size (fun k e=>by cases e;exact Nat.le_refl _)
  exact⟨none,0,0,rfl,Own.nil_ _ _ _ _,b,rfl,HH.out.below hbx,(Frm.refl w _).below hbx (Nat.le_refl _),fun k hk=> .inl hk,fun k hk=>(by cases hk)⟩
 ·obtain⟨n,hn⟩:∃n,b.es.length=n+1:=⟨b.es.length-1,by omega⟩
  obtain⟨g,c,hv,hbg,hgl,hcc⟩:=HB1.out.v_some h0
  rw[hn]at hv
  have hi:n<b.es.length:=by omega
  have hb:=h.bnd _ (List.getElem_mem hi)
  obtain⟨l,hl⟩:∃l,l=(b.es[n].xs[b.es[n].leaf]'hb.1).l:=⟨_,rfl⟩
  have hll:=bx_lastLine hn hb.1
  rw[←hl]at hll
  have hlok:LOK l:=by rw[hl];exact((h.ch _ (List.getElem_mem hi)).ok _ (List.getElem_mem hb.1)).lok
  have HL:=qq (last_some HB1.out hn hv)
  by_cases hbig:1024<m
  ·have hE:sealE b.m m=1:=by unfold sealE;rw[hll];exact if_pos hbig
   have hP:sealP b.m text=zeroP:=by unfold sealP;rw[hll];dsimp only;rw[hm,hE];exact if_neg (by decide)
   have hM:sealM b.m m=b.m:=by unfold sealM;rw[hll];dsimp only;rw[hE];exact if_neg (by decide)
   rw[hE,hP,hM]
   have hbig2:(m:Int)>1024:=by omega
   clear h h0 hn hv hbg hgl hcc hi hb hl hll hlok hE hP hM hr hm hbig
   go_enter Tryd.func7,Tryd.ntmps7
   go_upto_region 1 with fail
   have hw1:=HW1.out
   rw[pkZ_lit]at hw1
   rw[←hw1]
   clear hw1
   go_wp2_with fail
   refine HL.out.mono ?_
   rintro e w2 ⟨rfl,q,hq⟩
   have HB2:=qq (drewN_below hq)
   have hz2:=HB2.out.size
   clear hq
   go_wp2_with (first
    |(refine wpList_bparts rfl 35 [] rfl pkZ.toArray [] rfl built_pkZ ?_)
    |(refine wpList_store_piece rfl 35 (.tmp 4) (.tmp 21) rfl w.heap.size 0 rfl pkZ rfl 35 _ [] pkZ [] (HZ1.out.below HB2.out (by omega)) (by simp) rfl rfl sizePk (pkC_one _ _ _ _ _ _ _) ?_;intro w9 hx9 hg9))
   have HX9:=qq (show Blk w9 w.heap.size 35 pkZ from hx9.cast (by simp))
   refine bodyPost_ret (v:= .tuple #[.agg pkZ.toArray,errV 1]) (results_blk_tmp (g:=w.heap.size) rfl _ _ _ _ _ _ rfl rfl HX9.out Tryd.underlying35 rfl sizePk) rfl ?_
   have hbz:=(HK1.out.trans (HB2.out.mono (by omega)))
   have hbx:=hbz.grown hg9 hbz.size (fun k e=>by cases e;exact Nat.le_refl _)
   exact⟨none,0,0,rfl,Own.nil_ _ _ _ _,b,rfl,HH.out.below hbx,(Frm.refl w _).below hbx (Nat.le_refl _),fun k hk=> .inl hk,fun k hk=>(by cases hk)⟩
  ·have hbig2:¬((m:Int)>1024):=by omega
   have hE:sealE b.m m=takeE l l.place:=by unfold sealE;rw[hll];exact if_neg hbig
   have hgnf:g∉b.efoot:=HB1.out.row_efoot (by rw[hv];rfl)
   have HV:=qq hv
   obtain⟨lf,hlf⟩:∃lf,lf=b.es[n].leaf:=⟨_,rfl⟩
   obtain⟨gC,hgC⟩:∃gC,gC=b.es[n].gC:=⟨_,rfl⟩
   by_cases hT:takeE l l.place=0
   ·obtain⟨hkl,hnl⟩:=takeO_lens hlok hT
    have hEz:sealE b.m m=0:=by rw[hE];exact hT
    obtain⟨P,hP0⟩:∃P,P=l.place:=⟨_,rfl⟩
    obtain⟨O,hO⟩:∃O,O=takeO l l.place:=⟨_,rfl⟩
    obtain⟨no,hno⟩:∃no,no=b.es[n].no:=⟨_,rfl⟩
    have hlf':lastLeaf b.m.es=lf:=by rw[bx_lastLeaf hn,hlf]
    have hln':lastNo b.m.es=no:=by
     rw[hno];unfold lastNo BX.m
     simp only[List.getLast?_eq_getElem?,List.length_map,hn,Nat.add_sub_cancel,List.getElem?_map,List.getElem?_eq_getElem hi,Option.map_some,EP.m]
    have hsp:sealP b.m text=⟨b.grp,no,(lf:Int),P,sealV O.key O.nonce (ctxV b.grp no (lf:Int) P) text⟩:=by
     unfold sealP;rw[hll];dsimp only;rw[hm,hEz,if_pos rfl,hln',hlf',←hO,←hP0];rfl
    obtain⟨M,hM0⟩:∃M:BM,M=⟨b.m.grp,setLine b.m.es n lf (takeL l l.place),b.m.clr⟩:=⟨_,rfl⟩
    have hsm:sealM b.m m=M:=by
     unfold sealM;rw[hll];dsimp only;rw[hEz,if_pos rfl,hlf',hM0,show b.m.es.length-1=n by unfold BX.m;simp[hn]]
    rw[hEz,hsp,hsm]
    have HMg:=qq (show∀b':BX,b'.m=M→b'.grp=b.grp from fun b' e=>by
     have h5:b'.m.grp=M.grp:=by rw[e]
     rw[hM0]at h5;exact h5)
    have HKl:=qq (show O.key.length=32 by rw[hO];exact hkl)
    have HNl:=qq (show O.nonce.length=12 by rw[hO];exact hnl)
    have HGl:=qq h.glen
    have HNx:=qq (show∀w2 W,Below w2.heap.size w2 W→BoxAt W base gB b→Calls Tryd.prog 14 #[.pointer (some ⟨gC,0,none⟩),.int .i64 (lf:Int)] W fun e w'=>∃bk b',e= .returned (.tuple #[.agg (onceC P O.key (nonceS bk)).toArray,.nilIface])∧NextAt w2 w' base gB b b' M bk (O.key++O.nonce)∧Frm W w' b.efoot from fun w2 W hbW hW=>by
     refine(by have h5:=chNext_ok hW hi hb.1 hl hT;rw[←hgC,←hlf,←hO,←hP0]at h5;exact h5:Calls _ _ _ _ _).mono ?_
     rintro e w' ⟨k,b',rfl,h1,h2,h3,h4,h5,h6⟩
     refine⟨k,b',rfl,⟨h1,?_,h3,h4,⟨h5.os.trans hbW.os,h5.tape.trans hbW.tape,h5.output.trans hbW.output,Nat.le_trans hbW.size h5.size,fun k hk hn=>(h5.block k (Nat.lt_of_lt_of_le hk hbW.size) hn).trans (hbW.block k hk)⟩,fun k hk=>(h6 k hk).imp (fun h=>h) (fun h=>Nat.le_trans hbW.size h)⟩,h5⟩
     rw[h2,hM0,←hP0])
    have HAt:=qq (show∀w2 W:World,BoxAt w2 base gB b→W.heap[g]?=w2.heap[g]?→W.cell? ⟨g,n*3,none⟩=some (.pointer (some ⟨gC,0,none⟩))∧W.cell? ⟨g,n*3+2,none⟩=some (.int .i64 (lf:Int))∧W.cell? ⟨g,n*3+1,none⟩=some (.int .i64 no)from fun w2 W hW hh=>by
     obtain⟨a0,a1,a2⟩:=hW.at_row hv hi
     rw[hgC,hlf,hno]
     exact⟨(World.cell?_of_block (a:=⟨g,n*3,none⟩) hh).trans a0,(World.cell?_of_block (a:=⟨g,n*3+2,none⟩) hh).trans a2,(World.cell?_of_block (a:=⟨g,n*3+1,none⟩) hh).trans a1⟩)
    have HGn:=qq hgnf
    have hm1:m≤1024:=by omega
    have HM:=qq hm
    clear h h0 hn hv hbg hcc hi hb hl hll hlok hE hEz hsp hsm hr hm hbig hT hlf hgC hgnf hkl hnl hP0 hO hno hlf' hln' hM0
    go_enter Tryd.func7,Tryd.ntmps7
    go_upto_region 1 with fail
    have hw1:=HW1.out
    rw[pkZ_lit]at hw1
    rw[←hw1]
    clear hw1
    go_wp2_with fail
    refine HL.out.mono ?_
    rintro e w2 ⟨rfl,q,hq⟩
    have HB2:=qq (drewN_below hq)
    have hz2:=HB2.out.size
    have HX2:=qq (HB1.out.below HB2.out)
    have hgl2:g<w2.heap.size:=by omega
    clear hq
    go_upto_region 6 with fail
    have hS6:w2.cell? ⟨g,n*3,none⟩=some (.pointer (some ⟨gC,0,none⟩))∧w2.cell? ⟨g,n*3+2,none⟩=some (.int .i64 (lf:Int)):=⟨(HAt.out _ _ HX2.out rfl).1,(HAt.out _ _ HX2.out rfl).2.1⟩
    go_cut [7,8]from 23 to 34 (fun p e wx=>∃(gO bk:Nat) (b':BX),p= .pointer (some ⟨gO,0,none⟩)∧e= .nilIface∧w2.heap.size≤gO∧Blk wx gO 56 (onceC P O.key (nonceS bk))∧NextAt w2 wx base gB b b' M bk (O.key++O.nonce))
    case first=>
     have HS:=qq (show∀W:World,W.heap[g]?=w2.heap[g]?→W.cell? ⟨g,n*3,none⟩=some (.pointer (some ⟨gC,0,none⟩))∧W.cell? ⟨g,n*3+2,none⟩=some (.int .i64 (lf:Int))from fun W hW=>⟨(HAt.out _ _ HX2.out hW).1,(HAt.out _ _ HX2.out hW).2.1⟩)
     refine wp_region_noPanic ?_
     refine wp_region_held_drew (S:=fun w'=>w'.cell? ⟨g,n*3,none⟩=some (.pointer (some ⟨gC,0,none⟩))∧w'.cell? ⟨g,n*3+2,none⟩=some (.int .i64 (lf:Int))) (by kernel_rfl) hS6 (fun hS=>?_)
     refine wpAnyH_take (i:=0) (oi:={dst:=some 24,op:=_,type:=_,pos:=_,after:=_,guard:=_}) (v:= .pointer (some ⟨g,n*3,none⟩)) rfl (by kernel_rfl) (by kernel_rfl) (by kernel_rfl) (fun _ _ _ h=>h) (Or.inl ⟨by rfl,?_⟩) hS ?_
     ·intro w' hw'
      obtain⟨s0,s1⟩:=hw'
      go_simp
     try simp only[Act.put,qj,qz,qv]
     refine wpAnyH_take (i:=1) (oi:={dst:=some 25,op:=_,type:=_,pos:=_,after:=_,guard:=_}) (v:= .pointer (some ⟨g,n*3,none⟩)) rfl (by kernel_rfl) (by kernel_rfl) (by kernel_rfl) (fun _ _ _ h=>h) (Or.inl ⟨by rfl,?_⟩) hS ?_
     ·intro w' hw'
      obtain⟨s0,s1⟩:=hw'
      go_simp
     try simp only[Act.put,qj,qz,qv]
     refine wpAnyH_take (i:=2) (oi:={dst:=some 26,op:=_,type:=_,pos:=_,after:=_,guard:=_}) (v:= .pointer (some ⟨g,n*3,none⟩)) rfl (by kernel_rfl) (by kernel_rfl) (by kernel_rfl) (fun _ _ _ h=>h) (Or.inl ⟨by rfl,?_⟩) hS ?_
     ·intro w' hw'
      obtain⟨s0,s1⟩:=hw'
      go_simp
     try simp only[Act.put,qj,qz,qv]
     refine wpAnyH_take (i:=3) (oi:={dst:=some 27,op:=_,type:=_,pos:=_,after:=_,guard:=_}) (v:= .pointer (some ⟨gC,0,none⟩)) rfl (by kernel_rfl) (by kernel_rfl) (by kernel_rfl) (fun _ _ _ h=>h) (Or.inl ⟨by rfl,?_⟩) hS ?_
     ·intro w' hw'
      obtain⟨s0,s1⟩:=hw'
      go_simp
     try simp only[Act.put,qj,qz,qv]
     refine wpAnyH_take (i:=4) (oi:={dst:=some 28,op:=_,type:=_,pos:=_,after:=_,guard:=_}) (v:= .pointer (some ⟨g,n*3,none⟩)) rfl (by kernel_rfl) (by kernel_rfl) (by kernel_rfl) (fun _ _ _ h=>h) (Or.inl ⟨by rfl,?_⟩) hS ?_
     ·intro w' hw'
      obtain⟨s0,s1⟩:=hw'
      go_simp
     try simp only[Act.put,qj,qz,qv]
     refine wpAnyH_take (i:=5) (oi:={dst:=some 29,op:=_,type:=_,pos:=_,after:=_,guard:=_}) (v:= .pointer (some ⟨g,n*3,none⟩)) rfl (by kernel_rfl) (by kernel_rfl) (by kernel_rfl) (fun _ _ _ h=>h) (Or.inl ⟨by rfl,?_⟩) hS ?_
     ·intro w' hw'
      obtain⟨s0,s1⟩:=hw'
      go_simp
     try simp only[Act.put,qj,qz,qv]
     refine wpAnyH_take (i:=6) (oi:={dst:=some 30,op:=_,type:=_,pos:=_,after:=_,guard:=_}) (v:= .pointer (some ⟨g,n*3+2,none⟩)) rfl (by kernel_rfl) (by kernel_rfl) (by kernel_rfl) (fun _ _ _ h=>h) (Or.inl ⟨by rfl,?_⟩) hS ?_
     ·intro w' hw'
      obtain⟨s0,s1⟩:=hw'
      go_simp
     try simp only[Act.put,qj,qz,qv]
     refine wpAnyH_take (i:=7) (oi:={dst:=some 31,op:=_,type:=_,pos:=_,after:=_,guard:=_}) (v:= .int .i64 (lf:Int)) rfl (by kernel_rfl) (by kernel_rfl) (by kernel_rfl) (fun _ _ _ h=>h) (Or.inl ⟨by rfl,?_⟩) hS ?_
     ·intro w' hw'
      obtain⟨s0,s1⟩:=hw'
      go_simp
     try simp only[Act.put,qj,qz,qv]
     refine wpAnyH_ready (rs:=[8,12]) (by kernel_rfl) (by simp) (AllReadyH.cons (o:={dst:=some 32,op:=_,type:=_,pos:=_,after:=_,guard:=_}) rfl (fun K' hK=>?_) (AllReadyH.cons (o:={dst:=some 7,op:=_,type:=_,pos:=_,after:=_,guard:=_}) rfl (fun K' hK=>?_) AllReadyH.nil))
     ·go_simp
      go_at_call 14
      refine(HNx.out w2 _ (Below.refl _ w2).drew HX2.out.drew).mono ?_
      rintro e w4 ⟨bk,b',rfl,hx4,-⟩
      have HX4:=qq hx4
      clear hx4
      refine hK.out _ _ (HS.out _ (HX4.out.keep hgl2 HGn.out)) (fun hS=>?_)
      clear hK K'
      try simp only[Act.put,qj,qz,qv]
      refine wpAnyH_take (i:=9) (oi:={dst:=some 23,op:=_,type:=_,pos:=_,after:=_,guard:=_}) (v:= .tuple #[.agg (onceC P O.key (nonceS bk)).toArray,.nilIface]) rfl (by kernel_rfl) (by kernel_rfl) (by kernel_rfl) (fun _ _ _ h=>h) (Or.inl ⟨by rfl,?_⟩) hS ?_
      ·intro w' hw'
       obtain⟨s0,s1⟩:=hw'
       go_simp
      try simp only[Act.put,qj,qz,qv]
      refine wpAnyH_take (i:=10) (oi:={dst:=some 33,op:=_,type:=_,pos:=_,after:=_,guard:=_}) (v:= .agg (onceC P O.key (nonceS bk)).toArray) rfl (by kernel_rfl) (by kernel_rfl) (by kernel_rfl) (fun _ _ _ h=>h) (Or.inl ⟨by rfl,?_⟩) hS ?_
      ·intro w' hw'
       obtain⟨s0,s1⟩:=hw'
       go_simp
      try simp only[Act.put,qj,qz,qv]
      refine wpAnyH_take (i:=11) (oi:={dst:=some 34,op:=_,type:=_,pos:=_,after:=_,guard:=_}) (v:= .nilIface) rfl (by kernel_rfl) (by kernel_rfl) (by kernel_rfl) (fun _ _ _ h=>h) (Or.inl ⟨by rfl,?_⟩) hS ?_
      ·intro w' hw'
       obtain⟨s0,s1⟩:=hw'
       go_simp
      try simp only[Act.put,qj,qz,qv]
      refine wpAnyH_ready (rs:=[12]) (by kernel_rfl) (by simp) (AllReadyH.cons (o:={dst:=some 7,op:=_,type:=_,pos:=_,after:=_,guard:=_}) rfl (fun K' hK=>?_) AllReadyH.nil)
      go_simp
      have HX5:=qq (HX4.out.below ((Below.refl _ w4).alloc (Nat.le_refl _) (.cells zeroOnce.toArray 56)))
      refine hK.out _ _ (HS.out _ (HX5.out.keep hgl2 HGn.out)) (fun hS=>?_)
      clear hK K'
      try simp only[Act.put,qj,qz,qv]
      refine wpAnyH_ready (rs:=[13]) (by kernel_rfl) (by simp) (AllReadyH.cons (o:={dst:=none,op:=_,type:=_,pos:=_,after:=_,guard:=_}) rfl (fun K' hK=>?_) AllReadyH.nil)
      rw[if_pos (by rfl)]
      refine wp_store_piece 56 (.tmp 7) (.tmp 33) rfl (w4.heap.size) 0 rfl (onceC P O.key (nonceS bk)) rfl 56 _ [] zeroOnce [] (Blk.new w4 56 zeroOnce) (by simp) rfl (by rw[onceC_len _ _ _ HKl.out];rfl) (by rw[sizeOnce,onceC_len _ _ _ HKl.out]) (onceC_one _ _ _ _ _) ?_
      intro w5 hx5 hg5
      have hx6:=HX5.out.turn (Blk.new w4 56 zeroOnce) hg5 HX4.out.frm.size (by decide) (by decide) (by decide) (by decide) (by decide)
      have HX6:=qq hx6
      have HO6:=qq (show Blk w5 w4.heap.size 56 (onceC P O.key (nonceS bk))from hx5.cast (by simp))
      have HsO:=qq HX4.out.frm.size
      clear hx5 hg5 hx6
      refine hK.out _ _ (HS.out _ (HX6.out.keep hgl2 HGn.out)) (fun hS=>?_)
      clear hK K'
      try simp only[Act.put,qj,qz,qv]
      refine wpAnyH_take (i:=14) (oi:={dst:=some 8,op:=_,type:=_,pos:=_,after:=_,guard:=_}) (v:= .nilIface) rfl (by kernel_rfl) (by kernel_rfl) (by kernel_rfl) (fun _ _ _ h=>h) (Or.inl ⟨by rfl,?_⟩) hS ?_
      ·intro w' hw'
       obtain⟨s0,s1⟩:=hw'
       go_simp
      try simp only[Act.put,qj,qz,qv]
      refine wpAnyH_done (by kernel_rfl) ?_ _
      refine NoPanic.normal ?_
      go_wp2_with fail
      go_meet
      case rel=>exact⟨_,bk,b',rfl,rfl,HsO.out,HO6.out,HX6.out⟩
     ·go_simp
      refine hK.out _ _ (HS.out _ (((Below.refl _ w2).alloc (Nat.le_refl _) _).drew.block g hgl2)) (fun hS=>?_)
      clear hK K'
      try simp only[Act.put,qj,qz,qv]
      refine wpAnyH_ready (rs:=[8]) (by kernel_rfl) (by simp) (AllReadyH.cons (o:={dst:=some 32,op:=_,type:=_,pos:=_,after:=_,guard:=_}) rfl (fun K' hK=>?_) AllReadyH.nil)
      go_simp
      go_at_call 14
      refine(HNx.out w2 _ ((Below.refl _ w2).alloc (Nat.le_refl _) (.cells zeroOnce.toArray 56)).drew (HX2.out.alloc (.cells zeroOnce.toArray 56)).drew).mono ?_
      rintro e w4 ⟨bk,b',rfl,hx4,hf4⟩
      have HX4:=qq hx4
      have hef:w2.heap.size∉b.efoot:=fun hm=>by have:=(HX2.out.foot_lt _ (BX.efoot_sub gB b _ hm)).2;omega
      have HZ4:=qq (show Blk w4 w2.heap.size 56 zeroOnce from(hf4.block _ (by show w2.heap.size<(w2.alloc (.cells zeroOnce.toArray 56)).heap.size;rw[World.size_alloc];omega) hef).trans (Blk.new w2 56 zeroOnce))
      clear hx4 hf4 hef
      refine hK.out _ _ (HS.out _ (HX4.out.keep hgl2 HGn.out)) (fun hS=>?_)
      clear hK K'
      try simp only[Act.put,qj,qz,qv]
      refine wpAnyH_take (i:=9) (oi:={dst:=some 23,op:=_,type:=_,pos:=_,after:=_,guard:=_}) (v:= .tuple #[.agg (onceC P O.key (nonceS bk)).toArray,.nilIface]) rfl (by kernel_rfl) (by kernel_rfl) (by kernel_rfl) (fun _ _ _ h=>h) (Or.inl ⟨by rfl,?_⟩) hS ?_
      ·intro w' hw'
       obtain⟨s0,s1⟩:=hw'
       go_simp
      try simp only[Act.put,qj,qz,qv]
      refine wpAnyH_take (i:=10) (oi:={dst:=some 33,op:=_,type:=_,pos:=_,after:=_,guard:=_}) (v:= .agg (onceC P O.key (nonceS bk)).toArray) rfl (by kernel_rfl) (by kernel_rfl) (by kernel_rfl) (fun _ _ _ h=>h) (Or.inl ⟨by rfl,?_⟩) hS ?_
      ·intro w' hw'
       obtain⟨s0,s1⟩:=hw'
       go_simp
      try simp only[Act.put,qj,qz,qv]
      refine wpAnyH_take (i:=11) (oi:={dst:=some 34,op:=_,type:=_,pos:=_,after:=_,guard:=_}) (v:= .nilIface) rfl (by kernel_rfl) (by kernel_rfl) (by kernel_rfl) (fun _ _ _ h=>h) (Or.inl ⟨by rfl,?_⟩) hS ?_
      ·intro w' hw'
       obtain⟨s0,s1⟩:=hw'
       go_simp
      try simp only[Act.put,qj,qz,qv]
      refine wpAnyH_ready (rs:=[13]) (by kernel_rfl) (by simp) (AllReadyH.cons (o:={dst:=none,op:=_,type:=_,pos:=_,after:=_,guard:=_}) rfl (fun K' hK=>?_) AllReadyH.nil)
      rw[if_pos (by rfl)]
      refine wp_store_piece 56 (.tmp 7) (.tmp 33) rfl (w2.heap.size) 0 rfl (onceC P O.key (nonceS bk)) rfl 56 _ [] zeroOnce [] HZ4.out (by simp) rfl (by rw[onceC_len _ _ _ HKl.out];rfl) (by rw[sizeOnce,onceC_len _ _ _ HKl.out]) (onceC_one _ _ _ _ _) ?_
      intro w5 hx5 hg5
      have hx6:=HX4.out.turn HZ4.out hg5 (Nat.le_refl _) (by decide) (by decide) (by decide) (by decide) (by decide)
      have HX6:=qq hx6
      have HO6:=qq (show Blk w5 w2.heap.size 56 (onceC P O.key (nonceS bk))from hx5.cast (by simp))
      clear hx5 hg5 hx6
      refine hK.out _ _ (HS.out _ (HX6.out.keep hgl2 HGn.out)) (fun hS=>?_)
      clear hK K'
      try simp only[Act.put,qj,qz,qv]
      refine wpAnyH_take (i:=14) (oi:={dst:=some 8,op:=_,type:=_,pos:=_,after:=_,guard:=_}) (v:= .nilIface) rfl (by kernel_rfl) (by kernel_rfl) (by kernel_rfl) (fun _ _ _ h=>h) (Or.inl ⟨by rfl,?_⟩) hS ?_
      ·intro w' hw'
       obtain⟨s0,s1⟩:=hw'
       go_simp
      try simp only[Act.put,qj,qz,qv]
      refine wpAnyH_done (by kernel_rfl) ?_ _
      refine NoPanic.normal ?_
      go_wp2_with fail
      go_meet
      case rel=>exact⟨_,bk,b',rfl,rfl,Nat.le_refl _,HO6.out,HX6.out⟩
    case rest=>
     obtain⟨gO,bk,b',rfl,rfl,hgO,hO6,hx6⟩:=hcut
     have HO6:=qq hO6
     have HX6:=qq hx6
     have HRc:=qq (show Rd b8 wc w2.heap.size T text from rd_frm ((HR1.out.below HB2.out).more HB2.out.size) (Nat.le_refl _) hx6.frm HTf.out)
     have hgl6:gO<wc.heap.size:=hO6.lt
     have hbgr:=HMg.out b' hx6.m
     have hcells:=HAt.out w2 wc HX2.out (hx6.keep hgl2 HGn.out)
     have hr9:wc.drew.rangeAt gB 0 (b.grp.map b8):=by
      have h5:=(hx6.box.blk).range 0 32
      rwa[List.drop_zero,show b'.cells.take 32=b.grp.map b8 by unfold BX.cells;rw[hbgr,List.take_left' (by rw[List.length_map,HGl.out])]]at h5
     have c0:=hO6.cell 0 (u:= .int .i64 P) rfl
     have hS:wc.drew.rangeAt gB 0 (b.grp.map b8)∧wc.drew.cell? ⟨g,n*3+1,none⟩=some (.int .i64 no)∧wc.drew.cell? ⟨g,n*3+2,none⟩=some (.int .i64 (lf:Int))∧wc.drew.cell? ⟨gO,0,none⟩=some (.int .i64 P):=⟨hr9,hcells.2.2,hcells.2.1,c0⟩
     have hu:=Tryd.underlying29
     have hi33:(Tryd.prog.info? 29).map (·.size)=some (b.grp.map b8).length:=by rw[List.length_map,HGl.out];exact infoSum
     have hbp:=built_pk HGl.out no (lf:Int) P
     have HS9:=qq (show∀W,NextAt w2 W base gB b b' M bk (O.key++O.nonce)→Blk W gO 56 (onceC P O.key (nonceS bk))→W.rangeAt gB 0 (b.grp.map b8)∧W.cell? ⟨g,n*3+1,none⟩=some (.int .i64 no)∧W.cell? ⟨g,n*3+2,none⟩=some (.int .i64 (lf:Int))∧W.cell? ⟨gO,0,none⟩=some (.int .i64 P)from fun W hX hO=>by
      have h5:=(hX.box.blk).range 0 32
      rw[List.drop_zero,show b'.cells.take 32=b.grp.map b8 by unfold BX.cells;rw[hbgr,List.take_left' (by rw[List.length_map,HGl.out])]]at h5
      have h6:=HAt.out w2 W HX2.out (hX.keep hgl2 HGn.out)
      exact⟨h5,h6.2.2,h6.2.1,hO.cell 0 (u:= .int .i64 P) rfl⟩)
     clear hO6 hx6 hbgr hcells hr9 c0
     go_wp2_with fail
     refine wp_region_noPanic ?_
     refine wp_region_held_drew (S:=fun w'=>w'.rangeAt gB 0 (b.grp.map b8)∧w'.cell? ⟨g,n*3+1,none⟩=some (.int .i64 no)∧w'.cell? ⟨g,n*3+2,none⟩=some (.int .i64 (lf:Int))∧w'.cell? ⟨gO,0,none⟩=some (.int .i64 P)) (by kernel_rfl) hS (fun hS=>?_)
     refine wpAnyH_take (i:=0) (oi:={dst:=some 39,op:=_,type:=_,pos:=_,after:=_,guard:=_}) (v:= .pointer (some ⟨gB,0,none⟩)) rfl (by kernel_rfl) (by kernel_rfl) (by kernel_rfl) (fun _ _ _ h=>h) (Or.inl ⟨by rfl,?_⟩) hS ?_
     ·intro w' hw'
      obtain⟨-,s0,s1,s2⟩:=hw'
      go_simp
     try simp only[Act.put,qj,qz,qv]
     refine wpAnyH_take (i:=1) (oi:={dst:=some 40,op:=_,type:=_,pos:=_,after:=_,guard:=_}) (v:= .pointer (some ⟨gB,0,none⟩)) rfl (by kernel_rfl) (by kernel_rfl) (by kernel_rfl) (fun _ _ _ h=>h) (Or.inl ⟨by rfl,?_⟩) hS ?_
     ·intro w' hw'
      obtain⟨-,s0,s1,s2⟩:=hw'
      go_simp
     try simp only[Act.put,qj,qz,qv]
     refine wpAnyH_take (i:=2) (oi:={dst:=some 41,op:=_,type:=_,pos:=_,after:=_,guard:=_}) (v:= .pointer (some ⟨gB,0,none⟩)) rfl (by kernel_rfl) (by kernel_rfl) (by kernel_rfl) (fun _ _ _ h=>h) (Or.inl ⟨by rfl,?_⟩) hS ?_
     ·intro w' hw'
      obtain⟨-,s0,s1,s2⟩:=hw'
      go_simp
     try simp only[Act.put,qj,qz,qv]
     refine wpAnyH_take (i:=3) (oi:={dst:=some 42,op:=_,type:=_,pos:=_,after:=_,guard:=_}) (v:= .agg (b.grp.map b8).toArray) rfl (by kernel_rfl) (by kernel_rfl) (by kernel_rfl) (fun _ _ _ h=>h) (yieldsIf_load_mid (by rfl) 29 (.tmp 41) rfl gB 0 rfl (b.grp.map b8) _ (fun _ h=>h.1) hu rfl hi33) hS ?_
     try simp only[Act.put,qj,qz,qv]
     refine wpAnyH_take (i:=4) (oi:={dst:=some 43,op:=_,type:=_,pos:=_,after:=_,guard:=_}) (v:= .pointer (some ⟨g,n*3,none⟩)) rfl (by kernel_rfl) (by kernel_rfl) (by kernel_rfl) (fun _ _ _ h=>h) (Or.inl ⟨by rfl,?_⟩) hS ?_
     ·intro w' hw'
      obtain⟨-,s0,s1,s2⟩:=hw'
      go_simp
     try simp only[Act.put,qj,qz,qv]
     refine wpAnyH_take (i:=5) (oi:={dst:=some 44,op:=_,type:=_,pos:=_,after:=_,guard:=_}) (v:= .pointer (some ⟨g,n*3,none⟩)) rfl (by kernel_rfl) (by kernel_rfl) (by kernel_rfl) (fun _ _ _ h=>h) (Or.inl ⟨by rfl,?_⟩) hS ?_
     ·intro w' hw'
      obtain⟨-,s0,s1,s2⟩:=hw'
      go_simp
     try simp only[Act.put,qj,qz,qv]
     refine wpAnyH_take (i:=6) (oi:={dst:=some 45,op:=_,type:=_,pos:=_,after:=_,guard:=_}) (v:= .pointer (some ⟨g,n*3+1,none⟩)) rfl (by kernel_rfl) (by kernel_rfl) (by kernel_rfl) (fun _ _ _ h=>h) (Or.inl ⟨by rfl,?_⟩) hS ?_
     ·intro w' hw'
      obtain⟨-,s0,s1,s2⟩:=hw'
      go_simp
     try simp only[Act.put,qj,qz,qv]
     refine wpAnyH_take (i:=7) (oi:={dst:=some 46,op:=_,type:=_,pos:=_,after:=_,guard:=_}) (v:= .int .i64 no) rfl (by kernel_rfl) (by kernel_rfl) (by kernel_rfl) (fun _ _ _ h=>h) (Or.inl ⟨by rfl,?_⟩) hS ?_
     ·intro w' hw'
      obtain⟨-,s0,s1,s2⟩:=hw'
      go_simp
     try simp only[Act.put,qj,qz,qv]
     refine wpAnyH_take (i:=8) (oi:={dst:=some 47,op:=_,type:=_,pos:=_,after:=_,guard:=_}) (v:= .pointer (some ⟨g,n*3,none⟩)) rfl (by kernel_rfl) (by kernel_rfl) (by kernel_rfl) (fun _ _ _ h=>h) (Or.inl ⟨by rfl,?_⟩) hS ?_
     ·intro w' hw'
      obtain⟨-,s0,s1,s2⟩:=hw'
      go_simp
     try simp only[Act.put,qj,qz,qv]
     refine wpAnyH_take (i:=9) (oi:={dst:=some 48,op:=_,type:=_,pos:=_,after:=_,guard:=_}) (v:= .pointer (some ⟨g,n*3,none⟩)) rfl (by kernel_rfl) (by kernel_rfl) (by kernel_rfl) (fun _ _ _ h=>h) (Or.inl ⟨by rfl,?_⟩) hS ?_
     ·intro w' hw'
      obtain⟨-,s0,s1,s2⟩:=hw'
      go_simp
     try simp only[Act.put,qj,qz,qv]
     refine wpAnyH_take (i:=10) (oi:={dst:=some 49,op:=_,type:=_,pos:=_,after:=_,guard:=_}) (v:= .pointer (some ⟨g,n*3+2,none⟩)) rfl (by kernel_rfl) (by kernel_rfl) (by kernel_rfl) (fun _ _ _ h=>h) (Or.inl ⟨by rfl,?_⟩) hS ?_
     ·intro w' hw'
      obtain⟨-,s0,s1,s2⟩:=hw'
      go_simp
     try simp only[Act.put,qj,qz,qv]
     refine wpAnyH_take (i:=11) (oi:={dst:=some 50,op:=_,type:=_,pos:=_,after:=_,guard:=_}) (v:= .int .i64 (lf:Int)) rfl (by kernel_rfl) (by kernel_rfl) (by kernel_rfl) (fun _ _ _ h=>h) (Or.inl ⟨by rfl,?_⟩) hS ?_
     ·intro w' hw'
      obtain⟨-,s0,s1,s2⟩:=hw'
      go_simp
     try simp only[Act.put,qj,qz,qv]
     refine wpAnyH_take (i:=12) (oi:={dst:=some 51,op:=_,type:=_,pos:=_,after:=_,guard:=_}) (v:= .pointer (some ⟨gO,0,none⟩)) rfl (by kernel_rfl) (by kernel_rfl) (by kernel_rfl) (fun _ _ _ h=>h) (Or.inl ⟨by rfl,?_⟩) hS ?_
     ·intro w' hw'
      obtain⟨-,s0,s1,s2⟩:=hw'
      go_simp
     try simp only[Act.put,qj,qz,qv]
     refine wpAnyH_take (i:=13) (oi:={dst:=some 52,op:=_,type:=_,pos:=_,after:=_,guard:=_}) (v:= .int .i64 P) rfl (by kernel_rfl) (by kernel_rfl) (by kernel_rfl) (fun _ _ _ h=>h) (Or.inl ⟨by rfl,?_⟩) hS ?_
     ·intro w' hw'
      obtain⟨-,s0,s1,s2⟩:=hw'
      go_simp
     try simp only[Act.put,qj,qz,qv]
     refine wpAnyH_take (i:=14) (oi:={dst:=some 53,op:=_,type:=_,pos:=_,after:=_,guard:=_}) (v:= .agg (packetC b.grp no (lf:Int) P none 0 0).toArray) rfl (by kernel_rfl) (by kernel_rfl) (by kernel_rfl) (fun _ _ _ h=>h) (Or.inl ⟨by rfl,fun w' _=>run_bld (parts:=[(0,.tmp 42),(1,.tmp 46),(2,.tmp 50),(3,.tmp 52)]) rfl rfl hbp w'⟩) hS ?_
     try simp only[Act.put,qj,qz,qv]
     refine wpAnyH_ready (rs:=[15]) (by kernel_rfl) (by simp) (AllReadyH.cons (o:={dst:=some 9,op:=_,type:=_,pos:=_,after:=_,guard:=_}) rfl (fun K' hK=>?_) AllReadyH.nil)
     go_simp
     have hb7:Below wc.heap.size wc (wc.alloc (.cells pkZ.toArray 35)).drew:=((Below.refl _ wc).alloc (Nat.le_refl _) _).drew
     have HX7:=qq (HX6.out.below hb7)
     have HO7:=qq (HO6.out.below hb7 hgl6)
     have HZ7:=qq (show Blk (wc.alloc (.cells pkZ.toArray 35)).drew wc.heap.size 35 pkZ from(Blk.new wc 35 pkZ).drew)
     have HB7:=qq hb7
     clear hb7
     refine hK.out _ _ (HS9.out _ HX7.out HO7.out) (fun hS=>?_)
     clear hK K'
     try simp only[Act.put,qj,qz,qv]
     refine wpAnyH_ready (rs:=[16]) (by kernel_rfl) (by simp) (AllReadyH.cons (o:={dst:=none,op:=_,type:=_,pos:=_,after:=_,guard:=_}) rfl (fun K' hK=>?_) AllReadyH.nil)
     rw[if_pos (by rfl)]
     refine wp_store_piece 35 (.tmp 9) (.tmp 53) rfl wc.heap.size 0 rfl (packetC b.grp no (lf:Int) P none 0 0) rfl 35 _ [] pkZ [] HZ7.out (by simp) rfl (by rw[pkC_len HGl.out];rfl) (by rw[pkC_len HGl.out];exact sizePk) (pkC_one _ _ _ _ _ _ _) ?_
     intro w8 hx8 hg8
     have HP8:=qq (show Blk w8 wc.heap.size 35 (packetC b.grp no (lf:Int) P none 0 0)from hx8.cast (by simp))
     have HX8:=qq (HX7.out.turn HZ7.out hg8 HX6.out.frm.size (by decide) (by decide) (by decide) (by decide) (by decide))
     have HO8:=qq (HO7.out.grown hg8 (fun e=>by injection e with e;omega))
     have HB8:=qq (HB7.out.grown hg8 HB7.out.size (fun k e=>by cases e;exact Nat.le_refl _))
     clear hx8 hg8 HX7 HO7 HZ7 HB7
     refine hK.out _ _ (HS9.out _ HX8.out HO8.out) (fun hS=>?_)
     clear hK K'
     try simp only[Act.put,qj,qz,qv]
     refine wpAnyH_done (by kernel_rfl) ?_ _
     refine NoPanic.normal ?_
     clear hS hi33 hbp HS9
     have hz8:wc.heap.size<w8.heap.size:=HP8.out.lt
     obtain⟨kv,hkv⟩:∃kv,kv=O.key.map b8:=⟨_,rfl⟩
     obtain⟨pc,hpc⟩:∃pc,pc=packetC b.grp no (lf:Int) P none 0 0:=⟨_,rfl⟩
     have HS10:=qq (show∀W,Below w8.heap.size w8 W→W.rangeAt gO 1 kv∧W.rangeAt wc.heap.size 0 pc∧W.cell? ⟨gO,33,none⟩=some (nonceS bk)from fun W hb=>by
      have h5:=HO8.out.below hb HO8.out.lt
      have h6:=h5.range 1 32
      rw[show((onceC P O.key (nonceS bk)).drop 1).take 32=kv by unfold onceC;rw[hkv,List.drop_succ_cons,List.drop_zero,List.take_left' (by rw[List.length_map,HKl.out])]]at h6
      refine⟨h6,by rw[hpc];exact(HP8.out.below hb HP8.out.lt).whole,h5.cell 33 ?_⟩
      unfold onceC
      rw[List.getElem?_cons_succ,List.getElem?_append_right (by rw[List.length_map,HKl.out];omega),List.length_map,HKl.out]
      rfl)
     have hu2:=Tryd.underlying54
     have hu3:=Tryd.underlying35
     have hi2:(Tryd.prog.info? 54).map (·.size)=some kv.length:=by rw[hkv,List.length_map,HKl.out];exact size32k
     have hi3:(Tryd.prog.info? 35).map (·.size)=some pc.length:=by rw[hpc,pkC_len HGl.out];exact sizePk
     have HCt:=qq (show∀W,Calls Tryd.prog 16 #[.agg pc.toArray] W fun e w'=>∃v,e= .returned v∧Own b8 w' W.heap.size 5 v (ctxV b.grp no (lf:Int) P)∧Below W.heap.size W w' from fun W=>by rw[hpc];exact context_any b.grp HGl.out no (lf:Int) P none 0 0 W)
     have hsb:sealBad 12 41 m=0:=by unfold sealBad;rw[if_neg (by omega)]
     have HSl:=qq (show∀(W:World) (A1:Option Addr) (c1:Nat),Below w8.heap.size w8 W→Rd b8 W W.heap.size A1 (ctxV b.grp no (lf:Int) P)→Calls Tryd.prog 15 #[.agg kv.toArray,nonceS bk,.slice A1 41 c1,.slice T m d] W fun e w'=>∃v,e= .returned (.tuple #[v,.nilIface])∧Own b8 w' W.heap.size 5 v (sealV O.key O.nonce (ctxV b.grp no (lf:Int) P) text)∧Below W.heap.size W w' from fun W A1 c1 hb hA=>by
      have hx:=HX8.out.below hb
      have hrn:Rd b8 W (bk+1) (some ⟨bk,32,none⟩) O.nonce:=by
       have h5:=hx.arr.rd 32
       rwa[show(O.key++O.nonce).drop 32=O.nonce by rw[←HKl.out,List.drop_left]]at h5
      have h5:=seal_any W O.key HKl.out (some ⟨bk,32,none⟩) A1 T 12 12 41 c1 m d (bk+1) W.heap.size w2.heap.size O.nonce (ctxV b.grp no (lf:Int) P) text hrn (by have:=hx.arr.lt;omega) HNl.out (Nat.le_refl _) hA (Nat.le_refl _) (ctxV_len HGl.out _ _ _) (HRc.out.below ((HB8.out.trans (hb.mono (by omega))).mono HX6.out.frm.size)) (by have:=HX6.out.frm.size;have:=hb.size;omega) HM.out
      rw[hsb,errV_zero,arrV_mk,←hkv]at h5
      exact h5)
     have HPc:=qq hpc
     have hS:w8.drew.rangeAt gO 1 kv∧w8.drew.rangeAt wc.heap.size 0 pc∧w8.drew.cell? ⟨gO,33,none⟩=some (nonceS bk):=HS10.out _ (Below.refl _ w8).drew
     clear hkv hpc hsb
     go_upto_region 10 with fail
     refine wp_region_Y (by kernel_rfl) (fun w'=>w'.rangeAt gO 1 kv∧w'.rangeAt wc.heap.size 0 pc∧w'.cell? ⟨gO,33,none⟩=some (nonceS bk)) 12 ?_
     refine wpAnyY_pure (i:=0) (oi:={dst:=some 55,op:=_,type:=_,pos:=_,after:=_,guard:=_}) (v:= .pointer (some ⟨gO,1,none⟩)) rfl (by kernel_rfl) (by kernel_rfl) (by kernel_rfl) (by kernel_rfl) (fun _ _ _ h=>h) (Or.inl ⟨by rfl,?_⟩) hS ?_
     ·intro w' hw'
      go_simp
     try simp only[Act.put,qj,qz,qv]
     refine wpAnyY_take (i:=1) (oi:={dst:=some 56,op:=_,type:=_,pos:=_,after:=_,guard:=_}) (v:= .agg kv.toArray) rfl (by kernel_rfl) (by kernel_rfl) (by kernel_rfl) (by kernel_rfl) (by kernel_rfl) (fun _ _ _ h=>h) (yieldsIf_load_mid (by rfl) 54 (.tmp 55) rfl gO 1 rfl kv _ (fun _ h=>h.1) hu2 rfl hi2) hS ?_
     try simp only[Act.put,qj,qz,qv]
     refine wpAnyY_pure (i:=2) (oi:={dst:=some 57,op:=_,type:=_,pos:=_,after:=_,guard:=_}) (v:= .pointer (some ⟨gO,33,none⟩)) rfl (by kernel_rfl) (by kernel_rfl) (by kernel_rfl) (by kernel_rfl) (fun _ _ _ h=>h) (Or.inl ⟨by rfl,?_⟩) hS ?_
     ·intro w' hw'
      go_simp
     try simp only[Act.put,qj,qz,qv]
     refine wpAnyY_take (i:=3) (oi:={dst:=some 58,op:=_,type:=_,pos:=_,after:=_,guard:=_}) (v:=nonceS bk) rfl (by kernel_rfl) (by kernel_rfl) (by kernel_rfl) (by kernel_rfl) (by kernel_rfl) (fun _ _ _ h=>h) (Or.inl ⟨by rfl,?_⟩) hS ?_
     ·intro w' hw'
      obtain⟨-,-,s1⟩:=hw'
      unfold nonceS at s1 ⊢
      go_simp
     try simp only[Act.put,qj,qz,qv]
     refine wpAnyY_take (i:=4) (oi:={dst:=some 59,op:=_,type:=_,pos:=_,after:=_,guard:=_}) (v:= .agg pc.toArray) rfl (by kernel_rfl) (by kernel_rfl) (by kernel_rfl) (by kernel_rfl) (by kernel_rfl) (fun _ _ _ h=>h) (yieldsIf_load_mid (by rfl) 35 (.tmp 9) rfl wc.heap.size 0 rfl pc _ (fun _ h=>h.2.1) hu3 rfl hi3) hS ?_
     try simp only[Act.put,qj,qz,qv]
     refine wpAnyY_pure (i:=6) (oi:={dst:=some 61,op:=_,type:=_,pos:=_,after:=_,guard:=_}) (v:= .slice T m d) rfl (by kernel_rfl) (by kernel_rfl) (by kernel_rfl) (by kernel_rfl) (fun _ _ _ h=>h) (Or.inl ⟨by rfl,?_⟩) hS ?_
     ·intro w' hw'
      go_simp
     try simp only[Act.put,qj,qz,qv]
     refine wpAnyY_one (i:=5) (o:={dst:=some 60,op:=_,type:=_,pos:=_,after:=_,guard:=_}) (by kernel_rfl) rfl (fun K' hK=>?_)
     go_simp
     go_at_call 16
     refine(HCt.out _).mono ?_
     rintro e wa ⟨va,rfl,hoa,hba⟩
     obtain⟨Aa,ca,rfl,hra,-,-,-⟩:=hoa.shape' (ctxV_len HGl.out _ _ _)
     have HBa:=qq (show Below w8.heap.size w8 wa from(Below.refl w8.heap.size w8).drew.trans hba)
     have HRa:=qq hra
     clear hoa hba hra
     refine hK _ _ (fun _=>HS10.out _ HBa.out) ?_
     clear hK K'
     try simp only[Act.put,qj,qz,qv]
     have hS:=HS10.out _ HBa.out
     refine wpAnyY_one (i:=7) (o:={dst:=some 62,op:=_,type:=_,pos:=_,after:=_,guard:=_}) (by kernel_rfl) rfl (fun K' hK=>?_)
     go_simp
     go_at_call 15
     refine(HSl.out _ _ _ HBa.out HRa.out).mono ?_
     rintro e wb ⟨vb,rfl,hob,hbb⟩
     obtain⟨sl,hsl⟩:∃sl,(sealV O.key O.nonce (ctxV b.grp no (lf:Int) P) text).length=sl:=⟨_,rfl⟩
     obtain⟨Ab,cb,rfl,-,-,-,-⟩:=hob.shape' hsl
     clear hsl
     have HBb:=qq (HBa.out.trans (hbb.mono HBa.out.size))
     have HOb:=qq hob
     have hza:w8.heap.size≤wa.heap.size:=HBa.out.size
     clear hob hbb
     refine hK _ _ (fun _=>HS10.out _ HBb.out) ?_
     clear hK K'
     try simp only[Act.put,qj,qz,qv]
     have hS:=HS10.out _ HBb.out
     refine wpAnyY_pure (i:=8) (oi:={dst:=some 54,op:=_,type:=_,pos:=_,after:=_,guard:=_}) (v:= .tuple #[.slice Ab sl cb,.nilIface]) rfl (by kernel_rfl) (by kernel_rfl) (by kernel_rfl) (by kernel_rfl) (fun _ _ _ h=>h) (Or.inl ⟨by rfl,?_⟩) hS ?_
     ·intro w' hw'
      go_simp
     try simp only[Act.put,qj,qz,qv]
     refine wpAnyY_pure (i:=9) (oi:={dst:=some 63,op:=_,type:=_,pos:=_,after:=_,guard:=_}) (v:= .slice Ab sl cb) rfl (by kernel_rfl) (by kernel_rfl) (by kernel_rfl) (by kernel_rfl) (fun _ _ _ h=>h) (Or.inl ⟨by rfl,?_⟩) hS ?_
     ·intro w' hw'
      go_simp
     try simp only[Act.put,qj,qz,qv]
     refine wpAnyY_pure (i:=10) (oi:={dst:=some 64,op:=_,type:=_,pos:=_,after:=_,guard:=_}) (v:= .nilIface) rfl (by kernel_rfl) (by kernel_rfl) (by kernel_rfl) (by kernel_rfl) (fun _ _ _ h=>h) (Or.inl ⟨by rfl,?_⟩) hS ?_
     ·intro w' hw'
      go_simp
     try simp only[Act.put,qj,qz,qv]
     refine wpAnyY_pure (i:=11) (oi:={dst:=some 65,op:=_,type:=_,pos:=_,after:=_,guard:=_}) (v:= .pointer (some ⟨wc.heap.size,35,none⟩)) rfl (by kernel_rfl) (by kernel_rfl) (by kernel_rfl) (by kernel_rfl) (fun _ _ _ h=>h) (Or.inl ⟨by rfl,?_⟩) hS ?_
     ·intro w' hw'
      go_simp
     try simp only[Act.put,qj,qz,qv]
     have HPb:=qq (HP8.out.below HBb.out HP8.out.lt)
     have c35:=HPb.out.cell 35 (u:= .slice none 0 0) (by unfold packetC;rw[List.getElem?_append_right (by rw[List.length_map,HGl.out];omega),List.length_map,HGl.out];rfl)
     have f35:=HPb.out.frozen 35
     refine wpAnyY_one (i:=12) (o:={dst:=none,op:=_,type:=_,pos:=_,after:=_,guard:=_}) (by kernel_rfl) rfl (fun K' hK=>?_)
     go_simp
     refine hK _ _ (fun h=>absurd rfl h) ?_
     clear hS
     clear hK K'
     try simp only[Act.put,qj,qz,qv]
     refine wpAnyY_late (i:=13) (o:={dst:=some 8,op:=_,type:=_,pos:=_,after:=_,guard:=_}) (by kernel_rfl) (by kernel_rfl) rfl (fun K' hK=>?_)
     go_simp
     refine hK _ _ (wpAnyY_done (by kernel_rfl) ?_ _)
     clear hK K'
     obtain⟨wd,hwd⟩:∃wd,wd=wb.setCell ⟨wc.heap.size,35,none⟩ (.slice Ab sl cb):=⟨_,rfl⟩
     have hgs:=grownBy_set wb wc.heap.size 35 (.slice Ab sl cb)
     have HPd:=qq (show Blk wd wc.heap.size 35 (packetC b.grp no (lf:Int) P Ab sl cb) by rw[hwd];exact(HPb.out.set_ 35 _).cast (pkC_set35 HGl.out _ _ _ _ _ _ _ _ _))
     rw[←hwd]at hgs
     have HOd:=qq (show Own b8 wd w.heap.size 5 (.slice Ab sl cb) (sealV O.key O.nonce (ctxV b.grp no (lf:Int) P) text)from(HOb.out.kept hgs (.inr (HPb.out.not_row (by decide) HOb.out).symm)).less (by have:=HX6.out.frm.size;omega))
     have HXd:=qq ((HX8.out.below HBb.out).turn HPb.out hgs HX6.out.frm.size (by decide) (by decide) (by decide) (by decide) (by decide))
     have HZd:=qq (show Blk wd w.heap.size 35 pkZ from by
      have hef:w.heap.size∉b.efoot:=fun hm=>by have:=(HH.out.foot_lt _ (BX.efoot_sub gB b _ hm)).2;omega
      have z2:=HZ1.out.below HB2.out (by omega)
      have zc:Blk wc w.heap.size 35 pkZ:=(HX6.out.frm.block _ (by omega) hef).trans z2
      have hwc:w.heap.size<wc.heap.size:=by have:=HX6.out.frm.size;omega
      exact((zc.below HB8.out hwc).below HBb.out (by omega)).grown hgs (fun e=>by injection e with e;omega))
     rw[←hwd]
     clear hwd hgs c35 f35 hu hu2 hu3 hi2 hi3
     go_wp2_with (first
      |(refine wpList_load_mid rfl 35 (.tmp 9) rfl wc.heap.size 0 rfl (packetC b.grp no (lf:Int) P Ab sl cb) _ HPd.out.whole Tryd.underlying35 rfl (by rw[pkC_len HGl.out];exact sizePk) ?_)
      |(refine wpList_store_piece rfl 35 (.tmp 4) (.tmp 66) rfl w.heap.size 0 rfl (packetC b.grp no (lf:Int) P Ab sl cb) rfl 35 _ [] pkZ [] HZd.out (by simp) rfl (by rw[pkC_len HGl.out];rfl) (by rw[pkC_len HGl.out];exact sizePk) (pkC_one _ _ _ _ _ _ _) ?_;intro w9 hx9 hg9))
     have HX9:=qq (show Blk w9 w.heap.size 35 (packetC b.grp no (lf:Int) P Ab sl cb)from hx9.cast (by simp))
     refine bodyPost_ret (v:= .tuple #[.agg (packetC b.grp no (lf:Int) P Ab sl cb).toArray,.nilIface]) (results_blk_tmp (g:=w.heap.size) rfl _ _ _ _ _ _ rfl rfl HX9.out Tryd.underlying35 rfl (by rw[pkC_len HGl.out];exact sizePk)) rfl ?_
     have hbx:=HXd.out.box.of_same (w':=w9) (fun k hk=>hg9.block k (HXd.out.box.foot_lt k hk).2 (fun e=>by
      injection e with e
      exact HXd.out.box.typed_out HZd.out (by decide) (by decide) (by decide) (by decide) (by decide) (by rw[←e];exact hk)))
     have hf1:=HXd.out.frm
     have hb12:=HK1.out.trans (HB2.out.mono (by omega))
     refine⟨Ab,sl,cb,rfl,HOd.out.kept hg9 (.inr (HZd.out.not_row (by decide) HOd.out).symm),b',HXd.out.m,hbx,⟨hg9.os.trans (hf1.os.trans hb12.os),hg9.tape.trans (hf1.tape.trans hb12.tape),hg9.output.trans (hf1.output.trans hb12.output),Nat.le_trans hb12.size (Nat.le_trans hf1.size hg9.size),fun k hk hn=>?_⟩,fun k hk=>?_,fun k hk hm=>?_⟩
     ·have h5:=hb12.block k hk
      have h6:=hf1.block k (Nat.lt_of_lt_of_le hk hb12.size) (fun hm=>hn (BX.efoot_sub gB b k hm))
      have h7:=hg9.block k (by have:=hb12.size;have:=hf1.size;omega) (fun e=>by injection e with e;omega)
      rw[h7,h6,h5]
     ·rcases HXd.out.foot k hk with h5|h5
      ·exact .inl h5
      ·exact .inr (by omega)
     ·have h5:=(HX6.out.box.foot_lt k hm).2
      have h6:=(HOb.out.lt k hk).1
      omega
   ·have hP:sealP b.m text=zeroP:=by unfold sealP;rw[hll];dsimp only;rw[hm,hE];exact if_neg hT
    have hM:sealM b.m m=b.m:=by unfold sealM;rw[hll];dsimp only;rw[hE];exact if_neg hT
    rw[hE,hP,hM]
    have HNe:=qq (errV_pos hT)
    obtain⟨E,hEE⟩:∃E,E=takeE l l.place:=⟨_,rfl⟩
    rw[←hEE]at HNe ⊢
    have HNx:=qq (show∀W,BoxAt W base gB b→Calls Tryd.prog 14 #[.pointer (some ⟨gC,0,none⟩),.int .i64 (lf:Int)] W fun e w'=>e= .returned (.tuple #[.agg zeroOnce.toArray,.iface 41 (.int .i64 (E:Int))])∧Below W.heap.size W w' from fun W hW=>by
     have h5:=next_bad W _ _ _ (hW.ch _ (List.getElem_mem hi)) b.es[n].leaf hb.1 (by omega) (by rw[←hl];exact hT)
     rw[←hl,←hEE,HNe.out,←hgC,←hlf]at h5
     exact h5)
    have HAt:=qq (show∀W,BoxAt W base gB b→W.cell? ⟨g,n*3,none⟩=some (.pointer (some ⟨gC,0,none⟩))∧W.cell? ⟨g,n*3+2,none⟩=some (.int .i64 (lf:Int))from fun W hW=>by
     obtain⟨a0,-,a2⟩:=hW.at_row hv hi
     rw[hgC,hlf];exact⟨a0,a2⟩)
    clear h h0 hn hv hbg hgl hcc hi hb hl hll hlok hE hP hM hr hm hbig hT hlf hgC hEE hgnf
    go_enter Tryd.func7,Tryd.ntmps7
    go_upto_region 1 with fail
    have hw1:=HW1.out
    rw[pkZ_lit]at hw1
    rw[←hw1]
    clear hw1
    go_wp2_with fail
    refine HL.out.mono ?_
    rintro e w2 ⟨rfl,q,hq⟩
    have HB2:=qq (drewN_below hq)
    have hz2:=HB2.out.size
    have HX2:=qq (HB1.out.below HB2.out)
    clear hq
    go_upto_region 6 with fail
    have hS6:=HAt.out _ HX2.out
    go_cut [7,8]from 23 to 34 (fun p e wx=>e= .iface 41 (.int .i64 (E:Int))∧Below w2.heap.size w2 wx)
    case first=>
     refine wp_region_noPanic ?_
     refine wp_region_held_drew (S:=fun w'=>w'.cell? ⟨g,n*3,none⟩=some (.pointer (some ⟨gC,0,none⟩))∧w'.cell? ⟨g,n*3+2,none⟩=some (.int .i64 (lf:Int))) (by kernel_rfl) hS6 (fun hS=>?_)
     refine wpAnyH_take (i:=0) (oi:={dst:=some 24,op:=_,type:=_,pos:=_,after:=_,guard:=_}) (v:= .pointer (some ⟨g,n*3,none⟩)) rfl (by kernel_rfl) (by kernel_rfl) (by kernel_rfl) (fun _ _ _ h=>h) (Or.inl ⟨by rfl,?_⟩) hS ?_
     ·intro w' hw'
      obtain⟨s0,s1⟩:=hw'
      go_simp
     try simp only[Act.put,qj,qz,qv]
     refine wpAnyH_take (i:=1) (oi:={dst:=some 25,op:=_,type:=_,pos:=_,after:=_,guard:=_}) (v:= .pointer (some ⟨g,n*3,none⟩)) rfl (by kernel_rfl) (by kernel_rfl) (by kernel_rfl) (fun _ _ _ h=>h) (Or.inl ⟨by rfl,?_⟩) hS ?_
     ·intro w' hw'
      obtain⟨s0,s1⟩:=hw'
      go_simp
     try simp only[Act.put,qj,qz,qv]
     refine wpAnyH_take (i:=2) (oi:={dst:=some 26,op:=_,type:=_,pos:=_,after:=_,guard:=_}) (v:= .pointer (some ⟨g,n*3,none⟩)) rfl (by kernel_rfl) (by kernel_rfl) (by kernel_rfl) (fun _ _ _ h=>h) (Or.inl ⟨by rfl,?_⟩) hS ?_
     ·intro w' hw'
      obtain⟨s0,s1⟩:=hw'
      go_simp
     try simp only[Act.put,qj,qz,qv]
     refine wpAnyH_take (i:=3) (oi:={dst:=some 27,op:=_,type:=_,pos:=_,after:=_,guard:=_}) (v:= .pointer (some ⟨gC,0,none⟩)) rfl (by kernel_rfl) (by kernel_rfl) (by kernel_rfl) (fun _ _ _ h=>h) (Or.inl ⟨by rfl,?_⟩) hS ?_
     ·intro w' hw'
      obtain⟨s0,s1⟩:=hw'
      go_simp
     try simp only[Act.put,qj,qz,qv]
     refine wpAnyH_take (i:=4) (oi:={dst:=some 28,op:=_,type:=_,pos:=_,after:=_,guard:=_}) (v:= .pointer (some ⟨g,n*3,none⟩)) rfl (by kernel_rfl) (by kernel_rfl) (by kernel_rfl) (fun _ _ _ h=>h) (Or.inl ⟨by rfl,?_⟩) hS ?_
     ·intro w' hw'
      obtain⟨s0,s1⟩:=hw'
      go_simp
     try simp only[Act.put,qj,qz,qv]
     refine wpAnyH_take (i:=5) (oi:={dst:=some 29,op:=_,type:=_,pos:=_,after:=_,guard:=_}) (v:= .pointer (some ⟨g,n*3,none⟩)) rfl (by kernel_rfl) (by kernel_rfl) (by kernel_rfl) (fun _ _ _ h=>h) (Or.inl ⟨by rfl,?_⟩) hS ?_
     ·intro w' hw'
      obtain⟨s0,s1⟩:=hw'
      go_simp
     try simp only[Act.put,qj,qz,qv]
     refine wpAnyH_take (i:=6) (oi:={dst:=some 30,op:=_,type:=_,pos:=_,after:=_,guard:=_}) (v:= .pointer (some ⟨g,n*3+2,none⟩)) rfl (by kernel_rfl) (by kernel_rfl) (by kernel_rfl) (fun _ _ _ h=>h) (Or.inl ⟨by rfl,?_⟩) hS ?_
     ·intro w' hw'
      obtain⟨s0,s1⟩:=hw'
      go_simp
     try simp only[Act.put,qj,qz,qv]
     refine wpAnyH_take (i:=7) (oi:={dst:=some 31,op:=_,type:=_,pos:=_,after:=_,guard:=_}) (v:= .int .i64 (lf:Int)) rfl (by kernel_rfl) (by kernel_rfl) (by kernel_rfl) (fun _ _ _ h=>h) (Or.inl ⟨by rfl,?_⟩) hS ?_
     ·intro w' hw'
      obtain⟨s0,s1⟩:=hw'
      go_simp
     try simp only[Act.put,qj,qz,qv]
     refine wpAnyH_ready (rs:=[8,12]) (by kernel_rfl) (by simp) (AllReadyH.cons (o:={dst:=some 32,op:=_,type:=_,pos:=_,after:=_,guard:=_}) rfl (fun K' hK=>?_) (AllReadyH.cons (o:={dst:=some 7,op:=_,type:=_,pos:=_,after:=_,guard:=_}) rfl (fun K' hK=>?_) AllReadyH.nil))
     ·go_simp
      go_at_call 14
      refine(HNx.out _ HX2.out.drew).mono ?_
      rintro e w4 ⟨rfl,hb4⟩
      have HB4:=qq (show Below w2.heap.size w2 w4 from(Below.refl w2.heap.size w2).drew.trans hb4)
      have HX4:=qq (HX2.out.below HB4.out)
      clear hb4
      refine hK.out _ _ (HAt.out _ HX4.out) (fun hS=>?_)
      clear hK K'
      try simp only[Act.put,qj,qz,qv]
      refine wpAnyH_take (i:=9) (oi:={dst:=some 23,op:=_,type:=_,pos:=_,after:=_,guard:=_}) (v:= .tuple #[.agg zeroOnce.toArray,.iface 41 (.int .i64 (E:Int))]) rfl (by kernel_rfl) (by kernel_rfl) (by kernel_rfl) (fun _ _ _ h=>h) (Or.inl ⟨by rfl,?_⟩) hS ?_
      ·intro w' hw'
       obtain⟨s0,s1⟩:=hw'
       go_simp
      try simp only[Act.put,qj,qz,qv]
      refine wpAnyH_take (i:=10) (oi:={dst:=some 33,op:=_,type:=_,pos:=_,after:=_,guard:=_}) (v:= .agg zeroOnce.toArray) rfl (by kernel_rfl) (by kernel_rfl) (by kernel_rfl) (fun _ _ _ h=>h) (Or.inl ⟨by rfl,?_⟩) hS ?_
      ·intro w' hw'
       obtain⟨s0,s1⟩:=hw'
       go_simp
      try simp only[Act.put,qj,qz,qv]
      refine wpAnyH_take (i:=11) (oi:={dst:=some 34,op:=_,type:=_,pos:=_,after:=_,guard:=_}) (v:= .iface 41 (.int .i64 (E:Int))) rfl (by kernel_rfl) (by kernel_rfl) (by kernel_rfl) (fun _ _ _ h=>h) (Or.inl ⟨by rfl,?_⟩) hS ?_
      ·intro w' hw'
       obtain⟨s0,s1⟩:=hw'
       go_simp
      try simp only[Act.put,qj,qz,qv]
      refine wpAnyH_ready (rs:=[12]) (by kernel_rfl) (by simp) (AllReadyH.cons (o:={dst:=some 7,op:=_,type:=_,pos:=_,after:=_,guard:=_}) rfl (fun K' hK=>?_) AllReadyH.nil)
      go_simp
      refine hK.out _ _ (HAt.out _ (HX4.out.alloc _)) (fun hS=>?_)
      clear hK K'
      try simp only[Act.put,qj,qz,qv]
      have HB5:=qq (HB4.out.alloc HB4.out.size (.cells zeroOnce.toArray 56))
      refine wpAnyH_ready (rs:=[13]) (by kernel_rfl) (by simp) (AllReadyH.cons (o:={dst:=none,op:=_,type:=_,pos:=_,after:=_,guard:=_}) rfl (fun K' hK=>?_) AllReadyH.nil)
      rw[if_pos (by rfl)]
      refine wp_store_piece 56 (.tmp 7) (.tmp 33) rfl (w4.heap.size) 0 rfl zeroOnce rfl 56 _ [] zeroOnce [] (Blk.new w4 56 zeroOnce) (by simp) rfl rfl sizeOnce (onceC_one _ _ _ _ _) ?_
      intro w5 hx5 hg5
      have hb6:=HB5.out.grown hg5 HB5.out.size (fun k e=>by cases e;exact HB4.out.size)
      clear hx5 hg5
      refine hK.out _ _ (HAt.out _ (HX2.out.below hb6)) (fun hS=>?_)
      clear hK K'
      try simp only[Act.put,qj,qz,qv]
      refine wpAnyH_take (i:=14) (oi:={dst:=some 8,op:=_,type:=_,pos:=_,after:=_,guard:=_}) (v:= .iface 41 (.int .i64 (E:Int))) rfl (by kernel_rfl) (by kernel_rfl) (by kernel_rfl) (fun _ _ _ h=>h) (Or.inl ⟨by rfl,?_⟩) hS ?_
      ·intro w' hw'
       obtain⟨s0,s1⟩:=hw'
       go_simp
      try simp only[Act.put,qj,qz,qv]
      refine wpAnyH_done (by kernel_rfl) ?_ _
      refine NoPanic.normal ?_
      go_wp2_with fail
      go_meet
      case rel=>exact⟨rfl,hb6⟩
     ·go_simp
      refine hK.out _ _ (HAt.out _ (HX2.out.alloc _).drew) (fun hS=>?_)
      clear hK K'
      try simp only[Act.put,qj,qz,qv]
      refine wpAnyH_ready (rs:=[8]) (by kernel_rfl) (by simp) (AllReadyH.cons (o:={dst:=some 32,op:=_,type:=_,pos:=_,after:=_,guard:=_}) rfl (fun K' hK=>?_) AllReadyH.nil)
      go_simp
      go_at_call 14
      refine(HNx.out _ (HX2.out.alloc (.cells zeroOnce.toArray 56)).drew).mono ?_
      rintro e w4 ⟨rfl,hb4⟩
      have hsz:(w2.alloc (.cells zeroOnce.toArray 56)).heap.size=w2.heap.size+1:=World.size_alloc _ _
      have HB4:=qq (show Below w2.heap.size w2 w4 from((Below.refl w2.heap.size w2).alloc (Nat.le_refl _) (.cells zeroOnce.toArray 56)).drew.trans (hb4.mono (by show w2.heap.size≤(w2.alloc (.cells zeroOnce.toArray 56)).heap.size;omega)))
      have HZ4:=qq (show Blk w4 w2.heap.size 56 zeroOnce from(Blk.new w2 56 zeroOnce).drew.below hb4 (by show w2.heap.size<(w2.alloc (.cells zeroOnce.toArray 56)).heap.size;omega))
      clear hb4 hsz
      refine hK.out _ _ (HAt.out _ (HX2.out.below HB4.out)) (fun hS=>?_)
      clear hK K'
      try simp only[Act.put,qj,qz,qv]
      refine wpAnyH_take (i:=9) (oi:={dst:=some 23,op:=_,type:=_,pos:=_,after:=_,guard:=_}) (v:= .tuple #[.agg zeroOnce.toArray,.iface 41 (.int .i64 (E:Int))]) rfl (by kernel_rfl) (by kernel_rfl) (by kernel_rfl) (fun _ _ _ h=>h) (Or.inl ⟨by rfl,?_⟩) hS ?_
      ·intro w' hw'
       obtain⟨s0,s1⟩:=hw'
       go_simp
      try simp only[Act.put,qj,qz,qv]
      refine wpAnyH_take (i:=10) (oi:={dst:=some 33,op:=_,type:=_,pos:=_,after:=_,guard:=_}) (v:= .agg zeroOnce.toArray) rfl (by kernel_rfl) (by kernel_rfl) (by kernel_rfl) (fun _ _ _ h=>h) (Or.inl ⟨by rfl,?_⟩) hS ?_
      ·intro w' hw'
       obtain⟨s0,s1⟩:=hw'
       go_simp
      try simp only[Act.put,qj,qz,qv]
      refine wpAnyH_take (i:=11) (oi:={dst:=some 34,op:=_,type:=_,pos:=_,after:=_,guard:=_}) (v:= .iface 41 (.int .i64 (E:Int))) rfl (by kernel_rfl) (by kernel_rfl) (by kernel_rfl) (fun _ _ _ h=>h) (Or.inl ⟨by rfl,?_⟩) hS ?_
      ·intro w' hw'
       obtain⟨s0,s1⟩:=hw'
       go_simp
      try simp only[Act.put,qj,qz,qv]
      refine wpAnyH_ready (rs:=[13]) (by kernel_rfl) (by simp) (AllReadyH.cons (o:={dst:=none,op:=_,type:=_,pos:=_,after:=_,guard:=_}) rfl (fun K' hK=>?_) AllReadyH.nil)
      rw[if_pos (by rfl)]
      refine wp_store_piece 56 (.tmp 7) (.tmp 33) rfl (w2.heap.size) 0 rfl zeroOnce rfl 56 _ [] zeroOnce [] HZ4.out (by simp) rfl rfl sizeOnce (onceC_one _ _ _ _ _) ?_
      intro w5 hx5 hg5
      have hb6:=HB4.out.grown hg5 HB4.out.size (fun k e=>by cases e;exact Nat.le_refl _)
      clear hx5 hg5
      refine hK.out _ _ (HAt.out _ (HX2.out.below hb6)) (fun hS=>?_)
      clear hK K'
      try simp only[Act.put,qj,qz,qv]
      refine wpAnyH_take (i:=14) (oi:={dst:=some 8,op:=_,type:=_,pos:=_,after:=_,guard:=_}) (v:= .iface 41 (.int .i64 (E:Int))) rfl (by kernel_rfl) (by kernel_rfl) (by kernel_rfl) (fun _ _ _ h=>h) (Or.inl ⟨by rfl,?_⟩) hS ?_
      ·intro w' hw'
       obtain⟨s0,s1⟩:=hw'
       go_simp
      try simp only[Act.put,qj,qz,qv]
      refine wpAnyH_done (by kernel_rfl) ?_ _
      refine NoPanic.normal ?_
      go_wp2_with fail
      go_meet
      case rel=>exact⟨rfl,hb6⟩
    case rest=>
     obtain⟨rfl,hb6⟩:=hcut
     have HB6:=qq hb6
     clear hb6
     have hz6:w.heap.size<wc.heap.size:=by have:=HB6.out.size;omega
     go_wp2_with (first
      |(refine wpList_bparts rfl 35 [] rfl pkZ.toArray [] rfl built_pkZ ?_)
      |(refine wpList_store_piece rfl 35 (.tmp 4) (.tmp 37) rfl w.heap.size 0 rfl pkZ rfl 35 _ [] pkZ [] ((HZ1.out.below HB2.out (by omega)).below HB6.out (by omega)) (by simp) rfl rfl sizePk (pkC_one _ _ _ _ _ _ _) ?_;intro w9 hx9 hg9))
     have HX9:=qq (show Blk w9 w.heap.size 35 pkZ from hx9.cast (by simp))
     refine bodyPost_ret (v:= .tuple #[.agg pkZ.toArray,errV E]) (results_blk_tmp (g:=w.heap.size) rfl _ _ _ _ _ _ rfl (by exact HNe.out.symm) HX9.out Tryd.underlying35 rfl sizePk) rfl ?_
     have hbz:=((HK1.out.trans (HB2.out.mono (by omega))).trans (HB6.out.mono (by omega)))
     have hbx:=hbz.grown hg9 hbz.size (fun k e=>by cases e;exact Nat.le_refl _)
     exact⟨none,0,0,rfl,Own.nil_ _ _ _ _,b,rfl,HH.out.below hbx,(Frm.refl w _).below hbx (Nat.le_refl _),fun k hk=> .inl hk,fun k hk=>(by cases hk)⟩
end Go.Proofs.YtelgjaiknaalkaaDoor
