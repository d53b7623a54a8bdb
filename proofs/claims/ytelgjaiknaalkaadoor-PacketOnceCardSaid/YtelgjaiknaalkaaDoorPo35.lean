/- Lemmas, joined and made smaller by a program. -/
import Derived.Test.YtelgjaiknaalkaaDoorPo32
import Derived.Test.YtelgjaiknaalkaaDoorPo33
import Derived.Test.YtelgjaiknaalkaaDoorPo34
open Go.Lib renaming hid → qq
open List renaming setIfInBounds_toArray → qj
open List renaming set_cons_zero → qz
open List renaming set_cons_succ → qv
set_option linter.unusedVariables false
set_option linter.unusedSimpArgs false
namespace Go.Proofs.YtelgjaiknaalkaaDoor
open Go.RowKit
set_option maxRecDepth 100000
def leafAt(es:List EM)(i:Nat):Nat:=match es[i]? with
 |none=>0
 |some e=>e.leaf
def openE(b:BM)(p:PM):Nat:=
 if b.es=[]then 10 else if pkBad p.ep p.fr p.nu p.sl.length=true then 3 else if 1040<p.sl.length then 1 else
 match findE b.es p.ep with
 |none=>6
 |some i=>if p.grp≠b.grp then 6 else if p.fr=(leafAt b.es i:Int)then 9 else
  match lineAt b.es i p.fr.toNat with
  |none=>9
  |some l=>if takeE l p.nu≠0 then takeE l p.nu else openBad (takeO l p.nu).key (takeO l p.nu).nonce (ctxV p.grp p.ep p.fr p.nu) p.sl
def pkLine(b:BM)(p:PM):Option (Nat×LineM):=(findE b.es p.ep).bind fun i=>(lineAt b.es i p.fr.toNat).map fun l=>(i,l)
def openT(b:BM)(p:PM):List (BitVec 8):=match pkLine b p with
 |none=> []
 |some (_,l)=>if openE b p=0 then openV (takeO l p.nu).key (takeO l p.nu).nonce (ctxV p.grp p.ep p.fr p.nu) p.sl else[]
def openM(b:BM)(p:PM):BM:=match pkLine b p with
 |none=>b
 |some (i,l)=>if openE b p=0 then⟨b.grp,setLine b.es i p.fr.toNat (takeL l p.nu),b.clr⟩else b
theorem openM_bad{b:BM}{p:PM}(h:openE b p≠0):openM b p=b:=by
 unfold openM
 split
 ·rfl
 ·rw[if_neg h]
theorem openT_bad{b:BM}{p:PM}(h:openE b p≠0):openT b p=[]:=by
 unfold openT
 split
 ·rfl
 ·rw[if_neg h]
theorem bx_line_none{b:BX}{i j:Nat}(hi:i<b.es.length)(hj:¬j<b.es[i].xs.length):lineAt b.m.es i j=none:=by
 unfold lineAt BX.m
 simp only[List.getElem?_map,List.getElem?_eq_getElem hi,Option.map_some,Option.bind_some,EP.m]
 rw[List.getElem?_eq_none (by omega)];rfl
theorem bx_leafAt{b:BX}{i:Nat}(hi:i<b.es.length):leafAt b.m.es i=b.es[i].leaf:=by
 unfold leafAt BX.m
 simp only[List.getElem?_map,List.getElem?_eq_getElem hi,Option.map_some,EP.m]
theorem open_nil(w:World)(v:Value)(grp:List (BitVec 8))(ep fr nu:Int)(A:Option Addr)(n c:Nat):Calls Tryd.prog 8 #[.pointer none,.agg (packetC grp ep fr nu A n c).toArray] w fun e w'=>e= .returned (.tuple #[.slice none 0 0,errV 10])∧Below w.heap.size w w':=by
 have HL:=qq (fun w=>last_nil w)
 go_enter Tryd.func8,Tryd.ntmps8
 go_wp2_with fail
 refine(HL.out _).mono ?_
 rintro e w1 ⟨rfl,q,hq⟩
 have HB1:=qq ((((Below.refl _ w).alloc (Nat.le_refl _) (.cells (packetC grp ep fr nu A n c).toArray 35))).trans ((drewN_below hq).mono (by simp)))
 clear hq
 go_wp2_with fail
 go_ret2
 exact⟨rfl,HB1.out⟩
set_option maxHeartbeats 8000000 in
theorem open23_any{w:World}{base gB:Nat}{b:BX}(h:BoxAt w base gB b)(p:PM)(hg:p.grp.length=32)(A:Option Addr)(n c Bm:Nat)(hr:Rd b8 w Bm A p.sl)(hBm:Bm≤w.heap.size)(hn:p.sl.length=n)(hnc:n≤c)(hn63:n<9223372036854775808)
 (e1: -9223372036854775808≤p.ep)(e2:p.ep<9223372036854775808)(f1: -9223372036854775808≤p.fr)(f2:p.fr<9223372036854775808)(n1: -9223372036854775808≤p.nu)(n2:p.nu<9223372036854775808):
 Calls Tryd.prog 8 #[.pointer (some ⟨gB,0,none⟩),.agg (packetC p.grp p.ep p.fr p.nu A n c).toArray] w fun e w'=>∃v,e= .returned (.tuple #[v,errV (openE b.m p)])∧Own b8 w' w.heap.size 5 v (openT b.m p)∧
  ∃b',b'.m=openM b.m p∧BoxAt w' base gB b'∧Frm w w' (BX.foot gB b)∧(∀k∈BX.foot gB b',k∈BX.foot gB b∨w.heap.size≤k)∧∀k,v.ownBlock=some k→k∉BX.foot gB b':=by
 obtain⟨w1,hw1⟩:∃w1,w1=w.alloc (.cells (packetC p.grp p.ep p.fr p.nu A n c).toArray 35):=⟨_,rfl⟩
 have HBx1:=qq (show Blk w1 w.heap.size 35 (packetC p.grp p.ep p.fr p.nu A n c) by rw[hw1];exact Blk.new _ _ _)
 have HK1:=qq (show Below w.heap.size w w1 by rw[hw1];exact(Below.refl _ w).alloc (Nat.le_refl _) _)
 have hz1:w1.heap.size=w.heap.size+1:=by rw[hw1];simp
 have HB1:=qq (h.below HK1.out)
 have HW1:=qq hw1
 have HH:=qq h
 have HG:=qq hg
 have HR:=qq hr
 have HN:=qq hn
 obtain⟨E,hE⟩:∃E,E=openE b.m p:=⟨_,rfl⟩
 have hE0:=hE
 unfold openE at hE0
 clear hw1 hg hr hn
 have HM:=qq (show E≠0→openM b.m p=b.m∧openT b.m p=[]from fun h5=>⟨openM_bad (by rw[←hE];exact h5),openT_bad (by rw[←hE];exact h5)⟩)
 rw[←hE]
 rcases Nat.eq_zero_or_pos b.es.length with h0|h0
 ·have he:b.es=[]:=List.eq_nil_of_length_eq_zero h0
  rw[if_pos (m_es_nil.2 he)]at hE0
  subst hE0
  rw[(HM.out (by decide)).1,(HM.out (by decide)).2]
  have HL:=qq (last_empty HB1.out he)
  clear h h0 he hE
  go_enter Tryd.func8,Tryd.ntmps8
  go_upto_region 1 with fail
  rw[←HW1.out]
  go_wp2_with fail
  refine HL.out.mono ?_
  rintro e w2 ⟨rfl,q,hq⟩
  have HB2:=qq (HK1.out.trans ((drewN_below hq).mono (by omega)))
  have HX2:=qq (HBx1.out.below (drewN_below hq) (by omega))
  have hz2:=(drewN_below hq).size
  clear hq
  go_wp2_with fail
  go_ret2
  exact⟨_,rfl,Own.nil_ _ _ _ _,b,rfl,HH.out.below HB2.out,(Frm.refl w _).below HB2.out (Nat.le_refl _),fun k hk=> .inl hk,fun k hk=>(by cases hk)⟩
 ·obtain⟨n',hn'⟩:∃n,b.es.length=n+1:=⟨b.es.length-1,by omega⟩
  obtain⟨g,c',hv,hbg,hgl,hcc⟩:=HB1.out.v_some h0
  have hv':=hv
  rw[hn']at hv'
  have HL:=qq (last_some HB1.out hn' hv')
  have hne:b.es≠ []:=fun e=>by rw[e]at h0;simp at h0
  rw[if_neg (by rw[m_es_nil];exact hne),HN.out]at hE0
  cases hbd:pkBad p.ep p.fr p.nu n with
  |true=>
   rw[hbd,if_pos rfl]at hE0
   subst hE0
   rw[(HM.out (by decide)).1,(HM.out (by decide)).2]
   have HBd:=qq hbd
   clear h h0 hn' hv hbg hgl hcc hv' hne hE hbd
   go_enter Tryd.func8,Tryd.ntmps8
   go_upto_region 1 with fail
   rw[←HW1.out]
   go_wp2_with fail
   refine HL.out.mono ?_
   rintro e w2 ⟨rfl,q,hq⟩
   have HB2:=qq (HK1.out.trans ((drewN_below hq).mono (by omega)))
   have HX2:=qq (HBx1.out.below (drewN_below hq) (by omega))
   have hz2:=(drewN_below hq).size
   clear hq
   obtain⟨c32,c33,c34,c35,c0⟩:=PkBox.all5 HX2.out HG.out
   have HP:=qq (show Calls Tryd.prog 17 #[.agg (packetC p.grp p.ep p.fr p.nu A n c).toArray] w2 fun e w'=>∃(A3:Option Addr) (n3 c3:Nat),e= .returned (.tuple #[.slice A3 n3 c3,.iface 41 (.int .i64 3)])∧Below w2.heap.size w2 w' by
    have h5:=putPacket_any p.grp p.ep p.fr p.nu A n c Bm p.sl w2 HG.out e1 e2 f1 f2 n1 n2 (HR.out.below (HB2.out.mono hBm)) (by have:=HB2.out.size;omega) HN.out hn63
    rw[HBd.out]at h5
    refine h5.mono ?_
    rintro e w3 ⟨v,rfl,ho,hb⟩
    obtain⟨A3,c3,rfl,-⟩:=ho.shape
    exact⟨_,_,_,rfl,hb⟩)
   have c0w:=HX2.out.whole
   go_wp2_with (refine wpList_load_mid rfl 35 (.tmp 3) rfl w.heap.size 0 rfl (packetC p.grp p.ep p.fr p.nu A n c) _ c0w Tryd.underlying35 rfl (by rw[pkC_len HG.out];exact sizePk) ?_)
   refine HP.out.mono ?_
   rintro e w3 ⟨A3,n3,c3,rfl,hb3⟩
   have HB3:=qq (HB2.out.trans (hb3.mono HB2.out.size))
   have HX3:=qq (HX2.out.below hb3 (by omega))
   have hz3:=hb3.size
   clear hb3 c32 c33 c34 c35 c0 c0w
   go_wp2_with fail
   go_ret2
   exact⟨_,rfl,Own.nil_ _ _ _ _,b,rfl,HH.out.below HB3.out,(Frm.refl w _).below HB3.out (Nat.le_refl _),fun k hk=> .inl hk,fun k hk=>(by cases hk)⟩
  |false=>
   rw[hbd,if_neg (by decide)]at hE0
   have HBd:=qq hbd
   have HV:=qq hv'
   obtain⟨m0,hm0⟩:∃m0,m0=n'+1:=⟨_,rfl⟩
   rw[←hm0]at HV
   by_cases hbig:1040<n
   ·rw[if_pos hbig]at hE0
    subst hE0
    rw[(HM.out (by decide)).1,(HM.out (by decide)).2]
    have hbig2:(n:Int)>1040:=by omega
    clear h h0 hn' hv hbg hgl hcc hv' hne hE hbd hm0 hbig
    go_enter Tryd.func8,Tryd.ntmps8
    go_upto_region 1 with fail
    rw[←HW1.out]
    go_wp2_with fail
    refine HL.out.mono ?_
    rintro e w2 ⟨rfl,q,hq⟩
    have HB2:=qq (HK1.out.trans ((drewN_below hq).mono (by omega)))
    have HX2:=qq (HBx1.out.below (drewN_below hq) (by omega))
    have hz2:=(drewN_below hq).size
    clear hq
    obtain⟨c32,c33,c34,c35,c0⟩:=PkBox.all5 HX2.out HG.out
    have HP:=qq (show Calls Tryd.prog 17 #[.agg (packetC p.grp p.ep p.fr p.nu A n c).toArray] w2 fun e w'=>∃(A3:Option Addr) (n3 c3:Nat),e= .returned (.tuple #[.slice A3 n3 c3,.nilIface])∧Below w2.heap.size w2 w' by
     have h5:=putPacket_any p.grp p.ep p.fr p.nu A n c Bm p.sl w2 HG.out e1 e2 f1 f2 n1 n2 (HR.out.below (HB2.out.mono hBm)) (by have:=HB2.out.size;omega) HN.out hn63
     rw[HBd.out]at h5
     refine h5.mono ?_
     rintro e w3 ⟨v,rfl,ho,hb⟩
     obtain⟨A3,c3,rfl,-⟩:=ho.shape
     exact⟨_,_,_,rfl,hb⟩)
    have c0w:=HX2.out.whole
    go_wp2_with (refine wpList_load_mid rfl 35 (.tmp 3) rfl w.heap.size 0 rfl (packetC p.grp p.ep p.fr p.nu A n c) _ c0w Tryd.underlying35 rfl (by rw[pkC_len HG.out];exact sizePk) ?_)
    refine HP.out.mono ?_
    rintro e w3 ⟨A3,n3,c3,rfl,hb3⟩
    have HB3:=qq (HB2.out.trans (hb3.mono HB2.out.size))
    have HX3:=qq (HX2.out.below hb3 (by omega))
    have hz3:=hb3.size
    clear hb3 c32 c33 c34 c35 c0 c0w
    obtain⟨d32,d33,d34,d35,-⟩:=PkBox.all5 HX3.out HG.out
    have HBo3:=qq (HH.out.below HB3.out)
    have c32:=HBo3.out.cell32
    rw[HV.out]at c32
    go_wp2_with fail
    go_ret2
    exact⟨_,rfl,Own.nil_ _ _ _ _,b,rfl,HH.out.below HB3.out,(Frm.refl w _).below HB3.out (Nat.le_refl _),fun k hk=> .inl hk,fun k hk=>(by cases hk)⟩
   ·rw[if_neg hbig]at hE0
    have hbig2:¬((n:Int)>1040):=by omega
    cases hf:findE b.m.es p.ep with
    |none=>
     rw[hf]at hE0
     dsimp only at hE0
     subst hE0
     rw[(HM.out (by decide)).1,(HM.out (by decide)).2]
     have HFi:=qq (show findI b.m.es p.ep= -1 by unfold findI;rw[hf])
     clear h h0 hn' hv hbg hgl hcc hv' hne hE hbd hm0 hbig hf
     go_enter Tryd.func8,Tryd.ntmps8
     go_upto_region 1 with fail
     rw[←HW1.out]
     go_wp2_with fail
     refine HL.out.mono ?_
     rintro e w2 ⟨rfl,q,hq⟩
     have HB2:=qq (HK1.out.trans ((drewN_below hq).mono (by omega)))
     have HX2:=qq (HBx1.out.below (drewN_below hq) (by omega))
     have hz2:=(drewN_below hq).size
     clear hq
     obtain⟨c32,c33,c34,c35,c0⟩:=PkBox.all5 HX2.out HG.out
     have HP:=qq (show Calls Tryd.prog 17 #[.agg (packetC p.grp p.ep p.fr p.nu A n c).toArray] w2 fun e w'=>∃(A3:Option Addr) (n3 c3:Nat),e= .returned (.tuple #[.slice A3 n3 c3,.nilIface])∧Below w2.heap.size w2 w' by
      have h5:=putPacket_any p.grp p.ep p.fr p.nu A n c Bm p.sl w2 HG.out e1 e2 f1 f2 n1 n2 (HR.out.below (HB2.out.mono hBm)) (by have:=HB2.out.size;omega) HN.out hn63
      rw[HBd.out]at h5
      refine h5.mono ?_
      rintro e w3 ⟨v,rfl,ho,hb⟩
      obtain⟨A3,c3,rfl,-⟩:=ho.shape
      exact⟨_,_,_,rfl,hb⟩)
     have c0w:=HX2.out.whole
     go_wp2_with (refine wpList_load_mid rfl 35 (.tmp 3) rfl w.heap.size 0 rfl (packetC p.grp p.ep p.fr p.nu A n c) _ c0w Tryd.underlying35 rfl (by rw[pkC_len HG.out];exact sizePk) ?_)
     refine HP.out.mono ?_
     rintro e w3 ⟨A3,n3,c3,rfl,hb3⟩
     have HB3:=qq (HB2.out.trans (hb3.mono HB2.out.size))
     have HX3:=qq (HX2.out.below hb3 (by omega))
     have hz3:=hb3.size
     clear hb3 c32 c33 c34 c35 c0 c0w
     obtain⟨d32,d33,d34,d35,-⟩:=PkBox.all5 HX3.out HG.out
     have HBo3:=qq (HH.out.below HB3.out)
     have c32:=HBo3.out.cell32
     rw[HV.out]at c32
     have HI:=qq (by have h5:=index_any HBo3.out w.heap.size p.ep (by omega) d32;rw[HV.out,HFi.out]at h5;exact h5)
     go_wp2_with fail
     refine HI.out.mono ?_
     rintro e w4 ⟨rfl,hb4⟩
     have HB4:=qq (HB3.out.trans (hb4.mono HB3.out.size))
     have HX4:=qq (HX3.out.below hb4 (by omega))
     have HBo4:=qq (HH.out.below HB4.out)
     clear hb4 d32 d33 d34 d35 c32
     go_wp2_with fail
     go_quiet (fail)
     have HB5:=qq (below_drewN HB4.out nq)
     generalize w4.drewN nq=w5 at HB5 ⊢
     go_wp2_with fail
     go_ret2
     exact⟨_,rfl,Own.nil_ _ _ _ _,b,rfl,HH.out.below HB5.out,(Frm.refl w _).below HB5.out (Nat.le_refl _),fun k hk=> .inl hk,fun k hk=>(by cases hk)⟩
    |some i=>
     rw[hf]at hE0
     dsimp only at hE0
     obtain⟨hi,hno,hfirst⟩:=findE_some hf
     have HFi:=qq (show findI b.m.es p.ep=(i:Int) by unfold findI;rw[hf])
     have hgr2:b.m.grp=b.grp:=rfl
     rw[hgr2,bx_leafAt hi]at hE0
     by_cases hgq:p.grp=b.grp
     ·rw[if_neg (by simp[hgq])]at hE0
      have HQ:=qq (show(!(p.grp==b.grp))=false by simp[hgq])
      have hb:=h.bnd _ (List.getElem_mem hi)
      obtain⟨lf,hlf⟩:∃lf,lf=b.es[i].leaf:=⟨_,rfl⟩
      obtain⟨gC,hgC⟩:∃gC,gC=b.es[i].gC:=⟨_,rfl⟩
      rw[←hlf]at hE0
      have HLf:=qq hlf
      have HGC:=qq hgC
      have hi0:(0:Int)≤(i:Int):=by omega
      have hi1:(i:Int)<(m0:Int):=by omega
      have hi2:i<m0:=by omega
      by_cases hfl:p.fr=(lf:Int)
      ·rw[if_pos hfl]at hE0
       subst hE0
       rw[(HM.out (by decide)).1,(HM.out (by decide)).2]
       have hbe:(p.fr==(lf:Int))=true:=by simp[hfl]
       clear h h0 hn' hv hbg hgl hcc hv' hne hE hbd hm0 hbig hf hno hfirst hgr2 hgq hb hlf hgC hfl
       go_enter Tryd.func8,Tryd.ntmps8
       go_upto_region 1 with fail
       rw[←HW1.out]
       go_wp2_with fail
       refine HL.out.mono ?_
       rintro e w2 ⟨rfl,q,hq⟩
       have HB2:=qq (HK1.out.trans ((drewN_below hq).mono (by omega)))
       have HX2:=qq (HBx1.out.below (drewN_below hq) (by omega))
       have hz2:=(drewN_below hq).size
       clear hq
       obtain⟨c32,c33,c34,c35,c0⟩:=PkBox.all5 HX2.out HG.out
       have HP:=qq (show Calls Tryd.prog 17 #[.agg (packetC p.grp p.ep p.fr p.nu A n c).toArray] w2 fun e w'=>∃(A3:Option Addr) (n3 c3:Nat),e= .returned (.tuple #[.slice A3 n3 c3,.nilIface])∧Below w2.heap.size w2 w' by
        have h5:=putPacket_any p.grp p.ep p.fr p.nu A n c Bm p.sl w2 HG.out e1 e2 f1 f2 n1 n2 (HR.out.below (HB2.out.mono hBm)) (by have:=HB2.out.size;omega) HN.out hn63
        rw[HBd.out]at h5
        refine h5.mono ?_
        rintro e w3 ⟨v,rfl,ho,hb⟩
        obtain⟨A3,c3,rfl,-⟩:=ho.shape
        exact⟨_,_,_,rfl,hb⟩)
       have c0w:=HX2.out.whole
       go_wp2_with (refine wpList_load_mid rfl 35 (.tmp 3) rfl w.heap.size 0 rfl (packetC p.grp p.ep p.fr p.nu A n c) _ c0w Tryd.underlying35 rfl (by rw[pkC_len HG.out];exact sizePk) ?_)
       refine HP.out.mono ?_
       rintro e w3 ⟨A3,n3,c3,rfl,hb3⟩
       have HB3:=qq (HB2.out.trans (hb3.mono HB2.out.size))
       have HX3:=qq (HX2.out.below hb3 (by omega))
       have hz3:=hb3.size
       clear hb3 c32 c33 c34 c35 c0 c0w
       obtain⟨d32,d33,d34,d35,-⟩:=PkBox.all5 HX3.out HG.out
       have HBo3:=qq (HH.out.below HB3.out)
       have c32:=HBo3.out.cell32
       rw[HV.out]at c32
       have HI:=qq (by have h5:=index_any HBo3.out w.heap.size p.ep (by omega) d32;rw[HV.out,HFi.out]at h5;exact h5)
       go_wp2_with fail
       refine HI.out.mono ?_
       rintro e w4 ⟨rfl,hb4⟩
       have HB4:=qq (HB3.out.trans (hb4.mono HB3.out.size))
       have HX4:=qq (HX3.out.below hb4 (by omega))
       have HBo4:=qq (HH.out.below HB4.out)
       clear hb4 d32 d33 d34 d35 c32
       have hr1:w4.drew.rangeAt w.heap.size 0 (p.grp.map b8):=PkBox.r0 HX4.out HG.out
       have hr2:w4.drew.rangeAt gB 0 (b.grp.map b8):=by
        have h5:=(HBo4.out.blk).range 0 32
        rwa[List.drop_zero,show b.cells.take 32=b.grp.map b8 by unfold BX.cells;rw[List.take_left' (by rw[List.length_map,HBo4.out.glen])]]at h5
       have hneq:∀w,(binOp .neq 29 (.agg (p.grp.map b8).toArray) (.agg (b.grp.map b8).toArray)).run Tryd.prog w= .ok (.bool false) w:=fun w=>by
        have h5:=run_neq_b8 w 29 5 32 Tryd.underlying29 Tryd.underlying5 (fun _=>by kernel_rfl) _ _ HG.out HBo4.out.glen
        rw[HQ.out]at h5;exact h5
       have hi32:(Tryd.prog.info? 29).map (·.size)=some (p.grp.map b8).length:=by rw[List.length_map,HG.out];exact infoSum
       have hi33:(Tryd.prog.info? 29).map (·.size)=some (b.grp.map b8).length:=by rw[List.length_map,HBo4.out.glen];exact infoSum
       have hu:=Tryd.underlying29
       have hS:w4.drew.rangeAt w.heap.size 0 (p.grp.map b8)∧w4.drew.rangeAt gB 0 (b.grp.map b8):=⟨hr1,hr2⟩
       clear hr1 hr2
       go_upto_region 9 with fail
       refine wp_region_noPanic ?_
       refine wp_region_held_drew (S:=fun w'=>w'.rangeAt w.heap.size 0 (p.grp.map b8)∧w'.rangeAt gB 0 (b.grp.map b8)) (by kernel_rfl) hS (fun hS=>?_)
       refine wpAnyH_take (i:=0) (oi:={dst:=some 37,op:=_,type:=_,pos:=_,after:=_,guard:=_}) (v:= .int .i64 (i:Int)) rfl (by kernel_rfl) (by kernel_rfl) (by kernel_rfl) (fun _ _ _ h=>h) (Or.inl ⟨by rfl,?_⟩) hS ?_
       ·intro w' hw'
        go_simp
       try simp only[Act.put,qj,qz,qv]
       refine wpAnyH_take (i:=1) (oi:={dst:=some 38,op:=_,type:=_,pos:=_,after:=_,guard:=_}) (v:= .bool false) rfl (by kernel_rfl) (by kernel_rfl) (by kernel_rfl) (fun _ _ _ h=>h) (Or.inl ⟨by rfl,?_⟩) hS ?_
       ·intro w' hw'
        go_simp
       try simp only[Act.put,qj,qz,qv]
       refine wpAnyH_take (i:=2) (oi:={dst:=some 39,op:=_,type:=_,pos:=_,after:=_,guard:=_}) (v:= .bool false) rfl (by kernel_rfl) (by kernel_rfl) (by kernel_rfl) (fun _ _ _ h=>h) (Or.inl ⟨by rfl,?_⟩) hS ?_
       ·intro w' hw'
        go_simp
       try simp only[Act.put,qj,qz,qv]
       refine wpAnyH_take (i:=3) (oi:={dst:=some 40,op:=_,type:=_,pos:=_,after:=_,guard:=_}) (v:= .pointer (some ⟨w.heap.size,0,none⟩)) rfl (by kernel_rfl) (by kernel_rfl) (by kernel_rfl) (fun _ _ _ h=>h) (Or.inl ⟨by rfl,?_⟩) hS ?_
       ·intro w' hw'
        go_simp
       try simp only[Act.put,qj,qz,qv]
       refine wpAnyH_take (i:=4) (oi:={dst:=some 41,op:=_,type:=_,pos:=_,after:=_,guard:=_}) (v:= .agg (p.grp.map b8).toArray) rfl (by kernel_rfl) (by kernel_rfl) (by kernel_rfl) (fun _ _ _ h=>h) (yieldsIf_load_mid (by rfl) 29 (.tmp 40) rfl w.heap.size 0 rfl (p.grp.map b8) _ (fun _ h=>h.1) hu rfl hi32) hS ?_
       try simp only[Act.put,qj,qz,qv]
       refine wpAnyH_take (i:=5) (oi:={dst:=some 42,op:=_,type:=_,pos:=_,after:=_,guard:=_}) (v:= .pointer (some ⟨gB,0,none⟩)) rfl (by kernel_rfl) (by kernel_rfl) (by kernel_rfl) (fun _ _ _ h=>h) (Or.inl ⟨by rfl,?_⟩) hS ?_
       ·intro w' hw'
        go_simp
       try simp only[Act.put,qj,qz,qv]
       refine wpAnyH_take (i:=6) (oi:={dst:=some 43,op:=_,type:=_,pos:=_,after:=_,guard:=_}) (v:= .pointer (some ⟨gB,0,none⟩)) rfl (by kernel_rfl) (by kernel_rfl) (by kernel_rfl) (fun _ _ _ h=>h) (Or.inl ⟨by rfl,?_⟩) hS ?_
       ·intro w' hw'
        go_simp
       try simp only[Act.put,qj,qz,qv]
       refine wpAnyH_take (i:=7) (oi:={dst:=some 44,op:=_,type:=_,pos:=_,after:=_,guard:=_}) (v:= .pointer (some ⟨gB,0,none⟩)) rfl (by kernel_rfl) (by kernel_rfl) (by kernel_rfl) (fun _ _ _ h=>h) (Or.inl ⟨by rfl,?_⟩) hS ?_
       ·intro w' hw'
        go_simp
       try simp only[Act.put,qj,qz,qv]
       refine wpAnyH_take (i:=8) (oi:={dst:=some 45,op:=_,type:=_,pos:=_,after:=_,guard:=_}) (v:= .agg (b.grp.map b8).toArray) rfl (by kernel_rfl) (by kernel_rfl) (by kernel_rfl) (fun _ _ _ h=>h) (yieldsIf_load_mid (by rfl) 29 (.tmp 44) rfl gB 0 rfl (b.grp.map b8) _ (fun _ h=>h.2) hu rfl hi33) hS ?_
       try simp only[Act.put,qj,qz,qv]
       refine wpAnyH_take (i:=9) (oi:={dst:=some 46,op:=_,type:=_,pos:=_,after:=_,guard:=_}) (v:= .bool false) rfl (by kernel_rfl) (by kernel_rfl) (by kernel_rfl) (fun _ _ _ h=>h) (Or.inl ⟨by rfl,?_⟩) hS ?_
       ·intro w' hw'
        go_simp
       try simp only[Act.put,qj,qz,qv]
       refine wpAnyH_take (i:=10) (oi:={dst:=some 47,op:=_,type:=_,pos:=_,after:=_,guard:=_}) (v:= .bool false) rfl (by kernel_rfl) (by kernel_rfl) (by kernel_rfl) (fun _ _ _ h=>h) (Or.inl ⟨by rfl,?_⟩) hS ?_
       ·intro w' hw'
        go_simp
       try simp only[Act.put,qj,qz,qv]
       refine wpAnyH_take (i:=11) (oi:={dst:=some 36,op:=_,type:=_,pos:=_,after:=_,guard:=_}) (v:= .bool false) rfl (by kernel_rfl) (by kernel_rfl) (by kernel_rfl) (fun _ _ _ h=>h) (Or.inl ⟨by rfl,?_⟩) hS ?_
       ·intro w' hw'
        go_simp
       try simp only[Act.put,qj,qz,qv]
       refine wpAnyH_done (by kernel_rfl) ?_ _
       refine NoPanic.normal ?_
       clear hS hneq hi32 hi33 hu
       have HB5:=qq HB4.out.drew
       have HX5:=qq (show Blk w4.drew w.heap.size 35 (packetC p.grp p.ep p.fr p.nu A n c)from HX4.out)
       have HBo5:=qq HBo4.out.drew
       generalize w4.drew=w5 at HB5 HX5 HBo5 ⊢
       obtain⟨d32,d33,d34,d35,-⟩:=PkBox.all5 HX5.out HG.out
       have c32:=HBo5.out.cell32
       rw[HV.out]at c32
       obtain⟨a0,a1,a2⟩:=HBo5.out.at_row HV.out hi
       rw[←HGC.out]at a0
       rw[←HLf.out]at a2
       clear a1
       go_wp2_with fail
       go_quiet (fail)
       have HB6:=qq (below_drewN HB5.out nq)
       have HX6:=qq (show Blk (w5.drewN nq) w.heap.size 35 (packetC p.grp p.ep p.fr p.nu A n c)from HX5.out)
       have HBo6:=qq (HBo5.out.drewN nq)
       have c32:=HBo6.out.cell32
       rw[HV.out]at c32
       obtain⟨a0,a1,a2⟩:=HBo6.out.at_row HV.out hi
       rw[←HGC.out]at a0
       clear a1 a2
       generalize w5.drewN nq=w6 at HB6 HX6 HBo6 c32 a0 ⊢
       obtain⟨d32,d33,d34,d35,-⟩:=PkBox.all5 HX6.out HG.out
       go_wp2_with fail
       go_ret2
       exact⟨_,rfl,Own.nil_ _ _ _ _,b,rfl,HH.out.below HB6.out,(Frm.refl w _).below HB6.out (Nat.le_refl _),fun k hk=> .inl hk,fun k hk=>(by cases hk)⟩
      ·rw[if_neg hfl]at hE0
       have hbe:(p.fr==(lf:Int))=false:=by simp[hfl]
       obtain⟨f,hff⟩:∃f:Nat,p.fr=(f:Int):=by
        have h5:=HBd.out
        unfold pkBad at h5
        simp only[Bool.or_eq_false_iff]at h5
        have h6:=h5.1.1.1.2
        unfold outOf at h6
        simp at h6
        exact⟨p.fr.toNat,by omega⟩
       have hft:p.fr.toNat=f:=by omega
       rw[hft]at hE0
       have HFf:=qq hff
       have hlook:(E≠0∧∀W,BoxAt W base gB b→Calls Tryd.prog 20 #[.pointer (some ⟨gC,0,none⟩),.int .i64 p.fr,.int .i64 p.nu] W fun e w'=>e= .returned (.tuple #[.agg zeroOnce.toArray,.iface 41 (.int .i64 (E:Int))])∧Below W.heap.size W w')∨
        (∃hj:f<b.es[i].xs.length,takeE b.es[i].xs[f].l p.nu=0):=by
        by_cases hj:f<b.es[i].xs.length
        ·rw[bx_line hi hj]at hE0
         dsimp only at hE0
         by_cases ht:takeE b.es[i].xs[f].l p.nu=0
         ·exact .inr ⟨hj,ht⟩
         ·rw[if_pos ht]at hE0
          refine .inl ⟨by rw[hE0];exact ht,fun W hW=>?_⟩
          have h5:=look_bad W _ _ _ (hW.ch _ (List.getElem_mem hi)) f hj (by omega) p.nu ht
          rw[←hgC,←hff,←hE0,errV_pos (by rw[hE0];exact ht)]at h5
          exact h5
        ·rw[bx_line_none hi hj]at hE0
         dsimp only at hE0
         refine .inl ⟨by rw[hE0];decide,fun W hW=>?_⟩
         have hc:=hW.ch _ (List.getElem_mem hi)
         have h5:=look_bare W (.pointer (some ⟨gC,0,none⟩)) p.fr p.nu (fun w1 hb1=>by
          have h6:=line_out w1 _ _ _ (hc.below hb1) p.fr (.inr (by omega))
          rw[←hgC]at h6;exact h6)
         rw[hE0]
         exact h5
       rcases hlook with⟨hEz,hlk⟩|⟨hj,ht⟩
       ·rw[(HM.out hEz).1,(HM.out hEz).2]
        have HLk:=qq hlk
        have HNe:=qq (errV_pos hEz)
        rw[HNe.out]
        clear h h0 hn' hv hbg hgl hcc hv' hne hE hE0 hbd hm0 hbig hf hno hfirst hgr2 hgq hb hlf hgC hfl hff hft hlk hEz
        go_enter Tryd.func8,Tryd.ntmps8
        go_upto_region 1 with fail
        rw[←HW1.out]
        go_wp2_with fail
        refine HL.out.mono ?_
        rintro e w2 ⟨rfl,q,hq⟩
        have HB2:=qq (HK1.out.trans ((drewN_below hq).mono (by omega)))
        have HX2:=qq (HBx1.out.below (drewN_below hq) (by omega))
        have hz2:=(drewN_below hq).size
        clear hq
        obtain⟨c32,c33,c34,c35,c0⟩:=PkBox.all5 HX2.out HG.out
        have HP:=qq (show Calls Tryd.prog 17 #[.agg (packetC p.grp p.ep p.fr p.nu A n c).toArray] w2 fun e w'=>∃(A3:Option Addr) (n3 c3:Nat),e= .returned (.tuple #[.slice A3 n3 c3,.nilIface])∧Below w2.heap.size w2 w' by
         have h5:=putPacket_any p.grp p.ep p.fr p.nu A n c Bm p.sl w2 HG.out e1 e2 f1 f2 n1 n2 (HR.out.below (HB2.out.mono hBm)) (by have:=HB2.out.size;omega) HN.out hn63
         rw[HBd.out]at h5
         refine h5.mono ?_
         rintro e w3 ⟨v,rfl,ho,hb⟩
         obtain⟨A3,c3,rfl,-⟩:=ho.shape
         exact⟨_,_,_,rfl,hb⟩)
        have c0w:=HX2.out.whole
        go_wp2_with (refine wpList_load_mid rfl 35 (.tmp 3) rfl w.heap.size 0 rfl (packetC p.grp p.ep p.fr p.nu A n c) _ c0w Tryd.underlying35 rfl (by rw[pkC_len HG.out];exact sizePk) ?_)
        refine HP.out.mono ?_
        rintro e w3 ⟨A3,n3,c3,rfl,hb3⟩
        have HB3:=qq (HB2.out.trans (hb3.mono HB2.out.size))
        have HX3:=qq (HX2.out.below hb3 (by omega))
        have hz3:=hb3.size
        clear hb3 c32 c33 c34 c35 c0 c0w
        obtain⟨d32,d33,d34,d35,-⟩:=PkBox.all5 HX3.out HG.out
        have HBo3:=qq (HH.out.below HB3.out)
        have c32:=HBo3.out.cell32
        rw[HV.out]at c32
        have HI:=qq (by have h5:=index_any HBo3.out w.heap.size p.ep (by omega) d32;rw[HV.out,HFi.out]at h5;exact h5)
        go_wp2_with fail
        refine HI.out.mono ?_
        rintro e w4 ⟨rfl,hb4⟩
        have HB4:=qq (HB3.out.trans (hb4.mono HB3.out.size))
        have HX4:=qq (HX3.out.below hb4 (by omega))
        have HBo4:=qq (HH.out.below HB4.out)
        clear hb4 d32 d33 d34 d35 c32
        have hr1:w4.drew.rangeAt w.heap.size 0 (p.grp.map b8):=PkBox.r0 HX4.out HG.out
        have hr2:w4.drew.rangeAt gB 0 (b.grp.map b8):=by
         have h5:=(HBo4.out.blk).range 0 32
         rwa[List.drop_zero,show b.cells.take 32=b.grp.map b8 by unfold BX.cells;rw[List.take_left' (by rw[List.length_map,HBo4.out.glen])]]at h5
        have hneq:∀w,(binOp .neq 29 (.agg (p.grp.map b8).toArray) (.agg (b.grp.map b8).toArray)).run Tryd.prog w= .ok (.bool false) w:=fun w=>by
         have h5:=run_neq_b8 w 29 5 32 Tryd.underlying29 Tryd.underlying5 (fun _=>by kernel_rfl) _ _ HG.out HBo4.out.glen
         rw[HQ.out]at h5;exact h5
        have hi32:(Tryd.prog.info? 29).map (·.size)=some (p.grp.map b8).length:=by rw[List.length_map,HG.out];exact infoSum
        have hi33:(Tryd.prog.info? 29).map (·.size)=some (b.grp.map b8).length:=by rw[List.length_map,HBo4.out.glen];exact infoSum
        have hu:=Tryd.underlying29
        have hS:w4.drew.rangeAt w.heap.size 0 (p.grp.map b8)∧w4.drew.rangeAt gB 0 (b.grp.map b8):=⟨hr1,hr2⟩
        clear hr1 hr2
        go_upto_region 9 with fail
        refine wp_region_noPanic ?_
        refine wp_region_held_drew (S:=fun w'=>w'.rangeAt w.heap.size 0 (p.grp.map b8)∧w'.rangeAt gB 0 (b.grp.map b8)) (by kernel_rfl) hS (fun hS=>?_)
        refine wpAnyH_take (i:=0) (oi:={dst:=some 37,op:=_,type:=_,pos:=_,after:=_,guard:=_}) (v:= .int .i64 (i:Int)) rfl (by kernel_rfl) (by kernel_rfl) (by kernel_rfl) (fun _ _ _ h=>h) (Or.inl ⟨by rfl,?_⟩) hS ?_
        ·intro w' hw'
         go_simp
        try simp only[Act.put,qj,qz,qv]
        refine wpAnyH_take (i:=1) (oi:={dst:=some 38,op:=_,type:=_,pos:=_,after:=_,guard:=_}) (v:= .bool false) rfl (by kernel_rfl) (by kernel_rfl) (by kernel_rfl) (fun _ _ _ h=>h) (Or.inl ⟨by rfl,?_⟩) hS ?_
        ·intro w' hw'
         go_simp
        try simp only[Act.put,qj,qz,qv]
        refine wpAnyH_take (i:=2) (oi:={dst:=some 39,op:=_,type:=_,pos:=_,after:=_,guard:=_}) (v:= .bool false) rfl (by kernel_rfl) (by kernel_rfl) (by kernel_rfl) (fun _ _ _ h=>h) (Or.inl ⟨by rfl,?_⟩) hS ?_
        ·intro w' hw'
         go_simp
        try simp only[Act.put,qj,qz,qv]
        refine wpAnyH_take (i:=3) (oi:={dst:=some 40,op:=_,type:=_,pos:=_,after:=_,guard:=_}) (v:= .pointer (some ⟨w.heap.size,0,none⟩)) rfl (by kernel_rfl) (by kernel_rfl) (by kernel_rfl) (fun _ _ _ h=>h) (Or.inl ⟨by rfl,?_⟩) hS ?_
        ·intro w' hw'
         go_simp
        try simp only[Act.put,qj,qz,qv]
        refine wpAnyH_take (i:=4) (oi:={dst:=some 41,op:=_,type:=_,pos:=_,after:=_,guard:=_}) (v:= .agg (p.grp.map b8).toArray) rfl (by kernel_rfl) (by kernel_rfl) (by kernel_rfl) (fun _ _ _ h=>h) (yieldsIf_load_mid (by rfl) 29 (.tmp 40) rfl w.heap.size 0 rfl (p.grp.map b8) _ (fun _ h=>h.1) hu rfl hi32) hS ?_
        try simp only[Act.put,qj,qz,qv]
        refine wpAnyH_take (i:=5) (oi:={dst:=some 42,op:=_,type:=_,pos:=_,after:=_,guard:=_}) (v:= .pointer (some ⟨gB,0,none⟩)) rfl (by kernel_rfl) (by kernel_rfl) (by kernel_rfl) (fun _ _ _ h=>h) (Or.inl ⟨by rfl,?_⟩) hS ?_
        ·intro w' hw'
         go_simp
        try simp only[Act.put,qj,qz,qv]
        refine wpAnyH_take (i:=6) (oi:={dst:=some 43,op:=_,type:=_,pos:=_,after:=_,guard:=_}) (v:= .pointer (some ⟨gB,0,none⟩)) rfl (by kernel_rfl) (by kernel_rfl) (by kernel_rfl) (fun _ _ _ h=>h) (Or.inl ⟨by rfl,?_⟩) hS ?_
        ·intro w' hw'
         go_simp
        try simp only[Act.put,qj,qz,qv]
        refine wpAnyH_take (i:=7) (oi:={dst:=some 44,op:=_,type:=_,pos:=_,after:=_,guard:=_}) (v:= .pointer (some ⟨gB,0,none⟩)) rfl (by kernel_rfl) (by kernel_rfl) (by kernel_rfl) (fun _ _ _ h=>h) (Or.inl ⟨by rfl,?_⟩) hS ?_
        ·intro w' hw'
         go_simp
        try simp only[Act.put,qj,qz,qv]
        refine wpAnyH_take (i:=8) (oi:={dst:=some 45,op:=_,type:=_,pos:=_,after:=_,guard:=_}) (v:= .agg (b.grp.map b8).toArray) rfl (by kernel_rfl) (by kernel_rfl) (by kernel_rfl) (fun _ _ _ h=>h) (yieldsIf_load_mid (by rfl) 29 (.tmp 44) rfl gB 0 rfl (b.grp.map b8) _ (fun _ h=>h.2) hu rfl hi33) hS ?_
        try simp only[Act.put,qj,qz,qv]
        refine wpAnyH_take (i:=9) (oi:={dst:=some 46,op:=_,type:=_,pos:=_,after:=_,guard:=_}) (v:= .bool false) rfl (by kernel_rfl) (by kernel_rfl) (by kernel_rfl) (fun _ _ _ h=>h) (Or.inl ⟨by rfl,?_⟩) hS ?_
        ·intro w' hw'
         go_simp
        try simp only[Act.put,qj,qz,qv]
        refine wpAnyH_take (i:=10) (oi:={dst:=some 47,op:=_,type:=_,pos:=_,after:=_,guard:=_}) (v:= .bool false) rfl (by kernel_rfl) (by kernel_rfl) (by kernel_rfl) (fun _ _ _ h=>h) (Or.inl ⟨by rfl,?_⟩) hS ?_
        ·intro w' hw'
         go_simp
        try simp only[Act.put,qj,qz,qv]
        refine wpAnyH_take (i:=11) (oi:={dst:=some 36,op:=_,type:=_,pos:=_,after:=_,guard:=_}) (v:= .bool false) rfl (by kernel_rfl) (by kernel_rfl) (by kernel_rfl) (fun _ _ _ h=>h) (Or.inl ⟨by rfl,?_⟩) hS ?_
        ·intro w' hw'
         go_simp
        try simp only[Act.put,qj,qz,qv]
        refine wpAnyH_done (by kernel_rfl) ?_ _
        refine NoPanic.normal ?_
        clear hS hneq hi32 hi33 hu
        have HB5:=qq HB4.out.drew
        have HX5:=qq (show Blk w4.drew w.heap.size 35 (packetC p.grp p.ep p.fr p.nu A n c)from HX4.out)
        have HBo5:=qq HBo4.out.drew
        generalize w4.drew=w5 at HB5 HX5 HBo5 ⊢
        obtain⟨d32,d33,d34,d35,-⟩:=PkBox.all5 HX5.out HG.out
        have c32:=HBo5.out.cell32
        rw[HV.out]at c32
        obtain⟨a0,a1,a2⟩:=HBo5.out.at_row HV.out hi
        rw[←HGC.out]at a0
        rw[←HLf.out]at a2
        clear a1
        go_wp2_with fail
        go_quiet (fail)
        have HB6:=qq (below_drewN HB5.out nq)
        have HX6:=qq (show Blk (w5.drewN nq) w.heap.size 35 (packetC p.grp p.ep p.fr p.nu A n c)from HX5.out)
        have HBo6:=qq (HBo5.out.drewN nq)
        have c32:=HBo6.out.cell32
        rw[HV.out]at c32
        obtain⟨a0,a1,a2⟩:=HBo6.out.at_row HV.out hi
        rw[←HGC.out]at a0
        clear a1 a2
        generalize w5.drewN nq=w6 at HB6 HX6 HBo6 c32 a0 ⊢
        obtain⟨d32,d33,d34,d35,-⟩:=PkBox.all5 HX6.out HG.out
        go_wp2_with fail
        refine(HLk.out _ HBo6.out).mono ?_
        rintro e w7 ⟨rfl,hb7⟩
        have HB7:=qq (HB6.out.trans (hb7.mono HB6.out.size))
        have HZ7:=qq (show Blk (w7.alloc (.cells zeroOnce.toArray 56)) w7.heap.size 56 zeroOnce from Blk.new _ _ _)
        clear hb7
        go_upto_region 15 with(refine wpList_store_piece rfl 56 (.tmp 10) (.tmp 77) rfl w7.heap.size 0 rfl zeroOnce rfl 56 _ [] zeroOnce [] HZ7.out (by simp) rfl rfl sizeOnce (onceC_one _ _ _ _ _) ?_;intro w8 hx8 hg8)
        have HB8:=qq (show Below w.heap.size w w8 from(HB7.out.alloc HB7.out.size _).grown hg8 (Nat.le_trans HB7.out.size (by simp)) (fun k e=>by cases e;exact HB7.out.size))
        clear hx8 hg8
        go_wp2_with fail
        go_ret2
        exact⟨_,rfl,Own.nil_ _ _ _ _,b,rfl,HH.out.below HB8.out,(Frm.refl w _).below HB8.out (Nat.le_refl _),fun k hk=> .inl hk,fun k hk=>(by cases hk)⟩
       ·obtain⟨l,hl⟩:∃l,l=b.es[i].xs[f].l:=⟨_,rfl⟩
        rw[←hl]at ht
        have hla:=bx_line hi hj
        rw[←hl]at hla
        rw[hla]at hE0
        dsimp only at hE0
        rw[if_neg (by simp[ht])]at hE0
        have hlok:LOK l:=by rw[hl];exact((h.ch _ (List.getElem_mem hi)).ok _ (List.getElem_mem hj)).lok
        obtain⟨hkl,hnl⟩:=takeO_lens hlok ht
        obtain⟨O,hO⟩:∃O,O=takeO l p.nu:=⟨_,rfl⟩
        rw[←hO]at hkl hnl hE0
        obtain⟨ctx,hctx⟩:∃ctx,ctx=ctxV p.grp p.ep p.fr p.nu:=⟨_,rfl⟩
        have hctl:ctx.length=41:=by rw[hctx];exact ctxV_len HG.out _ _ _
        rw[←hctx]at hE0
        have hpl:pkLine b.m p=some (i,l):=by unfold pkLine;rw[hf];dsimp only[Option.bind_some];rw[hft,hla];rfl
        have hT:openT b.m p=openV O.key O.nonce ctx p.sl:=by
         unfold openT;rw[hpl];dsimp only;rw[←hE,←hO,←hctx]
         by_cases h5:E=0
         ·rw[if_pos h5]
         ·rw[if_neg h5]
          unfold openV
          rw[if_neg (by rw[←hE0];exact h5)]
        rw[hT]
        have HKl:=qq hkl
        have HNl:=qq hnl
        have HCl:=qq hctl
        have HLk:=qq (show∀W,BoxAt W base gB b→Calls Tryd.prog 20 #[.pointer (some ⟨gC,0,none⟩),.int .i64 p.fr,.int .i64 p.nu] W fun e w'=>∃g c,e= .returned (.tuple #[.agg (onceC p.nu O.key (.slice (some ⟨g,0,none⟩) 12 c)).toArray,.nilIface])∧W.heap.size≤g∧Own b8 w' W.heap.size 5 (.slice (some ⟨g,0,none⟩) 12 c) O.nonce∧Below W.heap.size W w' from fun W hW=>by
         have h5:=look_ok W _ _ _ (hW.ch _ (List.getElem_mem hi)) f hj (by omega) p.nu (by rw[←hl];exact ht)
         rw[←hgC,←hff,←hl,←hO]at h5
         exact h5)
        obtain⟨kv,hkv⟩:∃kv,kv=O.key.map b8:=⟨_,rfl⟩
        obtain⟨pc,hpc⟩:∃pc,pc=packetC p.grp p.ep p.fr p.nu A n c:=⟨_,rfl⟩
        have hi2k:(Tryd.prog.info? 54).map (·.size)=some kv.length:=by rw[hkv,List.length_map,HKl.out];exact size32k
        have hi3p:(Tryd.prog.info? 35).map (·.size)=some pc.length:=by rw[hpc,pkC_len HG.out];exact sizePk
        have HCt:=qq (show∀W,Calls Tryd.prog 16 #[.agg pc.toArray] W fun e w'=>∃v,e= .returned v∧Own b8 w' W.heap.size 5 v ctx∧Below W.heap.size W w' from fun W=>by rw[hpc,hctx];exact context_any p.grp HG.out p.ep p.fr p.nu A n c W)
        have HKv:=qq hkv
        have HPc:=qq hpc
        have HTk:=qq (show∀W,BoxAt W base gB b→Calls Tryd.prog 22 #[.pointer (some ⟨gC,0,none⟩),.int .i64 p.fr,.int .i64 p.nu] W fun e w'=>∃k b',e= .returned (.tuple #[.agg (onceC p.nu O.key (nonceS k)).toArray,.nilIface])∧b'.m=⟨b.m.grp,setLine b.m.es i f (takeL l p.nu),b.m.clr⟩∧BoxAt w' base gB b'∧Frm W w' b.efoot∧∀k∈BX.foot gB b',k∈BX.foot gB b∨W.heap.size≤k from fun W hW=>by
         have h5:=chTake_ok hW hi hj hl p.nu ht
         rw[←hgC,←hff,←hO]at h5
         refine h5.mono ?_
         rintro e w' ⟨k,b',h6,-,h7,-,h8,h9,h10⟩
         exact⟨k,b',h6,h7,h8,h9,h10⟩)
        have HMo:=qq (show E=0→openM b.m p=⟨b.m.grp,setLine b.m.es i f (takeL l p.nu),b.m.clr⟩from fun h5=>by
         unfold openM;rw[hpl];dsimp only;rw[←hE,if_pos h5,hft])
        have HE0:=qq hE0
        clear h h0 hn' hv hbg hgl hcc hv' hne hE hE0 hbd hm0 hbig hf hno hfirst hgr2 hgq hb hlf hgC hfl hff hft hkv hpc hctx hctl hla hpl hT hkl hnl hO hlok
        go_enter Tryd.func8,Tryd.ntmps8
        go_upto_region 1 with fail
        rw[←HW1.out]
        go_wp2_with fail
        refine HL.out.mono ?_
        rintro e w2 ⟨rfl,q,hq⟩
        have HB2:=qq (HK1.out.trans ((drewN_below hq).mono (by omega)))
        have HX2:=qq (HBx1.out.below (drewN_below hq) (by omega))
        have hz2:=(drewN_below hq).size
        clear hq
        obtain⟨c32,c33,c34,c35,c0⟩:=PkBox.all5 HX2.out HG.out
        have HP:=qq (show Calls Tryd.prog 17 #[.agg (packetC p.grp p.ep p.fr p.nu A n c).toArray] w2 fun e w'=>∃(A3:Option Addr) (n3 c3:Nat),e= .returned (.tuple #[.slice A3 n3 c3,.nilIface])∧Below w2.heap.size w2 w' by
         have h5:=putPacket_any p.grp p.ep p.fr p.nu A n c Bm p.sl w2 HG.out e1 e2 f1 f2 n1 n2 (HR.out.below (HB2.out.mono hBm)) (by have:=HB2.out.size;omega) HN.out hn63
         rw[HBd.out]at h5
         refine h5.mono ?_
         rintro e w3 ⟨v,rfl,ho,hb⟩
         obtain⟨A3,c3,rfl,-⟩:=ho.shape
         exact⟨_,_,_,rfl,hb⟩)
        have c0w:=HX2.out.whole
        go_wp2_with (refine wpList_load_mid rfl 35 (.tmp 3) rfl w.heap.size 0 rfl (packetC p.grp p.ep p.fr p.nu A n c) _ c0w Tryd.underlying35 rfl (by rw[pkC_len HG.out];exact sizePk) ?_)
        refine HP.out.mono ?_
        rintro e w3 ⟨A3,n3,c3,rfl,hb3⟩
        have HB3:=qq (HB2.out.trans (hb3.mono HB2.out.size))
        have HX3:=qq (HX2.out.below hb3 (by omega))
        have hz3:=hb3.size
        clear hb3 c32 c33 c34 c35 c0 c0w
        obtain⟨d32,d33,d34,d35,-⟩:=PkBox.all5 HX3.out HG.out
        have HBo3:=qq (HH.out.below HB3.out)
        have c32:=HBo3.out.cell32
        rw[HV.out]at c32
        have HI:=qq (by have h5:=index_any HBo3.out w.heap.size p.ep (by omega) d32;rw[HV.out,HFi.out]at h5;exact h5)
        go_wp2_with fail
        refine HI.out.mono ?_
        rintro e w4 ⟨rfl,hb4⟩
        have HB4:=qq (HB3.out.trans (hb4.mono HB3.out.size))
        have HX4:=qq (HX3.out.below hb4 (by omega))
        have HBo4:=qq (HH.out.below HB4.out)
        clear hb4 d32 d33 d34 d35 c32
        have hr1:w4.drew.rangeAt w.heap.size 0 (p.grp.map b8):=PkBox.r0 HX4.out HG.out
        have hr2:w4.drew.rangeAt gB 0 (b.grp.map b8):=by
         have h5:=(HBo4.out.blk).range 0 32
         rwa[List.drop_zero,show b.cells.take 32=b.grp.map b8 by unfold BX.cells;rw[List.take_left' (by rw[List.length_map,HBo4.out.glen])]]at h5
        have hneq:∀w,(binOp .neq 29 (.agg (p.grp.map b8).toArray) (.agg (b.grp.map b8).toArray)).run Tryd.prog w= .ok (.bool false) w:=fun w=>by
         have h5:=run_neq_b8 w 29 5 32 Tryd.underlying29 Tryd.underlying5 (fun _=>by kernel_rfl) _ _ HG.out HBo4.out.glen
         rw[HQ.out]at h5;exact h5
        have hi32:(Tryd.prog.info? 29).map (·.size)=some (p.grp.map b8).length:=by rw[List.length_map,HG.out];exact infoSum
        have hi33:(Tryd.prog.info? 29).map (·.size)=some (b.grp.map b8).length:=by rw[List.length_map,HBo4.out.glen];exact infoSum
        have hu:=Tryd.underlying29
        have hS:w4.drew.rangeAt w.heap.size 0 (p.grp.map b8)∧w4.drew.rangeAt gB 0 (b.grp.map b8):=⟨hr1,hr2⟩
        clear hr1 hr2
        go_upto_region 9 with fail
        refine wp_region_noPanic ?_
        refine wp_region_held_drew (S:=fun w'=>w'.rangeAt w.heap.size 0 (p.grp.map b8)∧w'.rangeAt gB 0 (b.grp.map b8)) (by kernel_rfl) hS (fun hS=>?_)
        refine wpAnyH_take (i:=0) (oi:={dst:=some 37,op:=_,type:=_,pos:=_,after:=_,guard:=_}) (v:= .int .i64 (i:Int)) rfl (by kernel_rfl) (by kernel_rfl) (by kernel_rfl) (fun _ _ _ h=>h) (Or.inl ⟨by rfl,?_⟩) hS ?_
        ·intro w' hw'
         go_simp
        try simp only[Act.put,qj,qz,qv]
        refine wpAnyH_take (i:=1) (oi:={dst:=some 38,op:=_,type:=_,pos:=_,after:=_,guard:=_}) (v:= .bool false) rfl (by kernel_rfl) (by kernel_rfl) (by kernel_rfl) (fun _ _ _ h=>h) (Or.inl ⟨by rfl,?_⟩) hS ?_
        ·intro w' hw'
         go_simp
        try simp only[Act.put,qj,qz,qv]
        refine wpAnyH_take (i:=2) (oi:={dst:=some 39,op:=_,type:=_,pos:=_,after:=_,guard:=_}) (v:= .bool false) rfl (by kernel_rfl) (by kernel_rfl) (by kernel_rfl) (fun _ _ _ h=>h) (Or.inl ⟨by rfl,?_⟩) hS ?_
        ·intro w' hw'
         go_simp
        try simp only[Act.put,qj,qz,qv]
        refine wpAnyH_take (i:=3) (oi:={dst:=some 40,op:=_,type:=_,pos:=_,after:=_,guard:=_}) (v:= .pointer (some ⟨w.heap.size,0,none⟩)) rfl (by kernel_rfl) (by kernel_rfl) (by kernel_rfl) (fun _ _ _ h=>h) (Or.inl ⟨by rfl,?_⟩) hS ?_
        ·intro w' hw'
         go_simp
        try simp only[Act.put,qj,qz,qv]
        refine wpAnyH_take (i:=4) (oi:={dst:=some 41,op:=_,type:=_,pos:=_,after:=_,guard:=_}) (v:= .agg (p.grp.map b8).toArray) rfl (by kernel_rfl) (by kernel_rfl) (by kernel_rfl) (fun _ _ _ h=>h) (yieldsIf_load_mid (by rfl) 29 (.tmp 40) rfl w.heap.size 0 rfl (p.grp.map b8) _ (fun _ h=>h.1) hu rfl hi32) hS ?_
        try simp only[Act.put,qj,qz,qv]
        refine wpAnyH_take (i:=5) (oi:={dst:=some 42,op:=_,type:=_,pos:=_,after:=_,guard:=_}) (v:= .pointer (some ⟨gB,0,none⟩)) rfl (by kernel_rfl) (by kernel_rfl) (by kernel_rfl) (fun _ _ _ h=>h) (Or.inl ⟨by rfl,?_⟩) hS ?_
        ·intro w' hw'
         go_simp
        try simp only[Act.put,qj,qz,qv]
        refine wpAnyH_take (i:=6) (oi:={dst:=some 43,op:=_,type:=_,pos:=_,after:=_,guard:=_}) (v:= .pointer (some ⟨gB,0,none⟩)) rfl (by kernel_rfl) (by kernel_rfl) (by kernel_rfl) (fun _ _ _ h=>h) (Or.inl ⟨by rfl,?_⟩) hS ?_
        ·intro w' hw'
         go_simp
        try simp only[Act.put,qj,qz,qv]
        refine wpAnyH_take (i:=7) (oi:={dst:=some 44,op:=_,type:=_,pos:=_,after:=_,guard:=_}) (v:= .pointer (some ⟨gB,0,none⟩)) rfl (by kernel_rfl) (by kernel_rfl) (by kernel_rfl) (fun _ _ _ h=>h) (Or.inl ⟨by rfl,?_⟩) hS ?_
        ·intro w' hw'
         go_simp
        try simp only[Act.put,qj,qz,qv]
        refine wpAnyH_take (i:=8) (oi:={dst:=some 45,op:=_,type:=_,pos:=_,after:=_,guard:=_}) (v:= .agg (b.grp.map b8).toArray) rfl (by kernel_rfl) (by kernel_rfl) (by kernel_rfl) (fun _ _ _ h=>h) (yieldsIf_load_mid (by rfl) 29 (.tmp 44) rfl gB 0 rfl (b.grp.map b8) _ (fun _ h=>h.2) hu rfl hi33) hS ?_
        try simp only[Act.put,qj,qz,qv]
        refine wpAnyH_take (i:=9) (oi:={dst:=some 46,op:=_,type:=_,pos:=_,after:=_,guard:=_}) (v:= .bool false) rfl (by kernel_rfl) (by kernel_rfl) (by kernel_rfl) (fun _ _ _ h=>h) (Or.inl ⟨by rfl,?_⟩) hS ?_
        ·intro w' hw'
         go_simp
        try simp only[Act.put,qj,qz,qv]
        refine wpAnyH_take (i:=10) (oi:={dst:=some 47,op:=_,type:=_,pos:=_,after:=_,guard:=_}) (v:= .bool false) rfl (by kernel_rfl) (by kernel_rfl) (by kernel_rfl) (fun _ _ _ h=>h) (Or.inl ⟨by rfl,?_⟩) hS ?_
        ·intro w' hw'
         go_simp
        try simp only[Act.put,qj,qz,qv]
        refine wpAnyH_take (i:=11) (oi:={dst:=some 36,op:=_,type:=_,pos:=_,after:=_,guard:=_}) (v:= .bool false) rfl (by kernel_rfl) (by kernel_rfl) (by kernel_rfl) (fun _ _ _ h=>h) (Or.inl ⟨by rfl,?_⟩) hS ?_
        ·intro w' hw'
         go_simp
        try simp only[Act.put,qj,qz,qv]
        refine wpAnyH_done (by kernel_rfl) ?_ _
        refine NoPanic.normal ?_
        clear hS hneq hi32 hi33 hu
        have HB5:=qq HB4.out.drew
        have HX5:=qq (show Blk w4.drew w.heap.size 35 (packetC p.grp p.ep p.fr p.nu A n c)from HX4.out)
        have HBo5:=qq HBo4.out.drew
        generalize w4.drew=w5 at HB5 HX5 HBo5 ⊢
        obtain⟨d32,d33,d34,d35,-⟩:=PkBox.all5 HX5.out HG.out
        have c32:=HBo5.out.cell32
        rw[HV.out]at c32
        obtain⟨a0,a1,a2⟩:=HBo5.out.at_row HV.out hi
        rw[←HGC.out]at a0
        rw[←HLf.out]at a2
        clear a1
        go_wp2_with fail
        go_quiet (fail)
        have HB6:=qq (below_drewN HB5.out nq)
        have HX6:=qq (show Blk (w5.drewN nq) w.heap.size 35 (packetC p.grp p.ep p.fr p.nu A n c)from HX5.out)
        have HBo6:=qq (HBo5.out.drewN nq)
        have c32:=HBo6.out.cell32
        rw[HV.out]at c32
        obtain⟨a0,a1,a2⟩:=HBo6.out.at_row HV.out hi
        rw[←HGC.out]at a0
        clear a1 a2
        generalize w5.drewN nq=w6 at HB6 HX6 HBo6 c32 a0 ⊢
        obtain⟨d32,d33,d34,d35,-⟩:=PkBox.all5 HX6.out HG.out
        go_wp2_with fail
        refine(HLk.out _ HBo6.out).mono ?_
        rintro e w7 ⟨gk,ck,rfl,hgk,hok,hb7⟩
        have HB7:=qq (HB6.out.trans (hb7.mono HB6.out.size))
        have HX7:=qq (HX6.out.below hb7 (by have:=HB6.out.size;have:=HX6.out.lt;omega))
        have HOk:=qq hok
        have HCk:=qq (show 12≤ck by
         obtain⟨g9,c9,e9,-,-,h9⟩:=hok.form' HNl.out (by decide)
         injection e9 with _ _ e9;rw[e9];exact h9)
        have HZ7:=qq (show Blk (w7.alloc (.cells zeroOnce.toArray 56)) w7.heap.size 56 zeroOnce from Blk.new _ _ _)
        have hgkl:gk<w7.heap.size:=(hok.lt gk rfl).2
        clear hb7 hok hgk
        go_upto_region 15 with(refine wpList_store_piece rfl 56 (.tmp 10) (.tmp 77) rfl w7.heap.size 0 rfl (onceC p.nu O.key (.slice (some ⟨gk,0,none⟩) 12 ck)) rfl 56 _ [] zeroOnce [] HZ7.out (by simp) rfl (by rw[onceC_len _ _ _ HKl.out];rfl) (by rw[sizeOnce,onceC_len _ _ _ HKl.out]) (onceC_one _ _ _ _ _) ?_;intro w8 hx8 hg8)
        have hb8:Below w7.heap.size w7 w8:=((Below.refl _ w7).alloc (Nat.le_refl _) _).grown hg8 (by simp) (fun k e=>by cases e;exact Nat.le_refl _)
        have HB8:=qq (HB7.out.trans (hb8.mono HB7.out.size))
        have HO8:=qq (show Blk w8 w7.heap.size 56 (onceC p.nu O.key (.slice (some ⟨gk,0,none⟩) 12 ck))from hx8.cast (by simp))
        have HX8:=qq (HX7.out.below hb8 HX7.out.lt)
        have HNk:=qq (show Rd b8 w8 w7.heap.size (some ⟨gk,0,none⟩) O.nonce from(HOk.out.rd).below hb8)
        clear hx8 hg8 hb8 HOk
        have HS17:=qq (show∀W,Below w8.heap.size w8 W→W.rangeAt w7.heap.size 1 kv∧W.cell? ⟨w7.heap.size,33,none⟩=some (.slice (some ⟨gk,0,none⟩) 12 ck)∧W.rangeAt w.heap.size 0 pc∧W.cell? ⟨w.heap.size,35,none⟩=some (.slice A n c)from fun W hb=>by
         have h5:=HO8.out.below hb HO8.out.lt
         have h6:=h5.range 1 32
         rw[show((onceC p.nu O.key (.slice (some ⟨gk,0,none⟩) 12 ck)).drop 1).take 32=kv by unfold onceC;rw[HKv.out,List.drop_succ_cons,List.drop_zero,List.take_left' (by rw[List.length_map,HKl.out])]]at h6
         have h7:=HX8.out.below hb HX8.out.lt
         refine⟨h6,h5.cell 33 (onceC_33 _ _ _ HKl.out),by rw[HPc.out];exact h7.whole,PkBox.c35 h7 HG.out⟩)
        have hSr:w8.drew.rangeAt w7.heap.size 1 kv∧w8.drew.cell? ⟨w7.heap.size,33,none⟩=some (.slice (some ⟨gk,0,none⟩) 12 ck)∧w8.drew.rangeAt w.heap.size 0 pc∧w8.drew.cell? ⟨w.heap.size,35,none⟩=some (.slice A n c):=HS17.out _ (Below.refl _ w8).drew
        have hS:=hSr
        clear hSr
        have hu2:=Tryd.underlying54
        have hu3:=Tryd.underlying35
        go_upto_region 17 with fail
        refine wp_region_noPanic ?_
        refine wp_region_held_drew (S:=fun W=>W.rangeAt w7.heap.size 1 kv∧W.cell? ⟨w7.heap.size,33,none⟩=some (.slice (some ⟨gk,0,none⟩) 12 ck)∧W.rangeAt w.heap.size 0 pc∧W.cell? ⟨w.heap.size,35,none⟩=some (.slice A n c)) (by kernel_rfl) hS (fun hS=>?_)
        refine wpAnyH_take (i:=0) (oi:={dst:=some 83,op:=_,type:=_,pos:=_,after:=_,guard:=_}) (v:= .pointer (some ⟨w7.heap.size,1,none⟩)) rfl (by kernel_rfl) (by kernel_rfl) (by kernel_rfl) (fun _ _ _ h=>h) (Or.inl ⟨by rfl,?_⟩) hS ?_
        ·intro w' hw'
         obtain⟨-,s1,-,s3⟩:=hw'
         go_simp
        try simp only[Act.put,qj,qz,qv]
        refine wpAnyH_take (i:=1) (oi:={dst:=some 84,op:=_,type:=_,pos:=_,after:=_,guard:=_}) (v:= .agg kv.toArray) rfl (by kernel_rfl) (by kernel_rfl) (by kernel_rfl) (fun _ _ _ h=>h) (yieldsIf_load_mid (by rfl) 54 (.tmp 83) rfl w7.heap.size 1 rfl kv _ (fun _ h=>h.1) hu2 rfl hi2k) hS ?_
        try simp only[Act.put,qj,qz,qv]
        refine wpAnyH_take (i:=2) (oi:={dst:=some 85,op:=_,type:=_,pos:=_,after:=_,guard:=_}) (v:= .pointer (some ⟨w7.heap.size,33,none⟩)) rfl (by kernel_rfl) (by kernel_rfl) (by kernel_rfl) (fun _ _ _ h=>h) (Or.inl ⟨by rfl,?_⟩) hS ?_
        ·intro w' hw'
         obtain⟨-,s1,-,s3⟩:=hw'
         go_simp
        try simp only[Act.put,qj,qz,qv]
        refine wpAnyH_take (i:=3) (oi:={dst:=some 86,op:=_,type:=_,pos:=_,after:=_,guard:=_}) (v:= .slice (some ⟨gk,0,none⟩) 12 ck) rfl (by kernel_rfl) (by kernel_rfl) (by kernel_rfl) (fun _ _ _ h=>h) (Or.inl ⟨by rfl,?_⟩) hS ?_
        ·intro w' hw'
         obtain⟨-,s1,-,s3⟩:=hw'
         go_simp
        try simp only[Act.put,qj,qz,qv]
        refine wpAnyH_take (i:=4) (oi:={dst:=some 87,op:=_,type:=_,pos:=_,after:=_,guard:=_}) (v:= .agg pc.toArray) rfl (by kernel_rfl) (by kernel_rfl) (by kernel_rfl) (fun _ _ _ h=>h) (yieldsIf_load_mid (by rfl) 35 (.tmp 3) rfl w.heap.size 0 rfl pc _ (fun _ h=>h.2.2.1) hu3 rfl hi3p) hS ?_
        try simp only[Act.put,qj,qz,qv]
        refine wpAnyH_take (i:=6) (oi:={dst:=some 89,op:=_,type:=_,pos:=_,after:=_,guard:=_}) (v:= .pointer (some ⟨w.heap.size,35,none⟩)) rfl (by kernel_rfl) (by kernel_rfl) (by kernel_rfl) (fun _ _ _ h=>h) (Or.inl ⟨by rfl,?_⟩) hS ?_
        ·intro w' hw'
         obtain⟨-,s1,-,s3⟩:=hw'
         go_simp
        try simp only[Act.put,qj,qz,qv]
        refine wpAnyH_take (i:=7) (oi:={dst:=some 90,op:=_,type:=_,pos:=_,after:=_,guard:=_}) (v:= .slice A n c) rfl (by kernel_rfl) (by kernel_rfl) (by kernel_rfl) (fun _ _ _ h=>h) (Or.inl ⟨by rfl,?_⟩) hS ?_
        ·intro w' hw'
         obtain⟨-,s1,-,s3⟩:=hw'
         go_simp
        try simp only[Act.put,qj,qz,qv]
        refine wpAnyH_ready (rs:=[5]) (by kernel_rfl) (by simp) (AllReadyH.cons (o:={dst:=some 88,op:=_,type:=_,pos:=_,after:=_,guard:=_}) rfl (fun K' hK=>?_) AllReadyH.nil)
        go_simp
        go_at_call 16
        refine(HCt.out _).mono ?_
        rintro e wa ⟨va,rfl,hoa,hba⟩
        obtain⟨Aa,ca,rfl,hra,-,-,-⟩:=hoa.shape' HCl.out
        have HBa:=qq (show Below w8.heap.size w8 wa from(Below.refl w8.heap.size w8).drew.trans hba)
        have HRa:=qq hra
        clear hoa hba hra
        refine hK.out _ _ (HS17.out _ HBa.out) (fun hS=>?_)
        clear hK K'
        try simp only[Act.put,qj,qz,qv]
        have HOp:=qq (show Calls Tryd.prog 21 #[.agg kv.toArray,.slice (some ⟨gk,0,none⟩) 12 ck,.slice Aa 41 ca,.slice A n c] wa fun e w'=>∃v,e= .returned (.tuple #[v,errV E])∧Own b8 w' wa.heap.size 5 v (openV O.key O.nonce ctx p.sl)∧Below wa.heap.size wa w' by
         have h5:=open_any wa O.key HKl.out (some ⟨gk,0,none⟩) Aa A 12 ck 41 ca n c w7.heap.size wa.heap.size Bm O.nonce ctx p.sl (HNk.out.below (HBa.out.mono (by have:=HO8.out.lt;omega))) (by have:=HO8.out.lt;have:=HBa.out.size;omega) HNl.out HCk.out HRa.out (Nat.le_refl _) HCl.out (HR.out.below ((HB8.out.trans (HBa.out.mono HB8.out.size)).mono hBm)) (by have:=HB8.out.size;have:=HBa.out.size;omega) HN.out hnc (by simp only[maxLen];omega)
         rw[arrV_mk,←HKv.out,←HE0.out]at h5
         exact h5)
        by_cases hEz:E=0
        ·rw[hEz,errV_zero]at HOp
         have HEz:=qq hEz
         clear hEz
         refine wpAnyH_ready (rs:=[8]) (by kernel_rfl) (by simp) (AllReadyH.cons (o:={dst:=some 91,op:=_,type:=_,pos:=_,after:=_,guard:=_}) rfl (fun K' hK=>?_) AllReadyH.nil)
         go_simp
         go_at_call 21
         refine HOp.out.mono ?_
         rintro e wb ⟨vb,rfl,hob,hbb⟩
         have HBb:=qq (HBa.out.trans (hbb.mono HBa.out.size))
         have HOb:=qq (hob.less (show w8.heap.size≤wa.heap.size from HBa.out.size))
         clear hob hbb
         refine hK.out _ _ (HS17.out _ HBb.out) (fun hS=>?_)
         clear hK K'
         try simp only[Act.put,qj,qz,qv]
         refine wpAnyH_take (i:=9) (oi:={dst:=some 82,op:=_,type:=_,pos:=_,after:=_,guard:=_}) (v:= .tuple #[vb,.nilIface]) rfl (by kernel_rfl) (by kernel_rfl) (by kernel_rfl) (fun _ _ _ h=>h) (Or.inl ⟨by rfl,?_⟩) hS ?_
         ·intro w' hw'
          obtain⟨-,s1,-,s3⟩:=hw'
          go_simp
         try simp only[Act.put,qj,qz,qv]
         refine wpAnyH_take (i:=10) (oi:={dst:=some 92,op:=_,type:=_,pos:=_,after:=_,guard:=_}) (v:=vb) rfl (by kernel_rfl) (by kernel_rfl) (by kernel_rfl) (fun _ _ _ h=>h) (Or.inl ⟨by rfl,?_⟩) hS ?_
         ·intro w' hw'
          obtain⟨-,s1,-,s3⟩:=hw'
          go_simp
         try simp only[Act.put,qj,qz,qv]
         refine wpAnyH_take (i:=11) (oi:={dst:=some 93,op:=_,type:=_,pos:=_,after:=_,guard:=_}) (v:= .nilIface) rfl (by kernel_rfl) (by kernel_rfl) (by kernel_rfl) (fun _ _ _ h=>h) (Or.inl ⟨by rfl,?_⟩) hS ?_
         ·intro w' hw'
          obtain⟨-,s1,-,s3⟩:=hw'
          go_simp
         try simp only[Act.put,qj,qz,qv]
         refine wpAnyH_take (i:=12) (oi:={dst:=some 12,op:=_,type:=_,pos:=_,after:=_,guard:=_}) (v:=vb) rfl (by kernel_rfl) (by kernel_rfl) (by kernel_rfl) (fun _ _ _ h=>h) (Or.inl ⟨by rfl,?_⟩) hS ?_
         ·intro w' hw'
          obtain⟨-,s1,-,s3⟩:=hw'
          go_simp
         try simp only[Act.put,qj,qz,qv]
         refine wpAnyH_take (i:=13) (oi:={dst:=some 11,op:=_,type:=_,pos:=_,after:=_,guard:=_}) (v:= .nilIface) rfl (by kernel_rfl) (by kernel_rfl) (by kernel_rfl) (fun _ _ _ h=>h) (Or.inl ⟨by rfl,?_⟩) hS ?_
         ·intro w' hw'
          obtain⟨-,s1,-,s3⟩:=hw'
          go_simp
         try simp only[Act.put,qj,qz,qv]
         refine wpAnyH_done (by kernel_rfl) ?_ _
         refine NoPanic.normal ?_
         clear hS
         have HBw:=qq (HB8.out.trans (HBb.out.mono HB8.out.size))
         obtain⟨d32,d33,d34,d35,-⟩:=PkBox.all5 (show Blk wb w.heap.size 35 (packetC p.grp p.ep p.fr p.nu A n c)from HX8.out.below HBb.out HX8.out.lt) HG.out
         go_wp2_with fail
         refine(HTk.out _ (HH.out.below HBw.out)).mono ?_
         rintro e wt ⟨kt,b',rfl,hm',hB',hF',hf'⟩
         have HM':=qq hm'
         have HB':=qq hB'
         have HF':=qq hF'
         have Hf':=qq hf'
         clear hm' hB' hF' hf'
         go_wp2_with fail
         go_ret2
         refine⟨vb,by rw[HEz.out,errV_zero];rfl,?_,b',by rw[HM'.out,HMo.out HEz.out],HB'.out,?_,fun k hk=>?_,fun k hk hm9=>?_⟩
         ·have hw8:w.heap.size≤w8.heap.size:=HB8.out.size
          have h0:Own b8 wt w8.heap.size 5 vb (openV O.key O.nonce ctx p.sl):=row_same HOb.out (fun g9 hg9=>HF'.out.block g9 (HOb.out.lt g9 hg9).2 (fun hm9=>by
           have h5:=(HH.out.foot_lt _ (BX.efoot_sub gB b _ hm9)).2
           have h6:=(HOb.out.lt g9 hg9).1
           omega))
          exact h0.less hw8
         ·have hb:=HBw.out
          have hf:=HF'.out
          exact⟨hf.os.trans hb.os,hf.tape.trans hb.tape,hf.output.trans hb.output,Nat.le_trans hb.size hf.size,fun k hk hn=>(hf.block k (Nat.lt_of_lt_of_le hk hb.size) (fun hm9=>hn (BX.efoot_sub gB b k hm9))).trans (hb.block k hk)⟩
         ·exact(Hf'.out k hk).imp (fun h=>h) (fun h=>Nat.le_trans HBw.out.size h)
         ·have h6:=HOb.out.lt k hk
          have h8:=HB8.out.size
          rcases Hf'.out k hm9 with h5|h5
          ·have:=(HH.out.foot_lt k h5).2;omega
          ·omega
        ·rw[errV_pos hEz]at HOp
         have HEz:=qq hEz
         clear hEz
         refine wpAnyH_ready (rs:=[8]) (by kernel_rfl) (by simp) (AllReadyH.cons (o:={dst:=some 91,op:=_,type:=_,pos:=_,after:=_,guard:=_}) rfl (fun K' hK=>?_) AllReadyH.nil)
         go_simp
         go_at_call 21
         refine HOp.out.mono ?_
         rintro e wb ⟨vb,rfl,hob,hbb⟩
         have HBb:=qq (HBa.out.trans (hbb.mono HBa.out.size))
         have HOb:=qq (hob.less (show w8.heap.size≤wa.heap.size from HBa.out.size))
         clear hob hbb
         refine hK.out _ _ (HS17.out _ HBb.out) (fun hS=>?_)
         clear hK K'
         try simp only[Act.put,qj,qz,qv]
         refine wpAnyH_take (i:=9) (oi:={dst:=some 82,op:=_,type:=_,pos:=_,after:=_,guard:=_}) (v:= .tuple #[vb,.iface 41 (.int .i64 (E:Int))]) rfl (by kernel_rfl) (by kernel_rfl) (by kernel_rfl) (fun _ _ _ h=>h) (Or.inl ⟨by rfl,?_⟩) hS ?_
         ·intro w' hw'
          obtain⟨-,s1,-,s3⟩:=hw'
          go_simp
         try simp only[Act.put,qj,qz,qv]
         refine wpAnyH_take (i:=10) (oi:={dst:=some 92,op:=_,type:=_,pos:=_,after:=_,guard:=_}) (v:=vb) rfl (by kernel_rfl) (by kernel_rfl) (by kernel_rfl) (fun _ _ _ h=>h) (Or.inl ⟨by rfl,?_⟩) hS ?_
         ·intro w' hw'
          obtain⟨-,s1,-,s3⟩:=hw'
          go_simp
         try simp only[Act.put,qj,qz,qv]
         refine wpAnyH_take (i:=11) (oi:={dst:=some 93,op:=_,type:=_,pos:=_,after:=_,guard:=_}) (v:= .iface 41 (.int .i64 (E:Int))) rfl (by kernel_rfl) (by kernel_rfl) (by kernel_rfl) (fun _ _ _ h=>h) (Or.inl ⟨by rfl,?_⟩) hS ?_
         ·intro w' hw'
          obtain⟨-,s1,-,s3⟩:=hw'
          go_simp
         try simp only[Act.put,qj,qz,qv]
         refine wpAnyH_take (i:=12) (oi:={dst:=some 12,op:=_,type:=_,pos:=_,after:=_,guard:=_}) (v:=vb) rfl (by kernel_rfl) (by kernel_rfl) (by kernel_rfl) (fun _ _ _ h=>h) (Or.inl ⟨by rfl,?_⟩) hS ?_
         ·intro w' hw'
          obtain⟨-,s1,-,s3⟩:=hw'
          go_simp
         try simp only[Act.put,qj,qz,qv]
         refine wpAnyH_take (i:=13) (oi:={dst:=some 11,op:=_,type:=_,pos:=_,after:=_,guard:=_}) (v:= .iface 41 (.int .i64 (E:Int))) rfl (by kernel_rfl) (by kernel_rfl) (by kernel_rfl) (fun _ _ _ h=>h) (Or.inl ⟨by rfl,?_⟩) hS ?_
         ·intro w' hw'
          obtain⟨-,s1,-,s3⟩:=hw'
          go_simp
         try simp only[Act.put,qj,qz,qv]
         refine wpAnyH_done (by kernel_rfl) ?_ _
         refine NoPanic.normal ?_
         clear hS
         have HBw:=qq (HB8.out.trans (HBb.out.mono HB8.out.size))
         go_wp2_with fail
         go_ret2
         refine⟨.slice none 0 0,by rw[errV_pos HEz.out];rfl,?_,b,by rw[(HM.out HEz.out).1],HH.out.below HBw.out,(Frm.refl w _).below HBw.out (Nat.le_refl _),fun k hk=> .inl hk,fun k hk=>(by cases hk)⟩
         rw[show openV O.key O.nonce ctx p.sl=[] by unfold openV;rw[if_neg (by rw[←HE0.out];exact HEz.out)]]
         exact Own.nil_ _ _ _ _
     ·rw[if_pos hgq]at hE0
      subst hE0
      rw[(HM.out (by decide)).1,(HM.out (by decide)).2]
      have HQ:=qq (show(!(p.grp==b.grp))=true by simp[hgq])
      clear h h0 hn' hv hbg hgl hcc hv' hne hE hbd hm0 hbig hf hi hno hfirst hgr2 hgq
      go_enter Tryd.func8,Tryd.ntmps8
      go_upto_region 1 with fail
      rw[←HW1.out]
      go_wp2_with fail
      refine HL.out.mono ?_
      rintro e w2 ⟨rfl,q,hq⟩
      have HB2:=qq (HK1.out.trans ((drewN_below hq).mono (by omega)))
      have HX2:=qq (HBx1.out.below (drewN_below hq) (by omega))
      have hz2:=(drewN_below hq).size
      clear hq
      obtain⟨c32,c33,c34,c35,c0⟩:=PkBox.all5 HX2.out HG.out
      have HP:=qq (show Calls Tryd.prog 17 #[.agg (packetC p.grp p.ep p.fr p.nu A n c).toArray] w2 fun e w'=>∃(A3:Option Addr) (n3 c3:Nat),e= .returned (.tuple #[.slice A3 n3 c3,.nilIface])∧Below w2.heap.size w2 w' by
       have h5:=putPacket_any p.grp p.ep p.fr p.nu A n c Bm p.sl w2 HG.out e1 e2 f1 f2 n1 n2 (HR.out.below (HB2.out.mono hBm)) (by have:=HB2.out.size;omega) HN.out hn63
       rw[HBd.out]at h5
       refine h5.mono ?_
       rintro e w3 ⟨v,rfl,ho,hb⟩
       obtain⟨A3,c3,rfl,-⟩:=ho.shape
       exact⟨_,_,_,rfl,hb⟩)
      have c0w:=HX2.out.whole
      go_wp2_with (refine wpList_load_mid rfl 35 (.tmp 3) rfl w.heap.size 0 rfl (packetC p.grp p.ep p.fr p.nu A n c) _ c0w Tryd.underlying35 rfl (by rw[pkC_len HG.out];exact sizePk) ?_)
      refine HP.out.mono ?_
      rintro e w3 ⟨A3,n3,c3,rfl,hb3⟩
      have HB3:=qq (HB2.out.trans (hb3.mono HB2.out.size))
      have HX3:=qq (HX2.out.below hb3 (by omega))
      have hz3:=hb3.size
      clear hb3 c32 c33 c34 c35 c0 c0w
      obtain⟨d32,d33,d34,d35,-⟩:=PkBox.all5 HX3.out HG.out
      have HBo3:=qq (HH.out.below HB3.out)
      have c32:=HBo3.out.cell32
      rw[HV.out]at c32
      have HI:=qq (by have h5:=index_any HBo3.out w.heap.size p.ep (by omega) d32;rw[HV.out,HFi.out]at h5;exact h5)
      go_wp2_with fail
      refine HI.out.mono ?_
      rintro e w4 ⟨rfl,hb4⟩
      have HB4:=qq (HB3.out.trans (hb4.mono HB3.out.size))
      have HX4:=qq (HX3.out.below hb4 (by omega))
      have HBo4:=qq (HH.out.below HB4.out)
      clear hb4 d32 d33 d34 d35 c32
      have hr1:w4.drew.rangeAt w.heap.size 0 (p.grp.map b8):=PkBox.r0 HX4.out HG.out
      have hr2:w4.drew.rangeAt gB 0 (b.grp.map b8):=by
       have h5:=(HBo4.out.blk).range 0 32
       rwa[List.drop_zero,show b.cells.take 32=b.grp.map b8 by unfold BX.cells;rw[List.take_left' (by rw[List.length_map,HBo4.out.glen])]]at h5
      have hneq:∀w,(binOp .neq 29 (.agg (p.grp.map b8).toArray) (.agg (b.grp.map b8).toArray)).run Tryd.prog w= .ok (.bool true) w:=fun w=>by
       have h5:=run_neq_b8 w 29 5 32 Tryd.underlying29 Tryd.underlying5 (fun _=>by kernel_rfl) _ _ HG.out HBo4.out.glen
       rw[HQ.out]at h5;exact h5
      have hi32:(Tryd.prog.info? 29).map (·.size)=some (p.grp.map b8).length:=by rw[List.length_map,HG.out];exact infoSum
      have hi33:(Tryd.prog.info? 29).map (·.size)=some (b.grp.map b8).length:=by rw[List.length_map,HBo4.out.glen];exact infoSum
      have hu:=Tryd.underlying29
      have hS:w4.drew.rangeAt w.heap.size 0 (p.grp.map b8)∧w4.drew.rangeAt gB 0 (b.grp.map b8):=⟨hr1,hr2⟩
      clear hr1 hr2
      go_upto_region 9 with fail
      refine wp_region_noPanic ?_
      refine wp_region_held_drew (S:=fun w'=>w'.rangeAt w.heap.size 0 (p.grp.map b8)∧w'.rangeAt gB 0 (b.grp.map b8)) (by kernel_rfl) hS (fun hS=>?_)
      refine wpAnyH_take (i:=0) (oi:={dst:=some 37,op:=_,type:=_,pos:=_,after:=_,guard:=_}) (v:= .int .i64 (i:Int)) rfl (by kernel_rfl) (by kernel_rfl) (by kernel_rfl) (fun _ _ _ h=>h) (Or.inl ⟨by rfl,?_⟩) hS ?_
      ·intro w' hw'
       go_simp
      try simp only[Act.put,qj,qz,qv]
      refine wpAnyH_take (i:=1) (oi:={dst:=some 38,op:=_,type:=_,pos:=_,after:=_,guard:=_}) (v:= .bool false) rfl (by kernel_rfl) (by kernel_rfl) (by kernel_rfl) (fun _ _ _ h=>h) (Or.inl ⟨by rfl,?_⟩) hS ?_
      ·intro w' hw'
       go_simp
      try simp only[Act.put,qj,qz,qv]
      refine wpAnyH_take (i:=2) (oi:={dst:=some 39,op:=_,type:=_,pos:=_,after:=_,guard:=_}) (v:= .bool false) rfl (by kernel_rfl) (by kernel_rfl) (by kernel_rfl) (fun _ _ _ h=>h) (Or.inl ⟨by rfl,?_⟩) hS ?_
      ·intro w' hw'
       go_simp
      try simp only[Act.put,qj,qz,qv]
      refine wpAnyH_take (i:=3) (oi:={dst:=some 40,op:=_,type:=_,pos:=_,after:=_,guard:=_}) (v:= .pointer (some ⟨w.heap.size,0,none⟩)) rfl (by kernel_rfl) (by kernel_rfl) (by kernel_rfl) (fun _ _ _ h=>h) (Or.inl ⟨by rfl,?_⟩) hS ?_
      ·intro w' hw'
       go_simp
      try simp only[Act.put,qj,qz,qv]
      refine wpAnyH_take (i:=4) (oi:={dst:=some 41,op:=_,type:=_,pos:=_,after:=_,guard:=_}) (v:= .agg (p.grp.map b8).toArray) rfl (by kernel_rfl) (by kernel_rfl) (by kernel_rfl) (fun _ _ _ h=>h) (yieldsIf_load_mid (by rfl) 29 (.tmp 40) rfl w.heap.size 0 rfl (p.grp.map b8) _ (fun _ h=>h.1) hu rfl hi32) hS ?_
      try simp only[Act.put,qj,qz,qv]
      refine wpAnyH_take (i:=5) (oi:={dst:=some 42,op:=_,type:=_,pos:=_,after:=_,guard:=_}) (v:= .pointer (some ⟨gB,0,none⟩)) rfl (by kernel_rfl) (by kernel_rfl) (by kernel_rfl) (fun _ _ _ h=>h) (Or.inl ⟨by rfl,?_⟩) hS ?_
      ·intro w' hw'
       go_simp
      try simp only[Act.put,qj,qz,qv]
      refine wpAnyH_take (i:=6) (oi:={dst:=some 43,op:=_,type:=_,pos:=_,after:=_,guard:=_}) (v:= .pointer (some ⟨gB,0,none⟩)) rfl (by kernel_rfl) (by kernel_rfl) (by kernel_rfl) (fun _ _ _ h=>h) (Or.inl ⟨by rfl,?_⟩) hS ?_
      ·intro w' hw'
       go_simp
      try simp only[Act.put,qj,qz,qv]
      refine wpAnyH_take (i:=7) (oi:={dst:=some 44,op:=_,type:=_,pos:=_,after:=_,guard:=_}) (v:= .pointer (some ⟨gB,0,none⟩)) rfl (by kernel_rfl) (by kernel_rfl) (by kernel_rfl) (fun _ _ _ h=>h) (Or.inl ⟨by rfl,?_⟩) hS ?_
      ·intro w' hw'
       go_simp
      try simp only[Act.put,qj,qz,qv]
      refine wpAnyH_take (i:=8) (oi:={dst:=some 45,op:=_,type:=_,pos:=_,after:=_,guard:=_}) (v:= .agg (b.grp.map b8).toArray) rfl (by kernel_rfl) (by kernel_rfl) (by kernel_rfl) (fun _ _ _ h=>h) (yieldsIf_load_mid (by rfl) 29 (.tmp 44) rfl gB 0 rfl (b.grp.map b8) _ (fun _ h=>h.2) hu rfl hi33) hS ?_
      try simp only[Act.put,qj,qz,qv]
      refine wpAnyH_take (i:=9) (oi:={dst:=some 46,op:=_,type:=_,pos:=_,after:=_,guard:=_}) (v:= .bool true) rfl (by kernel_rfl) (by kernel_rfl) (by kernel_rfl) (fun _ _ _ h=>h) (Or.inl ⟨by rfl,?_⟩) hS ?_
      ·intro w' hw'
       go_simp
      try simp only[Act.put,qj,qz,qv]
      refine wpAnyH_take (i:=10) (oi:={dst:=some 47,op:=_,type:=_,pos:=_,after:=_,guard:=_}) (v:= .bool true) rfl (by kernel_rfl) (by kernel_rfl) (by kernel_rfl) (fun _ _ _ h=>h) (Or.inl ⟨by rfl,?_⟩) hS ?_
      ·intro w' hw'
       go_simp
      try simp only[Act.put,qj,qz,qv]
      refine wpAnyH_take (i:=11) (oi:={dst:=some 36,op:=_,type:=_,pos:=_,after:=_,guard:=_}) (v:= .bool true) rfl (by kernel_rfl) (by kernel_rfl) (by kernel_rfl) (fun _ _ _ h=>h) (Or.inl ⟨by rfl,?_⟩) hS ?_
      ·intro w' hw'
       go_simp
      try simp only[Act.put,qj,qz,qv]
      refine wpAnyH_done (by kernel_rfl) ?_ _
      refine NoPanic.normal ?_
      clear hS hneq hi32 hi33 hu
      go_wp2_with fail
      go_ret2
      exact⟨_,rfl,Own.nil_ _ _ _ _,b,rfl,HH.out.below HB4.out.drew,(Frm.refl w _).below HB4.out.drew (Nat.le_refl _),fun k hk=> .inl hk,fun k hk=>(by cases hk)⟩
end Go.Proofs.YtelgjaiknaalkaaDoor
