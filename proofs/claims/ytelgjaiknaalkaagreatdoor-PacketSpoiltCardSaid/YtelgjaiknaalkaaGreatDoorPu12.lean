/- Lemmas. -/
import Derived.Test.YtelgjaiknaalkaaGreatDoorPu11
open Go.Proofs.Tryz
open List renaming setIfInBounds_toArray → qj
open List renaming set_cons_zero → qz
open List renaming set_cons_succ → qv
open List renaming getElem?_map → Jn, getElem?_eq_getElem → QT, getElem_mem → Q5, drop_zero → J0, take_left' → Zc, length_map → QN
open Nat renaming le_refl → QI, le_trans → QX
open Go.Act renaming put → QJ
open Go.NoPanic renaming normal → Q4
open Go.Region renaming wanted → Jv
set_option linter.unusedVariables false
set_option linter.unusedSimpArgs false
namespace Go.Proofs.YtelgjaiknaalkaaGreatDoor
section
open Go.RowKit
set_option maxRecDepth 100000
def Qd(es:List EM)(i:Nat):Nat:=match es[i]? with
 |none=>0
 |some e=>e.leaf
def jI(b:BM)(p:PM):Nat:=
 if b.es=[]then 10 else if zU p.ep p.fr p.nu p.sl.length=true then 3 else if 1040<p.sl.length then 1 else
 match vw b.es p.ep with
 |none=>6
 |some i=>if p.grp≠b.grp then 6 else if p.fr=(Qd b.es i:Int)then 9 else
  match zT b.es i p.fr.toNat with
  |none=>9
  |some l=>if qQ l p.nu≠0 then qQ l p.nu else jV (qS l p.nu).key (qS l p.nu).nonce (vF p.grp p.ep p.fr p.nu) p.sl
def yh(b:BM)(p:PM):Option (Nat×jo):=(vw b.es p.ep).bind fun i=>(zT b.es i p.fr.toNat).map fun l=>(i,l)
def ue(b:BM)(p:PM):qf:=match yh b p with
 |none=> []
 |some (_,l)=>if jI b p=0 then j3 (qS l p.nu).key (qS l p.nu).nonce (vF p.grp p.ep p.fr p.nu) p.sl else[]
def uf(b:BM)(p:PM):BM:=match yh b p with
 |none=>b
 |some (i,l)=>if jI b p=0 then⟨b.grp,zD b.es i p.fr.toNat (jR l p.nu),b.clr⟩else b
theorem zK{b:BM}{p:PM}(h:jI b p≠0):uf b p=b:=by
 unfold uf;split
 ·rfl
 ·rw[if_neg h]
theorem vp{b:BM}{p:PM}(h:jI b p≠0):ue b p=[]:=by
 unfold ue;split
 ·rfl
 ·rw[if_neg h]
theorem qge{b:BX}{i j:Nat}(hi:i<b.es.length)(hj:¬j<b.es[i].xs.length):zT b.m.es i j=none:=by
 unfold zT BX.m;simp only[Jn,QT hi,Option.map_some,Option.bind_some,EP.m];rw[List.getElem?_eq_none (by omega)];rfl
theorem qll{b:BX}{i:Nat}(hi:i<b.es.length):Qd b.m.es i=b.es[i].leaf:=by
 unfold Qd BX.m;simp only[Jn,QT hi,Option.map_some,EP.m]
theorem qoS(w:World)(v:Value)(grp:qf)(ep fr nu:Int)(A:Option Addr)(n c:Nat):Calls prog 13 #[.pointer none,.agg (qq grp ep fr nu A n c).toArray] w fun e w'=>e= .returned (.tuple #[.slice none 0 0,zG 10])∧Below w.heap.size w w':=by
 have HL:=qe (fun w=>qmz w);go_enter func13,ntmps13
 go_wp2_with fail
 refine(HL.1 _).mono ?_;rintro e w1 ⟨rfl,q,hq⟩;have HB1:=qe ((((Below.refl _ w).alloc (QI _) (.cells (qq grp ep fr nu A n c).toArray 41))).trans ((qN hq).mono (by simp)));clear hq;go_wp2_with fail
 go_ret2;exact⟨rfl,HB1.1⟩
set_option maxHeartbeats 8000000 in
theorem qi7{w:World}{base gB:Nat}{b:BX}(h:qI w base gB b)(p:PM)(hg:p.grp.length=32)(A:Option Addr)(n c Bm:Nat)(hr:Rd b8 w Bm A p.sl)(hBm:Bm≤w.heap.size)(hn:p.sl.length=n)(hnc:n≤c)(hn63:n<9223372036854775808)
 (e1: -9223372036854775808≤p.ep)(e2:p.ep<9223372036854775808)(f1: -9223372036854775808≤p.fr)(f2:p.fr<9223372036854775808)(n1: -9223372036854775808≤p.nu)(n2:p.nu<9223372036854775808):
 Calls prog 13 #[.pointer (some ⟨gB,0,none⟩),.agg (qq p.grp p.ep p.fr p.nu A n c).toArray] w fun e w'=>∃v,e= .returned (.tuple #[v,zG (jI b.m p)])∧Own b8 w' w.heap.size 5 v (ue b.m p)∧
  ∃b',b'.m=uf b.m p∧qI w' base gB b'∧Frm w w' (BX.foot gB b)∧(∀k∈BX.foot gB b',k∈BX.foot gB b∨w.heap.size≤k)∧∀k,v.ownBlock=some k→k∉BX.foot gB b':=by
 obtain⟨w1,hw1⟩:∃w1,w1=w.alloc (.cells (qq p.grp p.ep p.fr p.nu A n c).toArray 41):=⟨_,rfl⟩;have HBx1:=qe (show Blk w1 w.heap.size 41 (qq p.grp p.ep p.fr p.nu A n c) by rw[hw1];exact Blk.new _ _ _);have HK1:=qe (show Below w.heap.size w w1 by rw[hw1];exact(Below.refl _ w).alloc (QI _) _);have hz1:w1.heap.size=w.heap.size+1:=by rw[hw1];simp
 have HB1:=qe (h.below HK1.1);have HW1:=qe hw1;have HH:=qe h;have HG:=qe hg;have HR:=qe hr;have HN:=qe hn;obtain⟨E,hE⟩:∃E,E=jI b.m p:=⟨_,rfl⟩;have hE0:=hE;unfold jI at hE0;clear hw1 hg hr hn;have HM:=qe (show E≠0→uf b.m p=b.m∧ue b.m p=[]from fun h5=>⟨zK (by rw[←hE];exact h5),vp (by rw[←hE];exact h5)⟩);rw[←hE];rcases Nat.eq_zero_or_pos b.es.length with h0|h0
 ·have he:b.es=[]:=List.eq_nil_of_length_eq_zero h0
  rw[if_pos (qa6.2 he)]at hE0;subst hE0;rw[(HM.1 (by decide)).1,(HM.1 (by decide)).2];have HL:=qe (qbF HB1.1 he);clear h h0 he hE;go_enter func13,ntmps13
  go_upto_region 1 with fail
  rw[←HW1.1];go_wp2_with fail
  refine HL.1.mono ?_;rintro e w2 ⟨rfl,q,hq⟩;have HB2:=qe (HK1.1.trans ((qN hq).mono (by omega)));have HX2:=qe (HBx1.1.below (qN hq) (by omega));have hz2:=(qN hq).size;clear hq;go_wp2_with fail
  go_ret2;exact⟨_,rfl,Own.nil_ _ _ _ _,b,rfl,HH.1.below HB2.1,(Frm.refl w _).below HB2.1 (QI _),fun k hk=> .inl hk,fun k hk=>(by cases hk)⟩
 ·obtain⟨n',hn'⟩:∃n,b.es.length=n+1:=⟨b.es.length-1,by omega⟩
  obtain⟨g,c',hv,hbg,hgl,hcc⟩:=HB1.1.v_some h0;have hv':=hv;rw[hn']at hv';have HL:=qe (qcE HB1.1 hn' hv');have hne:b.es≠ []:=fun e=>by rw[e]at h0;simp at h0
  rw[if_neg (by rw[qa6];exact hne),HN.1]at hE0;cases hbd:zU p.ep p.fr p.nu n with
  |true=>
   rw[hbd,if_pos rfl]at hE0;subst hE0;rw[(HM.1 (by decide)).1,(HM.1 (by decide)).2];have HBd:=qe hbd;clear h h0 hn' hv hbg hgl hcc hv' hne hE hbd;go_enter func13,ntmps13
   go_upto_region 1 with fail
   rw[←HW1.1];go_wp2_with fail
   refine HL.1.mono ?_;rintro e w2 ⟨rfl,q,hq⟩;have HB2:=qe (HK1.1.trans ((qN hq).mono (by omega)));have HX2:=qe (HBx1.1.below (qN hq) (by omega));have hz2:=(qN hq).size;clear hq;obtain⟨c32,c33,c34,c35,c0⟩:=qZ.all5 HX2.1 HG.1;have HP:=qe (show Calls prog 37 #[.agg (qq p.grp p.ep p.fr p.nu A n c).toArray] w2 fun e w'=>∃(A3:Option Addr) (n3 c3:Nat),e= .returned (.tuple #[.slice A3 n3 c3,.iface 69 (.int .i64 3)])∧Below w2.heap.size w2 w' by
    have h5:=zp p.grp p.ep p.fr p.nu A n c Bm p.sl w2 HG.1 e1 e2 f1 f2 n1 n2 (HR.1.below (HB2.1.mono hBm)) (by have:=HB2.1.size;omega) HN.1 hn63;rw[HBd.1]at h5;refine h5.mono ?_;rintro e w3 ⟨v,rfl,ho,hb⟩;obtain⟨A3,c3,rfl,-⟩:=ho.shape;exact⟨_,_,_,rfl,hb⟩)
   have c0w:=HX2.1.whole;go_wp2_with (refine wpList_load_mid rfl 41 (.tmp 3) rfl w.heap.size 0 rfl (qq p.grp p.ep p.fr p.nu A n c) _ c0w underlying41 rfl (by rw[j1 HG.1];exact jC) ?_)
   refine HP.1.mono ?_;rintro e w3 ⟨A3,n3,c3,rfl,hb3⟩;have HB3:=qe (HB2.1.trans (hb3.mono HB2.1.size));have HX3:=qe (HX2.1.below hb3 (by omega));have hz3:=hb3.size;clear hb3 c32 c33 c34 c35 c0 c0w;go_wp2_with fail
   go_ret2;exact⟨_,rfl,Own.nil_ _ _ _ _,b,rfl,HH.1.below HB3.1,(Frm.refl w _).below HB3.1 (QI _),fun k hk=> .inl hk,fun k hk=>(by cases hk)⟩
  |false=>
   rw[hbd,if_neg (by decide)]at hE0;have HBd:=qe hbd;have HV:=qe hv';obtain⟨m0,hm0⟩:∃m0,m0=n'+1:=⟨_,rfl⟩;rw[←hm0]at HV;by_cases hbig:1040<n
   ·rw[if_pos hbig]at hE0
    subst hE0;rw[(HM.1 (by decide)).1,(HM.1 (by decide)).2];have hbig2:(n:Int)>1040:=by omega
    clear h h0 hn' hv hbg hgl hcc hv' hne hE hbd hm0 hbig;go_enter func13,ntmps13
    go_upto_region 1 with fail
    rw[←HW1.1];go_wp2_with fail
    refine HL.1.mono ?_;rintro e w2 ⟨rfl,q,hq⟩;have HB2:=qe (HK1.1.trans ((qN hq).mono (by omega)));have HX2:=qe (HBx1.1.below (qN hq) (by omega));have hz2:=(qN hq).size;clear hq;obtain⟨c32,c33,c34,c35,c0⟩:=qZ.all5 HX2.1 HG.1;have HP:=qe (show Calls prog 37 #[.agg (qq p.grp p.ep p.fr p.nu A n c).toArray] w2 fun e w'=>∃(A3:Option Addr) (n3 c3:Nat),e= .returned (.tuple #[.slice A3 n3 c3,.nilIface])∧Below w2.heap.size w2 w' by
     have h5:=zp p.grp p.ep p.fr p.nu A n c Bm p.sl w2 HG.1 e1 e2 f1 f2 n1 n2 (HR.1.below (HB2.1.mono hBm)) (by have:=HB2.1.size;omega) HN.1 hn63;rw[HBd.1]at h5;refine h5.mono ?_;rintro e w3 ⟨v,rfl,ho,hb⟩;obtain⟨A3,c3,rfl,-⟩:=ho.shape;exact⟨_,_,_,rfl,hb⟩)
    have c0w:=HX2.1.whole;go_wp2_with (refine wpList_load_mid rfl 41 (.tmp 3) rfl w.heap.size 0 rfl (qq p.grp p.ep p.fr p.nu A n c) _ c0w underlying41 rfl (by rw[j1 HG.1];exact jC) ?_)
    refine HP.1.mono ?_;rintro e w3 ⟨A3,n3,c3,rfl,hb3⟩;have HB3:=qe (HB2.1.trans (hb3.mono HB2.1.size));have HX3:=qe (HX2.1.below hb3 (by omega));have hz3:=hb3.size;clear hb3 c32 c33 c34 c35 c0 c0w;obtain⟨d32,d33,d34,d35,-⟩:=qZ.all5 HX3.1 HG.1;have HBo3:=qe (HH.1.below HB3.1);have c32:=HBo3.1.cell32;rw[HV.1]at c32;go_wp2_with fail
    go_ret2;exact⟨_,rfl,Own.nil_ _ _ _ _,b,rfl,HH.1.below HB3.1,(Frm.refl w _).below HB3.1 (QI _),fun k hk=> .inl hk,fun k hk=>(by cases hk)⟩
   ·rw[if_neg hbig]at hE0
    have hbig2:¬((n:Int)>1040):=by omega
    cases hf:vw b.m.es p.ep with
    |none=>
     rw[hf]at hE0;dsimp only at hE0;subst hE0;rw[(HM.1 (by decide)).1,(HM.1 (by decide)).2];have HFi:=qe (show uC b.m.es p.ep= -1 by unfold uC;rw[hf]);clear h h0 hn' hv hbg hgl hcc hv' hne hE hbd hm0 hbig hf;go_enter func13,ntmps13
     go_upto_region 1 with fail
     rw[←HW1.1];go_wp2_with fail
     refine HL.1.mono ?_;rintro e w2 ⟨rfl,q,hq⟩;have HB2:=qe (HK1.1.trans ((qN hq).mono (by omega)));have HX2:=qe (HBx1.1.below (qN hq) (by omega));have hz2:=(qN hq).size;clear hq;obtain⟨c32,c33,c34,c35,c0⟩:=qZ.all5 HX2.1 HG.1;have HP:=qe (show Calls prog 37 #[.agg (qq p.grp p.ep p.fr p.nu A n c).toArray] w2 fun e w'=>∃(A3:Option Addr) (n3 c3:Nat),e= .returned (.tuple #[.slice A3 n3 c3,.nilIface])∧Below w2.heap.size w2 w' by
      have h5:=zp p.grp p.ep p.fr p.nu A n c Bm p.sl w2 HG.1 e1 e2 f1 f2 n1 n2 (HR.1.below (HB2.1.mono hBm)) (by have:=HB2.1.size;omega) HN.1 hn63;rw[HBd.1]at h5;refine h5.mono ?_;rintro e w3 ⟨v,rfl,ho,hb⟩;obtain⟨A3,c3,rfl,-⟩:=ho.shape;exact⟨_,_,_,rfl,hb⟩)
     have c0w:=HX2.1.whole;go_wp2_with (refine wpList_load_mid rfl 41 (.tmp 3) rfl w.heap.size 0 rfl (qq p.grp p.ep p.fr p.nu A n c) _ c0w underlying41 rfl (by rw[j1 HG.1];exact jC) ?_)
     refine HP.1.mono ?_;rintro e w3 ⟨A3,n3,c3,rfl,hb3⟩;have HB3:=qe (HB2.1.trans (hb3.mono HB2.1.size));have HX3:=qe (HX2.1.below hb3 (by omega));have hz3:=hb3.size;clear hb3 c32 c33 c34 c35 c0 c0w;obtain⟨d32,d33,d34,d35,-⟩:=qZ.all5 HX3.1 HG.1;have HBo3:=qe (HH.1.below HB3.1);have c32:=HBo3.1.cell32;rw[HV.1]at c32;have HI:=qe (by have h5:=qaC HBo3.1 w.heap.size p.ep (by omega) d32;rw[HV.1,HFi.1]at h5;exact h5)
     go_wp2_with fail
     refine HI.1.mono ?_;rintro e w4 ⟨rfl,hb4⟩;have HB4:=qe (HB3.1.trans (hb4.mono HB3.1.size));have HX4:=qe (HX3.1.below hb4 (by omega));have HBo4:=qe (HH.1.below HB4.1);clear hb4 d32 d33 d34 d35 c32;go_wp2_with fail
     go_quiet (fail)
     have HB5:=qe (je HB4.1 nq);generalize w4.drewN nq=w5 at HB5 ⊢;go_wp2_with fail
     go_ret2;exact⟨_,rfl,Own.nil_ _ _ _ _,b,rfl,HH.1.below HB5.1,(Frm.refl w _).below HB5.1 (QI _),fun k hk=> .inl hk,fun k hk=>(by cases hk)⟩
    |some i=>
     rw[hf]at hE0;dsimp only at hE0;obtain⟨hi,hno,hfirst⟩:=qbK hf;have HFi:=qe (show uC b.m.es p.ep=(i:Int) by unfold uC;rw[hf]);have hgr2:b.m.grp=b.grp:=rfl;rw[hgr2,qll hi]at hE0;by_cases hgq:p.grp=b.grp
     ·rw[if_neg (by simp[hgq])]at hE0
      have HQ:=qe (show(!(p.grp==b.grp))=false by simp[hgq]);have hb:=h.bnd _ (Q5 hi);obtain⟨lf,hlf⟩:∃lf,lf=b.es[i].leaf:=⟨_,rfl⟩;obtain⟨gC,hgC⟩:∃gC,gC=b.es[i].gC:=⟨_,rfl⟩;rw[←hlf]at hE0;have HLf:=qe hlf;have HGC:=qe hgC;have hi0:(0:Int)≤(i:Int):=by omega
      have hi1:(i:Int)<(m0:Int):=by omega
      have hi2:i<m0:=by omega
      by_cases hfl:p.fr=(lf:Int)
      ·rw[if_pos hfl]at hE0
       subst hE0;rw[(HM.1 (by decide)).1,(HM.1 (by decide)).2];have hbe:(p.fr==(lf:Int))=true:=by simp[hfl]
       clear h h0 hn' hv hbg hgl hcc hv' hne hE hbd hm0 hbig hf hno hfirst hgr2 hgq hb hlf hgC hfl;go_enter func13,ntmps13
       go_upto_region 1 with fail
       rw[←HW1.1];go_wp2_with fail
       refine HL.1.mono ?_;rintro e w2 ⟨rfl,q,hq⟩;have HB2:=qe (HK1.1.trans ((qN hq).mono (by omega)));have HX2:=qe (HBx1.1.below (qN hq) (by omega));have hz2:=(qN hq).size;clear hq;obtain⟨c32,c33,c34,c35,c0⟩:=qZ.all5 HX2.1 HG.1;have HP:=qe (show Calls prog 37 #[.agg (qq p.grp p.ep p.fr p.nu A n c).toArray] w2 fun e w'=>∃(A3:Option Addr) (n3 c3:Nat),e= .returned (.tuple #[.slice A3 n3 c3,.nilIface])∧Below w2.heap.size w2 w' by
        have h5:=zp p.grp p.ep p.fr p.nu A n c Bm p.sl w2 HG.1 e1 e2 f1 f2 n1 n2 (HR.1.below (HB2.1.mono hBm)) (by have:=HB2.1.size;omega) HN.1 hn63;rw[HBd.1]at h5;refine h5.mono ?_;rintro e w3 ⟨v,rfl,ho,hb⟩;obtain⟨A3,c3,rfl,-⟩:=ho.shape;exact⟨_,_,_,rfl,hb⟩)
       have c0w:=HX2.1.whole;go_wp2_with (refine wpList_load_mid rfl 41 (.tmp 3) rfl w.heap.size 0 rfl (qq p.grp p.ep p.fr p.nu A n c) _ c0w underlying41 rfl (by rw[j1 HG.1];exact jC) ?_)
       refine HP.1.mono ?_;rintro e w3 ⟨A3,n3,c3,rfl,hb3⟩;have HB3:=qe (HB2.1.trans (hb3.mono HB2.1.size));have HX3:=qe (HX2.1.below hb3 (by omega));have hz3:=hb3.size;clear hb3 c32 c33 c34 c35 c0 c0w;obtain⟨d32,d33,d34,d35,-⟩:=qZ.all5 HX3.1 HG.1;have HBo3:=qe (HH.1.below HB3.1);have c32:=HBo3.1.cell32;rw[HV.1]at c32;have HI:=qe (by have h5:=qaC HBo3.1 w.heap.size p.ep (by omega) d32;rw[HV.1,HFi.1]at h5;exact h5)
       go_wp2_with fail
       refine HI.1.mono ?_;rintro e w4 ⟨rfl,hb4⟩;have HB4:=qe (HB3.1.trans (hb4.mono HB3.1.size));have HX4:=qe (HX3.1.below hb4 (by omega));have HBo4:=qe (HH.1.below HB4.1);clear hb4 d32 d33 d34 d35 c32;have hr1:w4.drew.rangeAt w.heap.size 0 (p.grp.map b8):=qZ.r0 HX4.1 HG.1;have hr2:w4.drew.rangeAt gB 0 (b.grp.map b8):=by
        have h5:=(HBo4.1.blk).range 0 32;rwa[J0,show b.cells.take 32=b.grp.map b8 by unfold BX.cells;rw[Zc (by rw[QN,HBo4.1.glen])]]at h5
       have hneq:∀w,(binOp .neq 23 (.agg (p.grp.map b8).toArray) (.agg (b.grp.map b8).toArray)).run prog w= .ok (.bool false) w:=fun w=>by
        have h5:=kz w 23 5 32 underlying23 underlying5 (fun _=>by kernel_rfl) _ _ HG.1 HBo4.1.glen;rw[HQ.1]at h5;exact h5
       have hi32:(prog.info? 23).map (·.size)=some (p.grp.map b8).length:=by rw[QN,HG.1];exact jy
       have hi33:(prog.info? 23).map (·.size)=some (b.grp.map b8).length:=by rw[QN,HBo4.1.glen];exact jy
       have hu:=underlying23;have hS:w4.drew.rangeAt w.heap.size 0 (p.grp.map b8)∧w4.drew.rangeAt gB 0 (b.grp.map b8):=⟨hr1,hr2⟩;clear hr1 hr2;go_upto_region 9 with fail
       refine wp_region_noPanic ?_;refine wp_region_held_drew (S:=fun w'=>w'.rangeAt w.heap.size 0 (p.grp.map b8)∧w'.rangeAt gB 0 (b.grp.map b8)) (by kernel_rfl) hS (fun hS=>?_);refine tkA 0 (.int .i64 (i:Int)) hS ?_;refine tkA 1 (.bool false) hS ?_;refine tkA 2 (.bool false) hS ?_;try simp only[QJ,qj,qz,qv]
       refine tkA 3 (.pointer (some ⟨w.heap.size,0,none⟩)) hS ?_;refine tkK 4 (.agg (p.grp.map b8).toArray) rfl rfl (yieldsIf_load_mid (by rfl) 23 (.tmp 40) rfl w.heap.size 0 rfl (p.grp.map b8) _ (fun _ h=>h.1) hu rfl hi32) hS ?_;refine tkA 5 (.pointer (some ⟨gB,0,none⟩)) hS ?_;try simp only[QJ,qj,qz,qv]
       refine tkA 6 (.pointer (some ⟨gB,0,none⟩)) hS ?_;refine tkA 7 (.pointer (some ⟨gB,0,none⟩)) hS ?_;refine tkK 8 (.agg (b.grp.map b8).toArray) rfl rfl (yieldsIf_load_mid (by rfl) 23 (.tmp 44) rfl gB 0 rfl (b.grp.map b8) _ (fun _ h=>h.2) hu rfl hi33) hS ?_;try simp only[QJ,qj,qz,qv]
       refine tkA 9 (.bool false) hS ?_;refine tkA 10 (.bool false) hS ?_;refine tkA 11 (.bool false) hS ?_;try simp only[QJ,qj,qz,qv]
       refine wpAnyH_done (by kernel_rfl) ?_ _;refine Q4 ?_;clear hS hneq hi32 hi33 hu;have HB5:=qe HB4.1.drew;have HX5:=qe (show Blk w4.drew w.heap.size 41 (qq p.grp p.ep p.fr p.nu A n c)from HX4.1);have HBo5:=qe HBo4.1.drew;generalize w4.drew=w5 at HB5 HX5 HBo5 ⊢;obtain⟨d32,d33,d34,d35,-⟩:=qZ.all5 HX5.1 HG.1;have c32:=HBo5.1.cell32;rw[HV.1]at c32;obtain⟨a0,a1,a2⟩:=HBo5.1.at_row HV.1 hi
       rw[←HGC.1]at a0;rw[←HLf.1]at a2;clear a1;go_wp2_with fail
       go_quiet (fail)
       have HB6:=qe (je HB5.1 nq);have HX6:=qe (show Blk (w5.drewN nq) w.heap.size 41 (qq p.grp p.ep p.fr p.nu A n c)from HX5.1);have HBo6:=qe (HBo5.1.drewN nq);have c32:=HBo6.1.cell32;rw[HV.1]at c32;obtain⟨a0,a1,a2⟩:=HBo6.1.at_row HV.1 hi;rw[←HGC.1]at a0;clear a1 a2;generalize w5.drewN nq=w6 at HB6 HX6 HBo6 c32 a0 ⊢;obtain⟨d32,d33,d34,d35,-⟩:=qZ.all5 HX6.1 HG.1;go_wp2_with fail
       go_ret2;exact⟨_,rfl,Own.nil_ _ _ _ _,b,rfl,HH.1.below HB6.1,(Frm.refl w _).below HB6.1 (QI _),fun k hk=> .inl hk,fun k hk=>(by cases hk)⟩
      ·rw[if_neg hfl]at hE0
       have hbe:(p.fr==(lf:Int))=false:=by simp[hfl]
       obtain⟨f,hff⟩:∃f:Nat,p.fr=(f:Int):=by
        have h5:=HBd.1;unfold zU at h5;simp only[Bool.or_eq_false_iff]at h5;have h6:=h5.1.1.1.2;unfold jk at h6;simp at h6;exact⟨p.fr.toNat,by omega⟩
       have hft:p.fr.toNat=f:=by omega
       rw[hft]at hE0;have HFf:=qe hff;have hlook:(E≠0∧∀W,qI W base gB b→Calls prog 40 #[.pointer (some ⟨gC,0,none⟩),.int .i64 p.fr,.int .i64 p.nu] W fun e w'=>e= .returned (.tuple #[.agg qg.toArray,.iface 69 (.int .i64 (E:Int))])∧Below W.heap.size W w')∨
        (∃hj:f<b.es[i].xs.length,qQ b.es[i].xs[f].l p.nu=0):=by
        by_cases hj:f<b.es[i].xs.length
        ·rw[qfT hi hj]at hE0
         dsimp only at hE0;by_cases ht:qQ b.es[i].xs[f].l p.nu=0
         ·exact .inr ⟨hj,ht⟩
         ·rw[if_pos ht]at hE0
          refine .inl ⟨by rw[hE0];exact ht,fun W hW=>?_⟩;have h5:=qmn W _ _ _ (hW.ch _ (Q5 hi)) f hj (by omega) p.nu ht;rw[←hgC,←hff,←hE0,jO (by rw[hE0];exact ht)]at h5;exact h5
        ·rw[qge hi hj]at hE0
         dsimp only at hE0;refine .inl ⟨by rw[hE0];decide,fun W hW=>?_⟩;have hc:=hW.ch _ (Q5 hi);have h5:=qkL W (.pointer (some ⟨gC,0,none⟩)) p.fr p.nu (fun w1 hb1=>by
          have h6:=qmm w1 _ _ _ (hc.below hb1) p.fr (.inr (by omega));rw[←hgC]at h6;exact h6)
         rw[hE0];exact h5
       rcases hlook with⟨hEz,hlk⟩|⟨hj,ht⟩
       ·rw[(HM.1 hEz).1,(HM.1 hEz).2]
        have HLk:=qe hlk;have HNe:=qe (jO hEz);rw[HNe.1];clear h h0 hn' hv hbg hgl hcc hv' hne hE hE0 hbd hm0 hbig hf hno hfirst hgr2 hgq hb hlf hgC hfl hff hft hlk hEz;go_enter func13,ntmps13
        go_upto_region 1 with fail
        rw[←HW1.1];go_wp2_with fail
        refine HL.1.mono ?_;rintro e w2 ⟨rfl,q,hq⟩;have HB2:=qe (HK1.1.trans ((qN hq).mono (by omega)));have HX2:=qe (HBx1.1.below (qN hq) (by omega));have hz2:=(qN hq).size;clear hq;obtain⟨c32,c33,c34,c35,c0⟩:=qZ.all5 HX2.1 HG.1;have HP:=qe (show Calls prog 37 #[.agg (qq p.grp p.ep p.fr p.nu A n c).toArray] w2 fun e w'=>∃(A3:Option Addr) (n3 c3:Nat),e= .returned (.tuple #[.slice A3 n3 c3,.nilIface])∧Below w2.heap.size w2 w' by
         have h5:=zp p.grp p.ep p.fr p.nu A n c Bm p.sl w2 HG.1 e1 e2 f1 f2 n1 n2 (HR.1.below (HB2.1.mono hBm)) (by have:=HB2.1.size;omega) HN.1 hn63;rw[HBd.1]at h5;refine h5.mono ?_;rintro e w3 ⟨v,rfl,ho,hb⟩;obtain⟨A3,c3,rfl,-⟩:=ho.shape;exact⟨_,_,_,rfl,hb⟩)
        have c0w:=HX2.1.whole;go_wp2_with (refine wpList_load_mid rfl 41 (.tmp 3) rfl w.heap.size 0 rfl (qq p.grp p.ep p.fr p.nu A n c) _ c0w underlying41 rfl (by rw[j1 HG.1];exact jC) ?_)
        refine HP.1.mono ?_;rintro e w3 ⟨A3,n3,c3,rfl,hb3⟩;have HB3:=qe (HB2.1.trans (hb3.mono HB2.1.size));have HX3:=qe (HX2.1.below hb3 (by omega));have hz3:=hb3.size;clear hb3 c32 c33 c34 c35 c0 c0w;obtain⟨d32,d33,d34,d35,-⟩:=qZ.all5 HX3.1 HG.1;have HBo3:=qe (HH.1.below HB3.1);have c32:=HBo3.1.cell32;rw[HV.1]at c32;have HI:=qe (by have h5:=qaC HBo3.1 w.heap.size p.ep (by omega) d32;rw[HV.1,HFi.1]at h5;exact h5)
        go_wp2_with fail
        refine HI.1.mono ?_;rintro e w4 ⟨rfl,hb4⟩;have HB4:=qe (HB3.1.trans (hb4.mono HB3.1.size));have HX4:=qe (HX3.1.below hb4 (by omega));have HBo4:=qe (HH.1.below HB4.1);clear hb4 d32 d33 d34 d35 c32;have hr1:w4.drew.rangeAt w.heap.size 0 (p.grp.map b8):=qZ.r0 HX4.1 HG.1;have hr2:w4.drew.rangeAt gB 0 (b.grp.map b8):=by
         have h5:=(HBo4.1.blk).range 0 32;rwa[J0,show b.cells.take 32=b.grp.map b8 by unfold BX.cells;rw[Zc (by rw[QN,HBo4.1.glen])]]at h5
        have hneq:∀w,(binOp .neq 23 (.agg (p.grp.map b8).toArray) (.agg (b.grp.map b8).toArray)).run prog w= .ok (.bool false) w:=fun w=>by
         have h5:=kz w 23 5 32 underlying23 underlying5 (fun _=>by kernel_rfl) _ _ HG.1 HBo4.1.glen;rw[HQ.1]at h5;exact h5
        have hi32:(prog.info? 23).map (·.size)=some (p.grp.map b8).length:=by rw[QN,HG.1];exact jy
        have hi33:(prog.info? 23).map (·.size)=some (b.grp.map b8).length:=by rw[QN,HBo4.1.glen];exact jy
        have hu:=underlying23;have hS:w4.drew.rangeAt w.heap.size 0 (p.grp.map b8)∧w4.drew.rangeAt gB 0 (b.grp.map b8):=⟨hr1,hr2⟩;clear hr1 hr2;go_upto_region 9 with fail
        refine wp_region_noPanic ?_;refine wp_region_held_drew (S:=fun w'=>w'.rangeAt w.heap.size 0 (p.grp.map b8)∧w'.rangeAt gB 0 (b.grp.map b8)) (by kernel_rfl) hS (fun hS=>?_);refine tkA 0 (.int .i64 (i:Int)) hS ?_;refine tkA 1 (.bool false) hS ?_;refine tkA 2 (.bool false) hS ?_;try simp only[QJ,qj,qz,qv]
        refine tkA 3 (.pointer (some ⟨w.heap.size,0,none⟩)) hS ?_;refine tkK 4 (.agg (p.grp.map b8).toArray) rfl rfl (yieldsIf_load_mid (by rfl) 23 (.tmp 40) rfl w.heap.size 0 rfl (p.grp.map b8) _ (fun _ h=>h.1) hu rfl hi32) hS ?_;refine tkA 5 (.pointer (some ⟨gB,0,none⟩)) hS ?_;try simp only[QJ,qj,qz,qv]
        refine tkA 6 (.pointer (some ⟨gB,0,none⟩)) hS ?_;refine tkA 7 (.pointer (some ⟨gB,0,none⟩)) hS ?_;refine tkK 8 (.agg (b.grp.map b8).toArray) rfl rfl (yieldsIf_load_mid (by rfl) 23 (.tmp 44) rfl gB 0 rfl (b.grp.map b8) _ (fun _ h=>h.2) hu rfl hi33) hS ?_;try simp only[QJ,qj,qz,qv]
        refine tkA 9 (.bool false) hS ?_;refine tkA 10 (.bool false) hS ?_;refine tkA 11 (.bool false) hS ?_;try simp only[QJ,qj,qz,qv]
        refine wpAnyH_done (by kernel_rfl) ?_ _;refine Q4 ?_;clear hS hneq hi32 hi33 hu;have HB5:=qe HB4.1.drew;have HX5:=qe (show Blk w4.drew w.heap.size 41 (qq p.grp p.ep p.fr p.nu A n c)from HX4.1);have HBo5:=qe HBo4.1.drew;generalize w4.drew=w5 at HB5 HX5 HBo5 ⊢;obtain⟨d32,d33,d34,d35,-⟩:=qZ.all5 HX5.1 HG.1;have c32:=HBo5.1.cell32;rw[HV.1]at c32;obtain⟨a0,a1,a2⟩:=HBo5.1.at_row HV.1 hi
        rw[←HGC.1]at a0;rw[←HLf.1]at a2;clear a1;go_wp2_with fail
        go_quiet (fail)
        have HB6:=qe (je HB5.1 nq);have HX6:=qe (show Blk (w5.drewN nq) w.heap.size 41 (qq p.grp p.ep p.fr p.nu A n c)from HX5.1);have HBo6:=qe (HBo5.1.drewN nq);have c32:=HBo6.1.cell32;rw[HV.1]at c32;obtain⟨a0,a1,a2⟩:=HBo6.1.at_row HV.1 hi;rw[←HGC.1]at a0;clear a1 a2;generalize w5.drewN nq=w6 at HB6 HX6 HBo6 c32 a0 ⊢;obtain⟨d32,d33,d34,d35,-⟩:=qZ.all5 HX6.1 HG.1;go_wp2_with fail
        refine(HLk.1 _ HBo6.1).mono ?_;rintro e w7 ⟨rfl,hb7⟩;have HB7:=qe (HB6.1.trans (hb7.mono HB6.1.size));have HZ7:=qe (show Blk (w7.alloc (.cells qg.toArray 94)) w7.heap.size 94 qg from Blk.new _ _ _);clear hb7;go_upto_region 15 with(refine qi rfl 94 (.tmp 10) (.tmp 77) rfl w7.heap.size 0 rfl qg rfl 94 _ [] qg [] HZ7.1 (by simp) rfl rfl qA (qF _ _ _ _ _) ?_;intro w8 hx8 hg8)
        have HB8:=qe (show Below w.heap.size w w8 from(HB7.1.alloc HB7.1.size _).grown hg8 (QX HB7.1.size (by simp)) (fun k e=>by cases e;exact HB7.1.size));clear hx8 hg8;go_wp2_with fail
        go_ret2;exact⟨_,rfl,Own.nil_ _ _ _ _,b,rfl,HH.1.below HB8.1,(Frm.refl w _).below HB8.1 (QI _),fun k hk=> .inl hk,fun k hk=>(by cases hk)⟩
       ·obtain⟨l,hl⟩:∃l,l=b.es[i].xs[f].l:=⟨_,rfl⟩
        rw[←hl]at ht;have hla:=qfT hi hj;rw[←hl]at hla;rw[hla]at hE0;dsimp only at hE0;rw[if_neg (by simp[ht])]at hE0;have hlok:LOK l:=by rw[hl];exact((h.ch _ (Q5 hi)).ok _ (Q5 hj)).lok
        obtain⟨hkl,hnl⟩:=qaG hlok ht;obtain⟨O,hO⟩:∃O,O=qS l p.nu:=⟨_,rfl⟩;rw[←hO]at hkl hnl hE0;obtain⟨ctx,hctx⟩:∃ctx,ctx=vF p.grp p.ep p.fr p.nu:=⟨_,rfl⟩;have hctl:ctx.length=41:=by rw[hctx];exact uB HG.1 _ _ _
        rw[←hctx]at hE0;have hpl:yh b.m p=some (i,l):=by unfold yh;rw[hf];dsimp only[Option.bind_some];rw[hft,hla];rfl
        have hT:ue b.m p=j3 O.key O.nonce ctx p.sl:=by
         unfold ue;rw[hpl];dsimp only;rw[←hE,←hO,←hctx];by_cases h5:E=0
         ·rw[if_pos h5]
         ·rw[if_neg h5]
          unfold j3;rw[if_neg (by rw[←hE0];exact h5)]
        rw[hT];have HKl:=qe hkl;have HNl:=qe hnl;have HCl:=qe hctl;have HLk:=qe (show∀W,qI W base gB b→Calls prog 40 #[.pointer (some ⟨gC,0,none⟩),.int .i64 p.fr,.int .i64 p.nu] W fun e w'=>∃g c,e= .returned (.tuple #[.agg (qy p.nu O.key (.slice (some ⟨g,0,none⟩) 12 c)).toArray,.nilIface])∧W.heap.size≤g∧Own b8 w' W.heap.size 5 (.slice (some ⟨g,0,none⟩) 12 c) O.nonce∧Below W.heap.size W w' from fun W hW=>by
         have h5:=qnA W _ _ _ (hW.ch _ (Q5 hi)) f hj (by omega) p.nu (by rw[←hl];exact ht);rw[←hgC,←hff,←hl,←hO]at h5;exact h5)
        obtain⟨kv,hkv⟩:∃kv,kv=O.key.map b8:=⟨_,rfl⟩;obtain⟨pc,hpc⟩:∃pc,pc=qq p.grp p.ep p.fr p.nu A n c:=⟨_,rfl⟩;have hi2k:(prog.info? 92).map (·.size)=some kv.length:=by rw[hkv,QN,HKl.1];exact kJ
        have hi3p:(prog.info? 41).map (·.size)=some pc.length:=by rw[hpc,j1 HG.1];exact jC
        have HCt:=qe (show∀W,Calls prog 36 #[.agg pc.toArray] W fun e w'=>∃v,e= .returned v∧Own b8 w' W.heap.size 5 v ctx∧Below W.heap.size W w' from fun W=>by rw[hpc,hctx];exact qda p.grp HG.1 p.ep p.fr p.nu A n c W);have HKv:=qe hkv;have HPc:=qe hpc;have HTk:=qe (show∀W,qI W base gB b→Calls prog 42 #[.pointer (some ⟨gC,0,none⟩),.int .i64 p.fr,.int .i64 p.nu] W fun e w'=>∃k b',e= .returned (.tuple #[.agg (qy p.nu O.key (qx k)).toArray,.nilIface])∧b'.m=⟨b.m.grp,zD b.m.es i f (jR l p.nu),b.m.clr⟩∧qI w' base gB b'∧Frm W w' b.efoot∧∀k∈BX.foot gB b',k∈BX.foot gB b∨W.heap.size≤k from fun W hW=>by
         have h5:=qlj hW hi hj hl p.nu ht;rw[←hgC,←hff,←hO]at h5;refine h5.mono ?_;rintro e w' ⟨k,b',h6,-,h7,-,h8,h9,h10⟩;exact⟨k,b',h6,h7,h8,h9,h10⟩)
        have HMo:=qe (show E=0→uf b.m p=⟨b.m.grp,zD b.m.es i f (jR l p.nu),b.m.clr⟩from fun h5=>by
         unfold uf;rw[hpl];dsimp only;rw[←hE,if_pos h5,hft])
        have HE0:=qe hE0;clear h h0 hn' hv hbg hgl hcc hv' hne hE hE0 hbd hm0 hbig hf hno hfirst hgr2 hgq hb hlf hgC hfl hff hft hkv hpc hctx hctl hla hpl hT hkl hnl hO hlok;go_enter func13,ntmps13
        go_upto_region 1 with fail
        rw[←HW1.1];go_wp2_with fail
        refine HL.1.mono ?_;rintro e w2 ⟨rfl,q,hq⟩;have HB2:=qe (HK1.1.trans ((qN hq).mono (by omega)));have HX2:=qe (HBx1.1.below (qN hq) (by omega));have hz2:=(qN hq).size;clear hq;obtain⟨c32,c33,c34,c35,c0⟩:=qZ.all5 HX2.1 HG.1;have HP:=qe (show Calls prog 37 #[.agg (qq p.grp p.ep p.fr p.nu A n c).toArray] w2 fun e w'=>∃(A3:Option Addr) (n3 c3:Nat),e= .returned (.tuple #[.slice A3 n3 c3,.nilIface])∧Below w2.heap.size w2 w' by
         have h5:=zp p.grp p.ep p.fr p.nu A n c Bm p.sl w2 HG.1 e1 e2 f1 f2 n1 n2 (HR.1.below (HB2.1.mono hBm)) (by have:=HB2.1.size;omega) HN.1 hn63;rw[HBd.1]at h5;refine h5.mono ?_;rintro e w3 ⟨v,rfl,ho,hb⟩;obtain⟨A3,c3,rfl,-⟩:=ho.shape;exact⟨_,_,_,rfl,hb⟩)
        have c0w:=HX2.1.whole;go_wp2_with (refine wpList_load_mid rfl 41 (.tmp 3) rfl w.heap.size 0 rfl (qq p.grp p.ep p.fr p.nu A n c) _ c0w underlying41 rfl (by rw[j1 HG.1];exact jC) ?_)
        refine HP.1.mono ?_;rintro e w3 ⟨A3,n3,c3,rfl,hb3⟩;have HB3:=qe (HB2.1.trans (hb3.mono HB2.1.size));have HX3:=qe (HX2.1.below hb3 (by omega));have hz3:=hb3.size;clear hb3 c32 c33 c34 c35 c0 c0w;obtain⟨d32,d33,d34,d35,-⟩:=qZ.all5 HX3.1 HG.1;have HBo3:=qe (HH.1.below HB3.1);have c32:=HBo3.1.cell32;rw[HV.1]at c32;have HI:=qe (by have h5:=qaC HBo3.1 w.heap.size p.ep (by omega) d32;rw[HV.1,HFi.1]at h5;exact h5)
        go_wp2_with fail
        refine HI.1.mono ?_;rintro e w4 ⟨rfl,hb4⟩;have HB4:=qe (HB3.1.trans (hb4.mono HB3.1.size));have HX4:=qe (HX3.1.below hb4 (by omega));have HBo4:=qe (HH.1.below HB4.1);clear hb4 d32 d33 d34 d35 c32;have hr1:w4.drew.rangeAt w.heap.size 0 (p.grp.map b8):=qZ.r0 HX4.1 HG.1;have hr2:w4.drew.rangeAt gB 0 (b.grp.map b8):=by
         have h5:=(HBo4.1.blk).range 0 32;rwa[J0,show b.cells.take 32=b.grp.map b8 by unfold BX.cells;rw[Zc (by rw[QN,HBo4.1.glen])]]at h5
        have hneq:∀w,(binOp .neq 23 (.agg (p.grp.map b8).toArray) (.agg (b.grp.map b8).toArray)).run prog w= .ok (.bool false) w:=fun w=>by
         have h5:=kz w 23 5 32 underlying23 underlying5 (fun _=>by kernel_rfl) _ _ HG.1 HBo4.1.glen;rw[HQ.1]at h5;exact h5
        have hi32:(prog.info? 23).map (·.size)=some (p.grp.map b8).length:=by rw[QN,HG.1];exact jy
        have hi33:(prog.info? 23).map (·.size)=some (b.grp.map b8).length:=by rw[QN,HBo4.1.glen];exact jy
        have hu:=underlying23;have hS:w4.drew.rangeAt w.heap.size 0 (p.grp.map b8)∧w4.drew.rangeAt gB 0 (b.grp.map b8):=⟨hr1,hr2⟩;clear hr1 hr2;go_upto_region 9 with fail
        refine wp_region_noPanic ?_;refine wp_region_held_drew (S:=fun w'=>w'.rangeAt w.heap.size 0 (p.grp.map b8)∧w'.rangeAt gB 0 (b.grp.map b8)) (by kernel_rfl) hS (fun hS=>?_);refine tkA 0 (.int .i64 (i:Int)) hS ?_;refine tkA 1 (.bool false) hS ?_;refine tkA 2 (.bool false) hS ?_;try simp only[QJ,qj,qz,qv]
        refine tkA 3 (.pointer (some ⟨w.heap.size,0,none⟩)) hS ?_;refine tkK 4 (.agg (p.grp.map b8).toArray) rfl rfl (yieldsIf_load_mid (by rfl) 23 (.tmp 40) rfl w.heap.size 0 rfl (p.grp.map b8) _ (fun _ h=>h.1) hu rfl hi32) hS ?_;refine tkA 5 (.pointer (some ⟨gB,0,none⟩)) hS ?_;try simp only[QJ,qj,qz,qv]
        refine tkA 6 (.pointer (some ⟨gB,0,none⟩)) hS ?_;refine tkA 7 (.pointer (some ⟨gB,0,none⟩)) hS ?_;refine tkK 8 (.agg (b.grp.map b8).toArray) rfl rfl (yieldsIf_load_mid (by rfl) 23 (.tmp 44) rfl gB 0 rfl (b.grp.map b8) _ (fun _ h=>h.2) hu rfl hi33) hS ?_;try simp only[QJ,qj,qz,qv]
        refine tkA 9 (.bool false) hS ?_;refine tkA 10 (.bool false) hS ?_;refine tkA 11 (.bool false) hS ?_;try simp only[QJ,qj,qz,qv]
        refine wpAnyH_done (by kernel_rfl) ?_ _;refine Q4 ?_;clear hS hneq hi32 hi33 hu;have HB5:=qe HB4.1.drew;have HX5:=qe (show Blk w4.drew w.heap.size 41 (qq p.grp p.ep p.fr p.nu A n c)from HX4.1);have HBo5:=qe HBo4.1.drew;generalize w4.drew=w5 at HB5 HX5 HBo5 ⊢;obtain⟨d32,d33,d34,d35,-⟩:=qZ.all5 HX5.1 HG.1;have c32:=HBo5.1.cell32;rw[HV.1]at c32;obtain⟨a0,a1,a2⟩:=HBo5.1.at_row HV.1 hi
        rw[←HGC.1]at a0;rw[←HLf.1]at a2;clear a1;go_wp2_with fail
        go_quiet (fail)
        have HB6:=qe (je HB5.1 nq);have HX6:=qe (show Blk (w5.drewN nq) w.heap.size 41 (qq p.grp p.ep p.fr p.nu A n c)from HX5.1);have HBo6:=qe (HBo5.1.drewN nq);have c32:=HBo6.1.cell32;rw[HV.1]at c32;obtain⟨a0,a1,a2⟩:=HBo6.1.at_row HV.1 hi;rw[←HGC.1]at a0;clear a1 a2;generalize w5.drewN nq=w6 at HB6 HX6 HBo6 c32 a0 ⊢;obtain⟨d32,d33,d34,d35,-⟩:=qZ.all5 HX6.1 HG.1;go_wp2_with fail
        refine(HLk.1 _ HBo6.1).mono ?_;rintro e w7 ⟨gk,ck,rfl,hgk,hok,hb7⟩;have HB7:=qe (HB6.1.trans (hb7.mono HB6.1.size));have HX7:=qe (HX6.1.below hb7 (by have:=HB6.1.size;have:=HX6.1.lt;omega));have HOk:=qe hok;have HCk:=qe (show 12≤ck by
         obtain⟨g9,c9,e9,-,-,h9⟩:=hok.form' HNl.1 (by decide);injection e9 with _ _ e9;rw[e9];exact h9)
        have HZ7:=qe (show Blk (w7.alloc (.cells qg.toArray 94)) w7.heap.size 94 qg from Blk.new _ _ _);have hgkl:gk<w7.heap.size:=(hok.lt gk rfl).2;clear hb7 hok hgk;go_upto_region 15 with(refine qi rfl 94 (.tmp 10) (.tmp 77) rfl w7.heap.size 0 rfl (qy p.nu O.key (.slice (some ⟨gk,0,none⟩) 12 ck)) rfl 94 _ [] qg [] HZ7.1 (by simp) rfl (by rw[qw _ _ _ HKl.1];rfl) (by rw[qA,qw _ _ _ HKl.1]) (qF _ _ _ _ _) ?_;intro w8 hx8 hg8)
        have hb8:Below w7.heap.size w7 w8:=((Below.refl _ w7).alloc (QI _) _).grown hg8 (by simp) (fun k e=>by cases e;exact QI _);have HB8:=qe (HB7.1.trans (hb8.mono HB7.1.size));have HO8:=qe (show Blk w8 w7.heap.size 94 (qy p.nu O.key (.slice (some ⟨gk,0,none⟩) 12 ck))from hx8.cast (by simp));have HX8:=qe (HX7.1.below hb8 HX7.1.lt);have HNk:=qe (show Rd b8 w8 w7.heap.size (some ⟨gk,0,none⟩) O.nonce from(HOk.1.rd).below hb8)
        clear hx8 hg8 hb8 HOk;have HS17:=qe (show∀W,Below w8.heap.size w8 W→W.rangeAt w7.heap.size 1 kv∧W.cell? ⟨w7.heap.size,33,none⟩=some (.slice (some ⟨gk,0,none⟩) 12 ck)∧W.rangeAt w.heap.size 0 pc∧W.cell? ⟨w.heap.size,35,none⟩=some (.slice A n c)from fun W hb=>by
         have h5:=HO8.1.below hb HO8.1.lt;have h6:=h5.range 1 32;rw[show((qy p.nu O.key (.slice (some ⟨gk,0,none⟩) 12 ck)).drop 1).take 32=kv by unfold qy;rw[HKv.1,List.drop_succ_cons,J0,Zc (by rw[QN,HKl.1])]]at h6;have h7:=HX8.1.below hb HX8.1.lt;refine⟨h6,h5.cell 33 (qa4 _ _ _ HKl.1),by rw[HPc.1];exact h7.whole,qZ.c35 h7 HG.1⟩)
        have hSr:w8.drew.rangeAt w7.heap.size 1 kv∧w8.drew.cell? ⟨w7.heap.size,33,none⟩=some (.slice (some ⟨gk,0,none⟩) 12 ck)∧w8.drew.rangeAt w.heap.size 0 pc∧w8.drew.cell? ⟨w.heap.size,35,none⟩=some (.slice A n c):=HS17.1 _ (Below.refl _ w8).drew;have hS:=hSr;clear hSr;have hu2:=underlying92;have hu3:=underlying41;go_upto_region 17 with fail
        refine wp_region_noPanic ?_;refine wp_region_held_drew (S:=fun W=>W.rangeAt w7.heap.size 1 kv∧W.cell? ⟨w7.heap.size,33,none⟩=some (.slice (some ⟨gk,0,none⟩) 12 ck)∧W.rangeAt w.heap.size 0 pc∧W.cell? ⟨w.heap.size,35,none⟩=some (.slice A n c)) (by kernel_rfl) hS (fun hS=>?_);refine tkH 0 (.pointer (some ⟨w7.heap.size,1,none⟩)) ?_ hS ?_
        ·intro w' hw'
         obtain⟨-,s1,-,s3⟩:=hw';go_simp
        refine tkK 1 (.agg kv.toArray) rfl rfl (yieldsIf_load_mid (by rfl) 92 (.tmp 83) rfl w7.heap.size 1 rfl kv _ (fun _ h=>h.1) hu2 rfl hi2k) hS ?_;refine tkH 2 (.pointer (some ⟨w7.heap.size,33,none⟩)) ?_ hS ?_
        ·intro w' hw'
         obtain⟨-,s1,-,s3⟩:=hw';go_simp
        try simp only[QJ,qj,qz,qv]
        refine tkH 3 (.slice (some ⟨gk,0,none⟩) 12 ck) ?_ hS ?_
        ·intro w' hw'
         obtain⟨-,s1,-,s3⟩:=hw';go_simp
        refine tkK 4 (.agg pc.toArray) rfl rfl (yieldsIf_load_mid (by rfl) 41 (.tmp 3) rfl w.heap.size 0 rfl pc _ (fun _ h=>h.2.2.1) hu3 rfl hi3p) hS ?_;refine tkH 6 (.pointer (some ⟨w.heap.size,35,none⟩)) ?_ hS ?_
        ·intro w' hw'
         obtain⟨-,s1,-,s3⟩:=hw';go_simp
        try simp only[QJ,qj,qz,qv]
        refine tkH 7 (.slice A n c) ?_ hS ?_
        ·intro w' hw'
         obtain⟨-,s1,-,s3⟩:=hw';go_simp
        try simp only[QJ,qj,qz,qv]
        refine rdH 5 (fun K' hK=>?_);go_simp;go_at_call 36;refine(HCt.1 _).mono ?_;rintro e wa ⟨va,rfl,hoa,hba⟩;obtain⟨Aa,ca,rfl,hra,-,-,-⟩:=hoa.shape' HCl.1;have HBa:=qe (show Below w8.heap.size w8 wa from(Below.refl w8.heap.size w8).drew.trans hba);have HRa:=qe hra;clear hoa hba hra;refine hK.out _ _ (HS17.1 _ HBa.1) (fun hS=>?_);clear hK K';try simp only[QJ,qj,qz,qv]
        have HOp:=qe (show Calls prog 41 #[.agg kv.toArray,.slice (some ⟨gk,0,none⟩) 12 ck,.slice Aa 41 ca,.slice A n c] wa fun e w'=>∃v,e= .returned (.tuple #[v,zG E])∧Own b8 w' wa.heap.size 5 v (j3 O.key O.nonce ctx p.sl)∧Below wa.heap.size wa w' by
         have h5:=qm0 wa O.key HKl.1 (some ⟨gk,0,none⟩) Aa A 12 ck 41 ca n c w7.heap.size wa.heap.size Bm O.nonce ctx p.sl (HNk.1.below (HBa.1.mono (by have:=HO8.1.lt;omega))) (by have:=HO8.1.lt;have:=HBa.1.size;omega) HNl.1 HCk.1 HRa.1 (QI _) HCl.1 (HR.1.below ((HB8.1.trans (HBa.1.mono HB8.1.size)).mono hBm)) (by have:=HB8.1.size;have:=HBa.1.size;omega) HN.1 hnc (by simp only[maxLen];omega)
         rw[qn,←HKv.1,←HE0.1]at h5;exact h5)
        by_cases hEz:E=0
        ·rw[hEz,qW]at HOp
         have HEz:=qe hEz;clear hEz;refine rdH 8 (fun K' hK=>?_);go_simp;go_at_call 41;refine HOp.1.mono ?_;rintro e wb ⟨vb,rfl,hob,hbb⟩;have HBb:=qe (HBa.1.trans (hbb.mono HBa.1.size));have HOb:=qe (hob.less (show w8.heap.size≤wa.heap.size from HBa.1.size));clear hob hbb;refine hK.out _ _ (HS17.1 _ HBb.1) (fun hS=>?_);clear hK K';refine tkH 9 (.tuple #[vb,.nilIface]) ?_ hS ?_
         ·intro w' hw'
          obtain⟨-,s1,-,s3⟩:=hw';go_simp
         refine tkH 10 vb ?_ hS ?_
         ·intro w' hw'
          obtain⟨-,s1,-,s3⟩:=hw';go_simp
         try simp only[QJ,qj,qz,qv]
         refine tkH 11 (.nilIface) ?_ hS ?_
         ·intro w' hw'
          obtain⟨-,s1,-,s3⟩:=hw';go_simp
         refine tkH 12 vb ?_ hS ?_
         ·intro w' hw'
          obtain⟨-,s1,-,s3⟩:=hw';go_simp
         refine tkH 13 (.nilIface) ?_ hS ?_
         ·intro w' hw'
          obtain⟨-,s1,-,s3⟩:=hw';go_simp
         try simp only[QJ,qj,qz,qv]
         refine wpAnyH_done (by kernel_rfl) ?_ _;refine Q4 ?_;clear hS;have HBw:=qe (HB8.1.trans (HBb.1.mono HB8.1.size));obtain⟨d32,d33,d34,d35,-⟩:=qZ.all5 (show Blk wb w.heap.size 41 (qq p.grp p.ep p.fr p.nu A n c)from HX8.1.below HBb.1 HX8.1.lt) HG.1;go_wp2_with fail
         refine(HTk.1 _ (HH.1.below HBw.1)).mono ?_;rintro e wt ⟨kt,b',rfl,hm',hB',hF',hf'⟩;have HM':=qe hm';have HB':=qe hB';have HF':=qe hF';have Hf':=qe hf';clear hm' hB' hF' hf';go_wp2_with fail
         go_ret2;refine⟨vb,by rw[HEz.1,qW];rfl,?_,b',by rw[HM'.1,HMo.1 HEz.1],HB'.1,?_,fun k hk=>?_,fun k hk hm9=>?_⟩
         ·have hw8:w.heap.size≤w8.heap.size:=HB8.1.size
          have h0:Own b8 wt w8.heap.size 5 vb (j3 O.key O.nonce ctx p.sl):=uR HOb.1 (fun g9 hg9=>HF'.1.block g9 (HOb.1.lt g9 hg9).2 (fun hm9=>by
           have h5:=(HH.1.foot_lt _ (BX.efoot_sub gB b _ hm9)).2;have h6:=(HOb.1.lt g9 hg9).1;omega))
          exact h0.less hw8
         ·have hb:=HBw.1
          have hf:=HF'.1;exact⟨hf.os.trans hb.os,hf.tape.trans hb.tape,hf.output.trans hb.output,QX hb.size hf.size,fun k hk hn=>(hf.block k (Nat.lt_of_lt_of_le hk hb.size) (fun hm9=>hn (BX.efoot_sub gB b k hm9))).trans (hb.block k hk)⟩
         ·exact(Hf'.1 k hk).imp (fun h=>h) (fun h=>QX HBw.1.size h)
         ·have h6:=HOb.1.lt k hk
          have h8:=HB8.1.size;rcases Hf'.1 k hm9 with h5|h5
          ·have:=(HH.1.foot_lt k h5).2;omega
          ·omega
        ·rw[jO hEz]at HOp
         have HEz:=qe hEz;clear hEz;refine rdH 8 (fun K' hK=>?_);go_simp;go_at_call 41;refine HOp.1.mono ?_;rintro e wb ⟨vb,rfl,hob,hbb⟩;have HBb:=qe (HBa.1.trans (hbb.mono HBa.1.size));have HOb:=qe (hob.less (show w8.heap.size≤wa.heap.size from HBa.1.size));clear hob hbb;refine hK.out _ _ (HS17.1 _ HBb.1) (fun hS=>?_);clear hK K';refine tkH 9 (.tuple #[vb,.iface 69 (.int .i64 (E:Int))]) ?_ hS ?_
         ·intro w' hw'
          obtain⟨-,s1,-,s3⟩:=hw';go_simp
         refine tkH 10 vb ?_ hS ?_
         ·intro w' hw'
          obtain⟨-,s1,-,s3⟩:=hw';go_simp
         try simp only[QJ,qj,qz,qv]
         refine tkH 11 (.iface 69 (.int .i64 (E:Int))) ?_ hS ?_
         ·intro w' hw'
          obtain⟨-,s1,-,s3⟩:=hw';go_simp
         refine tkH 12 vb ?_ hS ?_
         ·intro w' hw'
          obtain⟨-,s1,-,s3⟩:=hw';go_simp
         refine tkH 13 (.iface 69 (.int .i64 (E:Int))) ?_ hS ?_
         ·intro w' hw'
          obtain⟨-,s1,-,s3⟩:=hw';go_simp
         try simp only[QJ,qj,qz,qv]
         refine wpAnyH_done (by kernel_rfl) ?_ _;refine Q4 ?_;clear hS;have HBw:=qe (HB8.1.trans (HBb.1.mono HB8.1.size));go_wp2_with fail
         go_ret2;refine⟨.slice none 0 0,by rw[jO HEz.1];rfl,?_,b,by rw[(HM.1 HEz.1).1],HH.1.below HBw.1,(Frm.refl w _).below HBw.1 (QI _),fun k hk=> .inl hk,fun k hk=>(by cases hk)⟩;rw[show j3 O.key O.nonce ctx p.sl=[] by unfold j3;rw[if_neg (by rw[←HE0.1];exact HEz.1)]];exact Own.nil_ _ _ _ _
     ·rw[if_pos hgq]at hE0
      subst hE0;rw[(HM.1 (by decide)).1,(HM.1 (by decide)).2];have HQ:=qe (show(!(p.grp==b.grp))=true by simp[hgq]);clear h h0 hn' hv hbg hgl hcc hv' hne hE hbd hm0 hbig hf hi hno hfirst hgr2 hgq;go_enter func13,ntmps13
      go_upto_region 1 with fail
      rw[←HW1.1];go_wp2_with fail
      refine HL.1.mono ?_;rintro e w2 ⟨rfl,q,hq⟩;have HB2:=qe (HK1.1.trans ((qN hq).mono (by omega)));have HX2:=qe (HBx1.1.below (qN hq) (by omega));have hz2:=(qN hq).size;clear hq;obtain⟨c32,c33,c34,c35,c0⟩:=qZ.all5 HX2.1 HG.1;have HP:=qe (show Calls prog 37 #[.agg (qq p.grp p.ep p.fr p.nu A n c).toArray] w2 fun e w'=>∃(A3:Option Addr) (n3 c3:Nat),e= .returned (.tuple #[.slice A3 n3 c3,.nilIface])∧Below w2.heap.size w2 w' by
       have h5:=zp p.grp p.ep p.fr p.nu A n c Bm p.sl w2 HG.1 e1 e2 f1 f2 n1 n2 (HR.1.below (HB2.1.mono hBm)) (by have:=HB2.1.size;omega) HN.1 hn63;rw[HBd.1]at h5;refine h5.mono ?_;rintro e w3 ⟨v,rfl,ho,hb⟩;obtain⟨A3,c3,rfl,-⟩:=ho.shape;exact⟨_,_,_,rfl,hb⟩)
      have c0w:=HX2.1.whole;go_wp2_with (refine wpList_load_mid rfl 41 (.tmp 3) rfl w.heap.size 0 rfl (qq p.grp p.ep p.fr p.nu A n c) _ c0w underlying41 rfl (by rw[j1 HG.1];exact jC) ?_)
      refine HP.1.mono ?_;rintro e w3 ⟨A3,n3,c3,rfl,hb3⟩;have HB3:=qe (HB2.1.trans (hb3.mono HB2.1.size));have HX3:=qe (HX2.1.below hb3 (by omega));have hz3:=hb3.size;clear hb3 c32 c33 c34 c35 c0 c0w;obtain⟨d32,d33,d34,d35,-⟩:=qZ.all5 HX3.1 HG.1;have HBo3:=qe (HH.1.below HB3.1);have c32:=HBo3.1.cell32;rw[HV.1]at c32;have HI:=qe (by have h5:=qaC HBo3.1 w.heap.size p.ep (by omega) d32;rw[HV.1,HFi.1]at h5;exact h5)
      go_wp2_with fail
      refine HI.1.mono ?_;rintro e w4 ⟨rfl,hb4⟩;have HB4:=qe (HB3.1.trans (hb4.mono HB3.1.size));have HX4:=qe (HX3.1.below hb4 (by omega));have HBo4:=qe (HH.1.below HB4.1);clear hb4 d32 d33 d34 d35 c32;have hr1:w4.drew.rangeAt w.heap.size 0 (p.grp.map b8):=qZ.r0 HX4.1 HG.1;have hr2:w4.drew.rangeAt gB 0 (b.grp.map b8):=by
       have h5:=(HBo4.1.blk).range 0 32;rwa[J0,show b.cells.take 32=b.grp.map b8 by unfold BX.cells;rw[Zc (by rw[QN,HBo4.1.glen])]]at h5
      have hneq:∀w,(binOp .neq 23 (.agg (p.grp.map b8).toArray) (.agg (b.grp.map b8).toArray)).run prog w= .ok (.bool true) w:=fun w=>by
       have h5:=kz w 23 5 32 underlying23 underlying5 (fun _=>by kernel_rfl) _ _ HG.1 HBo4.1.glen;rw[HQ.1]at h5;exact h5
      have hi32:(prog.info? 23).map (·.size)=some (p.grp.map b8).length:=by rw[QN,HG.1];exact jy
      have hi33:(prog.info? 23).map (·.size)=some (b.grp.map b8).length:=by rw[QN,HBo4.1.glen];exact jy
      have hu:=underlying23;have hS:w4.drew.rangeAt w.heap.size 0 (p.grp.map b8)∧w4.drew.rangeAt gB 0 (b.grp.map b8):=⟨hr1,hr2⟩;clear hr1 hr2;go_upto_region 9 with fail
      refine wp_region_noPanic ?_;refine wp_region_held_drew (S:=fun w'=>w'.rangeAt w.heap.size 0 (p.grp.map b8)∧w'.rangeAt gB 0 (b.grp.map b8)) (by kernel_rfl) hS (fun hS=>?_);refine tkA 0 (.int .i64 (i:Int)) hS ?_;refine tkA 1 (.bool false) hS ?_;refine tkA 2 (.bool false) hS ?_;try simp only[QJ,qj,qz,qv]
      refine tkA 3 (.pointer (some ⟨w.heap.size,0,none⟩)) hS ?_;refine tkK 4 (.agg (p.grp.map b8).toArray) rfl rfl (yieldsIf_load_mid (by rfl) 23 (.tmp 40) rfl w.heap.size 0 rfl (p.grp.map b8) _ (fun _ h=>h.1) hu rfl hi32) hS ?_;refine tkA 5 (.pointer (some ⟨gB,0,none⟩)) hS ?_;try simp only[QJ,qj,qz,qv]
      refine tkA 6 (.pointer (some ⟨gB,0,none⟩)) hS ?_;refine tkA 7 (.pointer (some ⟨gB,0,none⟩)) hS ?_;refine tkK 8 (.agg (b.grp.map b8).toArray) rfl rfl (yieldsIf_load_mid (by rfl) 23 (.tmp 44) rfl gB 0 rfl (b.grp.map b8) _ (fun _ h=>h.2) hu rfl hi33) hS ?_;try simp only[QJ,qj,qz,qv]
      refine tkA 9 (.bool true) hS ?_;refine tkA 10 (.bool true) hS ?_;refine tkA 11 (.bool true) hS ?_;try simp only[QJ,qj,qz,qv]
      refine wpAnyH_done (by kernel_rfl) ?_ _;refine Q4 ?_;clear hS hneq hi32 hi33 hu;go_wp2_with fail
      go_ret2;exact⟨_,rfl,Own.nil_ _ _ _ _,b,rfl,HH.1.below HB4.1.drew,(Frm.refl w _).below HB4.1.drew (QI _),fun k hk=> .inl hk,fun k hk=>(by cases hk)⟩
end
section
open Go.RowKit
theorem jP{P:Program}{ops:Array Oper}{o:Oper}{a:Act}{w:World}{Kt:Act→World→Prop}{Q:Exit→Act→World→Prop}{F:Prop}(hg:o.guard=none)(t e:TypeId)(x:Operand)(ho:o.op= .buildSlice t 1 #[(0,x)])
 (ie:TypeInfo)(z:Value)(K:Nat)(cells:Array Value)(hx:a.eval x= .agg cells)(hK:cells.size=K)(hK0:0<K)(hKs:K≤1000)
 (hu:P.underlying t=some (.slice e))(hie:P.info? e=some ie)(hz:ie.zero=some z)(hsz:ie.size=K)(hzs:z.cells.size=K)
 (h:Kt (a.put o.dst (.slice (some ⟨w.heap.size,0,none⟩) 1 1)) (w.alloc (.cells cells e))):if Jv o (yielded ops a.tmps)=true then Oper.wp P o a w Kt Q else F:=by
 have hw:Jv o (yielded ops a.tmps)=true:=by simp[Jv,hg]
 rw[if_pos hw];refine wp_buildSlice t e 1 #[(0,x)] ho cells ie z hu hie hz (by rw[hsz];omega) (by rw[hsz];omega) ?_ h;rw[hsz];rw[show(#[(0,x)].map fun(i,x)=>(i,a.eval x)).toList=[(0,.agg cells)] by simp[hx]];exact qg0 hK0 (.agg cells) hK _ (by simp)
theorem jH{P:Program}{w:World}{ops:Array Oper}{o:Oper}{a:Act}{Kt:Act→World→Prop}{Q:Exit→Act→World→Prop}{F:Prop}(hgd:o.guard=none)(s x:Operand)(t:TypeId)
 (ho:o.op= .call {callee:= .builtin .append,args:= #[s,x],argTypes:= #[t,t]})
 (K:Nat)(hK:0<K)(base:Nat)(e:TypeId)(i:TypeInfo)(z:Value)(bytes:Nat)(ht:P.underlying t=some (.slice e))(hi:P.info? e=some i)(hz:i.zero=some z)
 (hsize:i.size=K)(hby:i.bytes=bytes)(hzs:z.cells.size=K)
 (v:Value)(n:Nat)(us:List Value)(hs:a.eval s=v)(hown:w.ownsRow base e K v n us)
 (B:Nat)(A:Option Addr)(m c:Nat)(news:List Value)(hx:a.eval x= .slice A m c)(hl:news.length=m*K)(hm:0<m)(hr:RdV w B A news)(h1:∀u∈news,u.oneCell'=true)
 (h63:n+m≤maxLen)(hbytes:(n+m)*bytes≤140737488355328)(hbase:base≤w.heap.size)
 (h:∀v' w',w'.ownsRow base e K v' (n+m) (us++news)→kU w w' v v'→(∀C w0,C≤base→Below C w0 w→Below C w0 w')→Kt (a.put o.dst v') w'):
 if Jv o (yielded ops a.tmps)=true then Oper.wp P o a w Kt Q else F:=by
 have hw:Jv o (yielded ops a.tmps)=true:=by simp[Jv,hgd]
 rw[if_pos hw];obtain⟨v',w',hrun,h2,h3⟩:=qa5 (P:=P) K hK base t o.type e i z bytes ht hi hz hsize hby hzs v n us hown B A m c news hl hm hr h1 h63 hbytes hbase;unfold Oper.wp execOp;simp only[ho,resolve,invoke,builtin,Sem.run_bind,Sem.run_pure,Result.andThen_ok,List.map_toArray,List.map_cons,List.map_nil,hs,hx,hrun];exact h v' w' h2 h3 (fun C w0 hC hb=>qgZ h3 hown hbase hC hb)
end
end Go.Proofs.YtelgjaiknaalkaaGreatDoor
