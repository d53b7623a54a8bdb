/- Lemmas. -/
import Derived.Test.YtelgjaiknaalkaaGreatDoorPu03
import Derived.OrdersIn
import Derived.Scope
import Derived.Lib.ConvBytes
import Derived.Deep.Cut
import Derived.ProofKit
import Derived.OpenShut
import Derived.ShutString
import Derived.ChangeOld
import Derived.Below
import Derived.Lib.SmallJoins
import Derived.Laws.Tables
import Derived.OrdersHeld
open Go.Proofs.Tryz
open List renaming setIfInBounds_toArray → qj
open List renaming set_cons_zero → qz
open List renaming set_cons_succ → qv
open List renaming replicate → QL, length_map → QN, length_take → QV, map_append → Q9, getD → QR, getElem?_eq_getElem → QT, nil_append → Ji, length_append → QO, append_assoc → Jb, take_length → Zh, length_cons → Jr, map_cons → Jd, map_nil → Jt, size_toArray → Jh, length_nil → JE, push_toArray → Zk, append_toArray → Zl, cons_append → JL, length → JT, mem_map → QW, foldl_cons → J4, mem_cons → Ja, not_mem_nil → JM, mem_singleton → Je, take_of_length_le → Js, mem_append → QS, getElem?_map → Jn, getElem?_eq_some_iff → JS, set_append → JR
open Go.World renaming size_alloc → QQ, alloc → QY
open Nat renaming le_refl → QI, lt_or_ge → Jo, le_trans → QX, reduceAdd → JI, lt_of_lt_of_le → Jq, zero_add → JD
open Go.RowKit.Below renaming refl → QK
open Go.Value renaming ownBlock → JF, slice → JZ, int → QM
open BitVec renaming ofInt → QU, getLsbD_shiftLeft → ZF, ofNat → QP, toNat_ofNat → Q8
open Array renaming getElem?_eq_some_iff → Zm, replicate_succ → Zi, replicate_zero → Zj, getElem?_eq_none → J3
open Subtype renaming val → Jj
open Go.Region renaming wanted → Jv, ready → Jl
open Bool renaming and_eq_true → JC
open Or renaming inl → QZ
open Option.some renaming inj → Ju
set_option linter.unusedVariables false
set_option linter.unusedSimpArgs false
set_option maxRecDepth 100000
set_option maxHeartbeats 4000000
namespace Go.Proofs.YtelgjaiknaalkaaGreatDoor
section
open Go.RowKit
theorem qgG(kk:qf)(j:Nat)(h:kk.length≤64)(hj:kk.length+j=64):kk++QL j 0#8=vW kk:=by
 unfold vW;rw[show 64-kk.length=j by omega]
def yx(l:qf)(x:BitVec 8)(k:Nat):qf:=(l.take k).map (· ^^^x)
theorem kL(l:qf)(x:BitVec 8)(k:Nat)(hk:k≤l.length):(yx l x k).length=k:=by unfold yx;rw[QN,QV];omega
theorem qbk(l:qf)(x:BitVec 8)(k:Nat)(hk:k<l.length):yx l x (k+1)=yx l x k++ [l.getD k 0#8^^^x]:=by
 unfold yx;rw[List.take_succ_eq_append_getElem hk,Q9];simp[QR,QT hk]
theorem kU.apart{α:Type}{f:α→Value}{w w':World}{v v' u:Value}{B E:Nat}{ys:List α}(hg:kU w w' v v')(hne:∀b,v.ownBlock=some b→u.ownBlock≠some b)(hu:Own f w B E u ys):∀b,v'.ownBlock=some b→u.ownBlock≠some b:=by
 intro b e1 e2;rcases hg.at_ with e|e
 ·rw[e]at e1;exact hne b e1 e2
 ·rw[e]at e1;injection e1 with e1;have:=(hu.lt b e2).2;omega
theorem qfF(w:World)(B c n Bt d m:Nat)(A C:Option Addr)(key xs:qf)(hk:Rd b8 w B A key)(hB:B≤w.heap.size)(hn:n=key.length)(hsm:n≤64)(hx:Rd b8 w Bt C xs)(hBt:Bt≤w.heap.size)(hm:m=xs.length)(hbig:m≤40000000):
 Calls prog 129 #[.slice A n c,.slice C m d] w fun e w'=>e= .returned (jL b8 (yw key xs))∧Below w.heap.size w w':=by
 obtain⟨i0,hi0,hz0,hz1,hz2⟩:=info_parts jN;have HK:=qe hk;have HN:=qe hn;have HX:=qe hx;have HM:=qe hm;have HKl:=qe (show key.length≤64 by omega);have HKb:=qe (show Qo key=key from if_neg (by omega));have HA0:=qe ((Arr.new b8 w 23 (QL 32 0#8)).alloc (.cells #[] 5));have HE:=qe (show Own b8 ((w.alloc (.cells ((QL 32 0#8).map b8).toArray 23)).alloc (.cells #[] 5)) w.heap.size 5 (.slice (some ⟨w.heap.size+1,0,none⟩) 0 0) []from by
  have h:=(qaA (w.alloc (.cells ((QL 32 0#8).map b8).toArray 23))).less (B':=w.heap.size) (by simp);rw[QQ]at h;exact h)
 clear hk hn hx hm;go_enter func129,ntmps129
 go_wp2_with (at_builtin;(refine qh rfl (.tmp 11) (.tmp 12) 28 rfl qH w.heap.size 5 i0 _ 1 underlying28 hi0 hz0 hz1 hz2 rfl _ _ rfl HE.1 B A n c key rfl HN.1 ((HK.1.alloc hB _).alloc (by simp;omega) _) (by have:=HN.1;simp[maxLen];omega) (by have:=HN.1;simp;omega) (by simp;omega) ?_;intro v1 w1 hown1 hg1 hbb1;obtain⟨A1,c1,rfl,-,-,-,-⟩:=hown1.shape' (n:=n) (by simp[HN.1]);have HO2:=qe (hown1.cast (Ji _));have HB2:=qe (hbb1 _ _ (QI _) (((QK _ w).alloc (QI _) _).alloc (by simp) _));have HA2:=qe (HA0.1.grown hg1.by_ (zh HA0.1 (by decide) HE.1));clear hown1 hg1 hbb1))
 go_loopw [5] (fun v wr=>∃j:Nat,(key).length+j≤64∧Own b8 wr w.heap.size 5 v ((key)++QL j 0#8)∧Below w.heap.size w wr∧Arr b8 wr w.heap.size 23 (QL 32 0#8)) (fun v _=>64-(ut v).toNat)
 case atStart=>exact⟨0,by have:=HKl.1;omega,HO2.1.cast (by simp),HB2.1,HA2.1⟩
 case round=>
  clear HO2 HB2 HA2;obtain⟨j,hj,ho,hb,ha⟩:=hrel;obtain⟨L,hL⟩:∃L,L=(key).length+j:=⟨_,rfl⟩;have hlen:((key)++QL j 0#8).length=L:=by simp;omega
  obtain⟨Av,cv,rfl,-,-,-,-⟩:=ho.shape' hlen;have HO:=qe ho;have HB:=qe hb;have HA:=qe ha;have HLn:=qe hlen;have hz:=hb.size;have HL:=qe hL;have hLb:L≤64:=by omega
  clear ho hb ha hlen hL;by_cases hlt:L<64
  ·go_wp2_with (at_builtin;refine qh rfl (.tmp 25) (.tmp 26) 28 rfl qH w.heap.size 5 i0 _ 1 underlying28 hi0 hz0 hz1 hz2 rfl _ _ rfl (HO.1.alloc _) (wr.heap.size+1) _ 1 1 [0#8] rfl rfl (Rd.new b8 wr 5 [0#8]) (by rw[HLn.1];simp[maxLen];omega) (by rw[HLn.1];simp;omega) (by simp;omega) ?_;intro v7 w7 hown7 hg7 hbb7)
   obtain⟨A7,c7,rfl,-,-,-,-⟩:=hown7.shape' (n:=L+1) (by rw[QO,HLn.1];rfl);have ha7:=(HA.1.alloc (.cells #[.int .u8 0] 5)).grown hg7.by_ (zh (HA.1.alloc (.cells #[.int .u8 0] 5)) (by decide) (HO.1.alloc (.cells #[.int .u8 0] 5)));go_roundw
   case rel=>exact⟨j+1,by have:=HL.1;omega,by rw[List.replicate_succ',←Jb];exact hown7,hbb7 _ _ (QI _) (HB.1.alloc hz _),ha7⟩
   case measure=>simp[ut];omega
  ·obtain rfl:L=64:=by omega
   have hkf:=qgG (key) j HKl.1 HL.1.symm;obtain⟨F,hF⟩:∃F,F=vW (key):=⟨_,rfl⟩;have hFl:F.length=64:=by rw[hF];exact qay _ HKl.1
   have HF:=qe (show Own b8 wr w.heap.size 5 (.slice Av 64 cv) F by rw[hF,←hkf];exact HO.1);have HFl:=qe hFl;have HFe:=qe (show F=vW (Qo key) by rw[hF,HKb.1]);obtain⟨gf,cf,ef,hgf1,hgf2,-⟩:=HF.1.form' hFl (by omega);injection ef with ef1 ef2 ef3;subst ef1;clear HO HLn hkf hF hFl HL;obtain⟨wo,rfl⟩:∃wo:World,wo=wr:=⟨_,rfl⟩;go_wp2_with fail
   go_loopw [7,8,9] (fun va vb iv wr=>∃k:Nat,k≤64∧iv= .int .i64 (k:Int)∧Own b8 wr wo.heap.size 5 va (yx F 54#8 k)∧Own b8 wr wo.heap.size 5 vb (yx F 92#8 k)∧(∀b,va.ownBlock=some b→vb.ownBlock≠some b)∧Below wo.heap.size wo wr) (fun _ _ iv _=>64-(intOf iv).toNat)
   case atStart=>exact⟨0,by omega,rfl,Own.nil_ _ _ _ _,Own.nil_ _ _ _ _,fun b e=>by simp[JF]at e,QK _ _⟩
   case round=>
    obtain⟨k,hk,rfl,ha,hb2,hne,hbw⟩:=hrel;have hz2':=hbw.size;obtain⟨Aa,ca,rfl,-,-,-,-⟩:=ha.shape' (kL F 54#8 k (by rw[HFl.1];exact hk));obtain⟨Ab,cb,rfl,-,-,-,-⟩:=hb2.shape' (kL F 92#8 k (by rw[HFl.1];exact hk));have HXa:=qe ha;have HXb:=qe hb2;have HNe:=qe hne;have HBw:=qe hbw;clear ha hb2 hne hbw;by_cases hlt2:k<64
    ·have cf0:wr.cell? ⟨gf,k,none⟩=some (b8 (F.getD k 0#8)):=by
      have h2:k<F.length:=by rw[HFl.1];exact hlt2
      rw[((HF.1.below HBw.1 (QI _)).at_ h2).1,QR,QT h2];rfl
     have sa:=qbk F 54#8 k (by rw[HFl.1];exact hlt2);have sb:=qbk F 92#8 k (by rw[HFl.1];exact hlt2);have la:=kL F 54#8 k (by rw[HFl.1];omega);have lb:=kL F 92#8 k (by rw[HFl.1];omega);have Qf:=qe (show∀W',Below wo.heap.size wo W'→W'.cell? ⟨gf,k,none⟩=some (b8 (F.getD k 0#8))from fun W' hb'=>by
      have h2:k<F.length:=by rw[HFl.1];exact hlt2
      rw[((HF.1.below hb' (QI _)).at_ h2).1,QR,QT h2];rfl)
     generalize F.getD k 0#8=x at cf0 sa sb Qf;simp only[b8]at cf0;have lk:(k:Int)<64:=by omega
     have Sa:=qe sa;have Sb:=qe sb;have La:=qe la;have Lb:=qe lb;clear sa sb la lb;go_wp2_with (first
      |(at_builtin;(refine qh rfl (.tmp 32) (.tmp 38) 28 rfl qH wo.heap.size 5 i0 _ 1 underlying28 hi0 hz0 hz1 hz2 rfl _ _ rfl (HXa.1.alloc _) (wr.heap.size+1) _ 1 1 [x^^^54#8] rfl rfl (Rd.new b8 wr 5 [x^^^54#8]) (by rw[La.1];simp[maxLen];omega) (by rw[La.1];simp;omega) (by simp;omega) ?_;intro v7 w7 hown7 hg7 hbb7;have HV7:=qe (hown7.cast Sa.1.symm);have HG7:=qe hg7;have HB7:=qe (hbb7 _ _ (QI _) (HBw.1.alloc hz2' _));have HXb7:=qe ((HXb.1.alloc (.cells #[b8 (x^^^54#8)] 5)).kept' hg7.by_ (fun b e hv=>HNe.1 b e hv));have hs7:=hg7.size;have cf7:=Qf.out w7 HB7.1;simp only[b8]at cf7;have HNe7:=qe (hg7.apart HNe.1 (HXb.1.alloc (.cells #[b8 (x^^^54#8)] 5)));clear hown7 hg7 hbb7))
      |(at_builtin;(refine qh rfl (.tmp 40) (.tmp 46) 28 rfl qH wo.heap.size 5 i0 _ 1 underlying28 hi0 hz0 hz1 hz2 rfl _ _ rfl (HXb7.1.alloc _) (w7.heap.size+1) _ 1 1 [x^^^92#8] rfl rfl (Rd.new b8 w7 5 [x^^^92#8]) (by rw[Lb.1];simp[maxLen];omega) (by rw[Lb.1];simp;omega) (by simp at hs7;simp;omega) ?_;intro v8 w8 hown8 hg8 hbb8)))
     have HA8:=qe ((HV7.1.alloc (.cells #[b8 (x^^^92#8)] 5)).kept' hg8.by_ (fun b e hv=>HNe7.1 b hv e));have hap:=hg8.apart (fun b e1 e2=>HNe7.1 b e2 e1) (HV7.1.alloc (.cells #[b8 (x^^^92#8)] 5));have HB8:=qe (hbb8 _ _ (QI _) (HB7.1.alloc HB7.1.size _));have HAp:=qe hap;have HO8:=qe (hown8.cast Sb.1.symm);clear hap hown8 hg8 hbb8;go_roundw
     case rel=>exact⟨k+1,by omega,by go_num,HA8.1,HO8.1,fun b e1 e2=>HAp.1 b e2 e1,HB8.1⟩
     case measure=>simp[intOf];omega
    ·obtain rfl:k=64:=by omega
     have hpa:yx F 54#8 64=vA key 54#8:=by unfold yx vA;rw[←HFl.1,Zh,HFe.1]
     have hpb:yx F 92#8 64=vA key 92#8:=by unfold yx vA;rw[←HFl.1,Zh,HFe.1]
     have HPa:=qe (HXa.1.cast hpa);have HPb:=qe (HXb.1.cast hpb);have hgA:=HA.1.lt;have HBt:=qe (HB.1.trans (HBw.1.mono HB.1.size));have HAt:=qe (HA.1.below HBw.1 hgA);have HXt:=qe ((HX.1.more hBt).below HBt.1);obtain⟨S,hS⟩:∃S,S=zt (vA key 54#8++xs):=⟨_,rfl⟩;obtain⟨Z,hZ⟩:∃Z,Z=yw key xs:=⟨_,rfl⟩;obtain⟨N,hN⟩:∃N,N=64+m:=⟨_,rfl⟩;have HN2:=qe hN;have hNb:N≤40000064:=by omega
     have HSe:=qe hS;have HZe:=qe hZ;have HSl:=qe (show S.length=32 by rw[hS];exact vg _);have HZl:=qe (show Z.length=32 by rw[hZ];exact vg _);clear HXa HXb HA HBw HB hpa hpb hS hZ hN HF HFl HFe hlt2 hk;go_wp2_with (at_builtin;(refine qh rfl (.tmp 48) (.tmp 49) 28 rfl qH wo.heap.size 5 i0 _ 1 underlying28 hi0 hz0 hz1 hz2 rfl _ _ rfl HPa.1 w.heap.size C m d xs rfl HM.1 HXt.1 (by have:=HM.1;rw[ji];unfold maxLen;omega) (by have:=HM.1;rw[ji];omega) (by omega) ?_;intro v3 w3 hown3 hg3 hbb3;obtain⟨A3,c3,rfl,-,-,-,-⟩:=hown3.shape' (n:=N) (by rw[QO,ji,←HM.1];exact HN2.1.symm);have HO3:=qe hown3;have HB3:=qe (hbb3 _ _ (by omega) HBt.1);have HPb3:=qe (HPb.1.kept' hg3.by_ (fun b e hv=>HNe.1 b e hv));have HA3:=qe (HAt.1.grown hg3.by_ (zh HAt.1 (by decide) HPa.1));have hz3:wr.heap.size≤w3.heap.size:=hg3.size;clear hown3 hg3 hbb3))
     have hs:=qaf w3 w3.heap.size c3 N A3 _ HO3.1.rd (QI _) (by rw[QO,ji,←HM.1];exact HN2.1) (by omega);rw[qn,←HSe.1]at hs;have HSh:=qe hs;clear hs;refine HSh.1.mono ?_;rintro e w4 ⟨rfl,hb4⟩;have hz4:=hb4.size;have HB4:=qe (HB3.1.trans (hb4.mono HB3.1.size));have HPb4:=qe (HPb3.1.below hb4 (by omega));have HA4:=qe (HA3.1.below hb4 (by omega))
     have HT4:=qe (Arr.new b8 w4 23 (QL 32 0#8));clear hb4 HSh HB3 HPb3 HA3;go_wp2_with (first
      |(refine qk rfl 23 (.tmp 10) (.tmp 51) rfl w4.heap.size rfl S rfl _ _ HT4.1 (by rw[HSl.1];rfl) (by rw[qR,HSl.1]) qU ?_;intro w5 hx5 hg5;have hz5:w4.heap.size<w5.heap.size:=hx5.lt;have HS5:=qe hx5;have HPb5:=qe ((HPb4.1.alloc (.cells ((QL 32 0#8).map b8).toArray 23)).kept' hg5 (fun b e hv=>by cases e;exact absurd (HPb4.1.lt _ hv).2 (Nat.lt_irrefl _)));have HA5:=qe ((HA4.1.alloc (.cells ((QL 32 0#8).map b8).toArray 23)).grown hg5 (by have:=HA4.1.lt;simp;omega));have HB5:=qe ((HB4.1.alloc HB4.1.size (.cells ((QL 32 0#8).map b8).toArray 23)).grown hg5 (by simp;omega) (fun k e=>by cases e;omega));clear hx5 hg5)
      |(at_builtin;(refine qh rfl (.tmp 52) (.tmp 53) 28 rfl qH wo.heap.size 5 i0 _ 1 underlying28 hi0 hz0 hz1 hz2 rfl _ _ rfl HPb5.1 (w4.heap.size+1) (some ⟨w4.heap.size,0,none⟩) 32 32 S rfl HSl.1.symm (HS5.1.rd 0) (by have:=HSl.1;rw[ji];unfold maxLen;omega) (by have:=HSl.1;rw[ji];omega) (by omega) ?_;intro v6 w6 hown6 hg6 hbb6;obtain⟨A6,c6,rfl,-,-,-,-⟩:=hown6.shape' (n:=96) (by rw[QO,ji,HSl.1]);have HO6:=qe hown6;have HB6:=qe (hbb6 _ _ (by omega) HB5.1);have HA6:=qe (HA5.1.grown hg6.by_ (zh HA5.1 (by decide) HPb5.1));have hz6:w5.heap.size≤w6.heap.size:=hg6.size;clear hown6 hg6 hbb6)))
     have hs:=qaf w6 w6.heap.size c6 96 A6 _ HO6.1.rd (QI _) (by rw[QO,ji,HSl.1]) (by omega);rw[qn,HSe.1,show zt (vA key 92#8++zt (vA key 54#8++xs))=yw key xs from rfl,←HZe.1]at hs;have HSh:=qe hs;clear hs;refine HSh.1.mono ?_;rintro e w7 ⟨rfl,hb7⟩;have hz7:=hb7.size;have HB7:=qe (HB6.1.trans (hb7.mono HB6.1.size));have HA7:=qe (HA6.1.below hb7 (by omega))
     clear hb7 HSh HB6 HA6;go_wp2_with (refine qk rfl 23 (.tmp 4) (.tmp 55) rfl w.heap.size rfl Z rfl _ _ HA7.1 (by rw[HZl.1];rfl) (by rw[qR,HZl.1]) qU ?_;intro w9 hx9 hg9)
     refine bodyPost_ret (v:= .agg (Z.map b8).toArray) (qY (g:=w.heap.size) rfl _ _ _ _ _ rfl hx9 underlying23 rfl (by rw[qR,HZl.1])) rfl ?_;exact⟨by rw[qn,HZe.1],HB7.1.grown hg9 HB7.1.size (fun k e=>by cases e;exact QI _)⟩
theorem qim(w:World)(B c n Bt d m:Nat)(A C:Option Addr)(key xs:qf)(hk:Rd b8 w B A key)(hB:B≤w.heap.size)(hn:n=key.length)(hsm:¬n≤64)(hnb:n≤40000000)(hx:Rd b8 w Bt C xs)(hBt:Bt≤w.heap.size)(hm:m=xs.length)(hbig:m≤40000000):
 Calls prog 129 #[.slice A n c,.slice C m d] w fun e w'=>e= .returned (jL b8 (yw key xs))∧Below w.heap.size w w':=by
 obtain⟨i0,hi0,hz0,hz1,hz2⟩:=info_parts jN;obtain⟨D,hD⟩:∃D,D=zt key:=⟨_,rfl⟩;have HDe:=qe hD;have HDl:=qe (show D.length=32 by rw[hD];exact vg _);have HK:=qe hk;have HN:=qe hn;have HX:=qe hx;have HM:=qe hm;have HKl:=qe (show D.length≤64 by rw[HDl.1];omega);have HKb:=qe (show Qo key=D by rw[hD];exact if_pos (by omega));have HA0:=qe ((Arr.new b8 w 23 (QL 32 0#8)).alloc (.cells #[] 5))
 have HE:=qe (show Own b8 ((w.alloc (.cells ((QL 32 0#8).map b8).toArray 23)).alloc (.cells #[] 5)) w.heap.size 5 (.slice (some ⟨w.heap.size+1,0,none⟩) 0 0) []from by
  have h:=(qaA (w.alloc (.cells ((QL 32 0#8).map b8).toArray 23))).less (B':=w.heap.size) (by simp);rw[QQ]at h;exact h)
 clear hk hn hx hm hD;go_enter func129,ntmps129
 go_wp2_with (at_builtin;(refine qh rfl (.tmp 11) (.tmp 12) 28 rfl qH w.heap.size 5 i0 _ 1 underlying28 hi0 hz0 hz1 hz2 rfl _ _ rfl HE.1 B A n c key rfl HN.1 ((HK.1.alloc hB _).alloc (by simp;omega) _) (by have:=HN.1;simp[maxLen];omega) (by have:=HN.1;simp;omega) (by simp;omega) ?_;intro v1 w1 hown1 hg1 hbb1;obtain⟨A1,c1,rfl,-,-,-,-⟩:=hown1.shape' (n:=n) (by simp[HN.1]);have HO1:=qe (hown1.cast (Ji _));have HB1:=qe (hbb1 _ _ (QI _) (((QK _ w).alloc (QI _) _).alloc (by simp) _));have HA1:=qe (HA0.1.grown hg1.by_ (zh HA0.1 (by decide) HE.1));clear hown1 hg1 hbb1))
 have hs:=qaf w1 w1.heap.size c1 n A1 _ HO1.1.rd (QI _) HN.1 (by omega);rw[qn,←HDe.1]at hs;have HSh:=qe hs;clear hs;refine HSh.1.mono ?_;rintro e w2 ⟨rfl,hb2⟩;have hz2w:=hb2.size;have HBx:=qe (HB1.1.trans (hb2.mono HB1.1.size));have HAx:=qe (HA1.1.below hb2 HA1.1.lt);have hzx:=HBx.1.size;have HT2:=qe (Arr.new b8 w2 23 (QL 32 0#8));clear hb2 HSh HB1 HA1
 go_wp2_with (first
  |(refine qk rfl 23 (.tmp 6) (.tmp 18) rfl w2.heap.size rfl D rfl _ _ HT2.1 (by rw[HDl.1];rfl) (by rw[qR,HDl.1]) qU ?_;intro w5 hx5 hg5;have hz5:w2.heap.size<w5.heap.size:=hx5.lt;have HD5:=qe (hx5.alloc (.cells #[] 5));have HA5:=qe (((HAx.1.alloc (.cells ((QL 32 0#8).map b8).toArray 23)).grown hg5 (by have:=HAx.1.lt;simp;omega)).alloc (.cells #[] 5));have hb5:=(HBx.1.alloc HBx.1.size (.cells ((QL 32 0#8).map b8).toArray 23)).grown hg5 (by simp;omega) (fun k e=>by cases e;omega);have HB5:=qe (hb5.alloc hb5.size (.cells #[] 5));have HE5:=qe ((qaA w5).less (B':=w.heap.size) (by omega));clear hx5 hg5 hb5)
  |(at_builtin;(refine qh rfl (.tmp 19) (.tmp 20) 28 rfl qH w.heap.size 5 i0 _ 1 underlying28 hi0 hz0 hz1 hz2 rfl _ _ rfl HE5.1 (w2.heap.size+1) (some ⟨w2.heap.size,0,none⟩) 32 32 D rfl HDl.1.symm (HD5.1.rd 0) (by have:=HDl.1;simp[maxLen];omega) (by have:=HDl.1;simp;omega) (by simp;omega) ?_;intro v6 w6 hown6 hg6 hbb6;obtain⟨A6,c6,rfl,-,-,-,-⟩:=hown6.shape' (n:=32) (by simp[HDl.1]);have HO2:=qe (hown6.cast (Ji _));have HB2:=qe (hbb6 _ _ (QI _) HB5.1);have HA2:=qe (HA5.1.grown hg6.by_ (zh HA5.1 (by decide) HE5.1));clear hown6 hg6 hbb6)))
 clear HA5 HB5 HE5 HD5 HBx HAx HT2 HDl;go_loopw [5] (fun v wr=>∃j:Nat,(D).length+j≤64∧Own b8 wr w.heap.size 5 v ((D)++QL j 0#8)∧Below w.heap.size w wr∧Arr b8 wr w.heap.size 23 (QL 32 0#8)) (fun v _=>64-(ut v).toNat)
 case atStart=>exact⟨0,by have:=HKl.1;omega,HO2.1.cast (by simp),HB2.1,HA2.1⟩
 case round=>
  clear HO2 HB2 HA2;obtain⟨j,hj,ho,hb,ha⟩:=hrel;obtain⟨L,hL⟩:∃L,L=(D).length+j:=⟨_,rfl⟩;have hlen:((D)++QL j 0#8).length=L:=by simp;omega
  obtain⟨Av,cv,rfl,-,-,-,-⟩:=ho.shape' hlen;have HO:=qe ho;have HB:=qe hb;have HA:=qe ha;have HLn:=qe hlen;have hz:=hb.size;have HL:=qe hL;have hLb:L≤64:=by omega
  clear ho hb ha hlen hL;by_cases hlt:L<64
  ·go_wp2_with (at_builtin;refine qh rfl (.tmp 25) (.tmp 26) 28 rfl qH w.heap.size 5 i0 _ 1 underlying28 hi0 hz0 hz1 hz2 rfl _ _ rfl (HO.1.alloc _) (wr.heap.size+1) _ 1 1 [0#8] rfl rfl (Rd.new b8 wr 5 [0#8]) (by rw[HLn.1];simp[maxLen];omega) (by rw[HLn.1];simp;omega) (by simp;omega) ?_;intro v7 w7 hown7 hg7 hbb7)
   obtain⟨A7,c7,rfl,-,-,-,-⟩:=hown7.shape' (n:=L+1) (by rw[QO,HLn.1];rfl);have ha7:=(HA.1.alloc (.cells #[.int .u8 0] 5)).grown hg7.by_ (zh (HA.1.alloc (.cells #[.int .u8 0] 5)) (by decide) (HO.1.alloc (.cells #[.int .u8 0] 5)));go_roundw
   case rel=>exact⟨j+1,by have:=HL.1;omega,by rw[List.replicate_succ',←Jb];exact hown7,hbb7 _ _ (QI _) (HB.1.alloc hz _),ha7⟩
   case measure=>simp[ut];omega
  ·obtain rfl:L=64:=by omega
   have hkf:=qgG (D) j HKl.1 HL.1.symm;obtain⟨F,hF⟩:∃F,F=vW (D):=⟨_,rfl⟩;have hFl:F.length=64:=by rw[hF];exact qay _ HKl.1
   have HF:=qe (show Own b8 wr w.heap.size 5 (.slice Av 64 cv) F by rw[hF,←hkf];exact HO.1);have HFl:=qe hFl;have HFe:=qe (show F=vW (Qo key) by rw[hF,HKb.1]);obtain⟨gf,cf,ef,hgf1,hgf2,-⟩:=HF.1.form' hFl (by omega);injection ef with ef1 ef2 ef3;subst ef1;clear HO HLn hkf hF hFl HL;obtain⟨wo,rfl⟩:∃wo:World,wo=wr:=⟨_,rfl⟩;go_wp2_with fail
   go_loopw [7,8,9] (fun va vb iv wr=>∃k:Nat,k≤64∧iv= .int .i64 (k:Int)∧Own b8 wr wo.heap.size 5 va (yx F 54#8 k)∧Own b8 wr wo.heap.size 5 vb (yx F 92#8 k)∧(∀b,va.ownBlock=some b→vb.ownBlock≠some b)∧Below wo.heap.size wo wr) (fun _ _ iv _=>64-(intOf iv).toNat)
   case atStart=>exact⟨0,by omega,rfl,Own.nil_ _ _ _ _,Own.nil_ _ _ _ _,fun b e=>by simp[JF]at e,QK _ _⟩
   case round=>
    obtain⟨k,hk,rfl,ha,hb2,hne,hbw⟩:=hrel;have hz2':=hbw.size;obtain⟨Aa,ca,rfl,-,-,-,-⟩:=ha.shape' (kL F 54#8 k (by rw[HFl.1];exact hk));obtain⟨Ab,cb,rfl,-,-,-,-⟩:=hb2.shape' (kL F 92#8 k (by rw[HFl.1];exact hk));have HXa:=qe ha;have HXb:=qe hb2;have HNe:=qe hne;have HBw:=qe hbw;clear ha hb2 hne hbw;by_cases hlt2:k<64
    ·have cf0:wr.cell? ⟨gf,k,none⟩=some (b8 (F.getD k 0#8)):=by
      have h2:k<F.length:=by rw[HFl.1];exact hlt2
      rw[((HF.1.below HBw.1 (QI _)).at_ h2).1,QR,QT h2];rfl
     have sa:=qbk F 54#8 k (by rw[HFl.1];exact hlt2);have sb:=qbk F 92#8 k (by rw[HFl.1];exact hlt2);have la:=kL F 54#8 k (by rw[HFl.1];omega);have lb:=kL F 92#8 k (by rw[HFl.1];omega);have Qf:=qe (show∀W',Below wo.heap.size wo W'→W'.cell? ⟨gf,k,none⟩=some (b8 (F.getD k 0#8))from fun W' hb'=>by
      have h2:k<F.length:=by rw[HFl.1];exact hlt2
      rw[((HF.1.below hb' (QI _)).at_ h2).1,QR,QT h2];rfl)
     generalize F.getD k 0#8=x at cf0 sa sb Qf;simp only[b8]at cf0;have lk:(k:Int)<64:=by omega
     have Sa:=qe sa;have Sb:=qe sb;have La:=qe la;have Lb:=qe lb;clear sa sb la lb;go_wp2_with (first
      |(at_builtin;(refine qh rfl (.tmp 32) (.tmp 38) 28 rfl qH wo.heap.size 5 i0 _ 1 underlying28 hi0 hz0 hz1 hz2 rfl _ _ rfl (HXa.1.alloc _) (wr.heap.size+1) _ 1 1 [x^^^54#8] rfl rfl (Rd.new b8 wr 5 [x^^^54#8]) (by rw[La.1];simp[maxLen];omega) (by rw[La.1];simp;omega) (by simp;omega) ?_;intro v7 w7 hown7 hg7 hbb7;have HV7:=qe (hown7.cast Sa.1.symm);have HG7:=qe hg7;have HB7:=qe (hbb7 _ _ (QI _) (HBw.1.alloc hz2' _));have HXb7:=qe ((HXb.1.alloc (.cells #[b8 (x^^^54#8)] 5)).kept' hg7.by_ (fun b e hv=>HNe.1 b e hv));have hs7:=hg7.size;have cf7:=Qf.out w7 HB7.1;simp only[b8]at cf7;have HNe7:=qe (hg7.apart HNe.1 (HXb.1.alloc (.cells #[b8 (x^^^54#8)] 5)));clear hown7 hg7 hbb7))
      |(at_builtin;(refine qh rfl (.tmp 40) (.tmp 46) 28 rfl qH wo.heap.size 5 i0 _ 1 underlying28 hi0 hz0 hz1 hz2 rfl _ _ rfl (HXb7.1.alloc _) (w7.heap.size+1) _ 1 1 [x^^^92#8] rfl rfl (Rd.new b8 w7 5 [x^^^92#8]) (by rw[Lb.1];simp[maxLen];omega) (by rw[Lb.1];simp;omega) (by simp at hs7;simp;omega) ?_;intro v8 w8 hown8 hg8 hbb8)))
     have HA8:=qe ((HV7.1.alloc (.cells #[b8 (x^^^92#8)] 5)).kept' hg8.by_ (fun b e hv=>HNe7.1 b hv e));have hap:=hg8.apart (fun b e1 e2=>HNe7.1 b e2 e1) (HV7.1.alloc (.cells #[b8 (x^^^92#8)] 5));have HB8:=qe (hbb8 _ _ (QI _) (HB7.1.alloc HB7.1.size _));have HAp:=qe hap;have HO8:=qe (hown8.cast Sb.1.symm);clear hap hown8 hg8 hbb8;go_roundw
     case rel=>exact⟨k+1,by omega,by go_num,HA8.1,HO8.1,fun b e1 e2=>HAp.1 b e2 e1,HB8.1⟩
     case measure=>simp[intOf];omega
    ·obtain rfl:k=64:=by omega
     have hpa:yx F 54#8 64=vA key 54#8:=by unfold yx vA;rw[←HFl.1,Zh,HFe.1]
     have hpb:yx F 92#8 64=vA key 92#8:=by unfold yx vA;rw[←HFl.1,Zh,HFe.1]
     have HPa:=qe (HXa.1.cast hpa);have HPb:=qe (HXb.1.cast hpb);have hgA:=HA.1.lt;have HBt:=qe (HB.1.trans (HBw.1.mono HB.1.size));have HAt:=qe (HA.1.below HBw.1 hgA);have HXt:=qe ((HX.1.more hBt).below HBt.1);obtain⟨S,hS⟩:∃S,S=zt (vA key 54#8++xs):=⟨_,rfl⟩;obtain⟨Z,hZ⟩:∃Z,Z=yw key xs:=⟨_,rfl⟩;obtain⟨N,hN⟩:∃N,N=64+m:=⟨_,rfl⟩;have HN2:=qe hN;have hNb:N≤40000064:=by omega
     have HSe:=qe hS;have HZe:=qe hZ;have HSl:=qe (show S.length=32 by rw[hS];exact vg _);have HZl:=qe (show Z.length=32 by rw[hZ];exact vg _);clear HXa HXb HA HBw HB hpa hpb hS hZ hN HF HFl HFe hlt2 hk;go_wp2_with (at_builtin;(refine qh rfl (.tmp 48) (.tmp 49) 28 rfl qH wo.heap.size 5 i0 _ 1 underlying28 hi0 hz0 hz1 hz2 rfl _ _ rfl HPa.1 w.heap.size C m d xs rfl HM.1 HXt.1 (by have:=HM.1;rw[ji];unfold maxLen;omega) (by have:=HM.1;rw[ji];omega) (by omega) ?_;intro v3 w3 hown3 hg3 hbb3;obtain⟨A3,c3,rfl,-,-,-,-⟩:=hown3.shape' (n:=N) (by rw[QO,ji,←HM.1];exact HN2.1.symm);have HO3:=qe hown3;have HB3:=qe (hbb3 _ _ (by omega) HBt.1);have HPb3:=qe (HPb.1.kept' hg3.by_ (fun b e hv=>HNe.1 b e hv));have HA3:=qe (HAt.1.grown hg3.by_ (zh HAt.1 (by decide) HPa.1));have hz3:wr.heap.size≤w3.heap.size:=hg3.size;clear hown3 hg3 hbb3))
     have hs:=qaf w3 w3.heap.size c3 N A3 _ HO3.1.rd (QI _) (by rw[QO,ji,←HM.1];exact HN2.1) (by omega);rw[qn,←HSe.1]at hs;have HSh:=qe hs;clear hs;refine HSh.1.mono ?_;rintro e w4 ⟨rfl,hb4⟩;have hz4:=hb4.size;have HB4:=qe (HB3.1.trans (hb4.mono HB3.1.size));have HPb4:=qe (HPb3.1.below hb4 (by omega));have HA4:=qe (HA3.1.below hb4 (by omega))
     have HT4:=qe (Arr.new b8 w4 23 (QL 32 0#8));clear hb4 HSh HB3 HPb3 HA3;go_wp2_with (first
      |(refine qk rfl 23 (.tmp 10) (.tmp 51) rfl w4.heap.size rfl S rfl _ _ HT4.1 (by rw[HSl.1];rfl) (by rw[qR,HSl.1]) qU ?_;intro w5 hx5 hg5;have hz5:w4.heap.size<w5.heap.size:=hx5.lt;have HS5:=qe hx5;have HPb5:=qe ((HPb4.1.alloc (.cells ((QL 32 0#8).map b8).toArray 23)).kept' hg5 (fun b e hv=>by cases e;exact absurd (HPb4.1.lt _ hv).2 (Nat.lt_irrefl _)));have HA5:=qe ((HA4.1.alloc (.cells ((QL 32 0#8).map b8).toArray 23)).grown hg5 (by have:=HA4.1.lt;simp;omega));have HB5:=qe ((HB4.1.alloc HB4.1.size (.cells ((QL 32 0#8).map b8).toArray 23)).grown hg5 (by simp;omega) (fun k e=>by cases e;omega));clear hx5 hg5)
      |(at_builtin;(refine qh rfl (.tmp 52) (.tmp 53) 28 rfl qH wo.heap.size 5 i0 _ 1 underlying28 hi0 hz0 hz1 hz2 rfl _ _ rfl HPb5.1 (w4.heap.size+1) (some ⟨w4.heap.size,0,none⟩) 32 32 S rfl HSl.1.symm (HS5.1.rd 0) (by have:=HSl.1;rw[ji];unfold maxLen;omega) (by have:=HSl.1;rw[ji];omega) (by omega) ?_;intro v6 w6 hown6 hg6 hbb6;obtain⟨A6,c6,rfl,-,-,-,-⟩:=hown6.shape' (n:=96) (by rw[QO,ji,HSl.1]);have HO6:=qe hown6;have HB6:=qe (hbb6 _ _ (by omega) HB5.1);have HA6:=qe (HA5.1.grown hg6.by_ (zh HA5.1 (by decide) HPb5.1));have hz6:w5.heap.size≤w6.heap.size:=hg6.size;clear hown6 hg6 hbb6)))
     have hs:=qaf w6 w6.heap.size c6 96 A6 _ HO6.1.rd (QI _) (by rw[QO,ji,HSl.1]) (by omega);rw[qn,HSe.1,show zt (vA key 92#8++zt (vA key 54#8++xs))=yw key xs from rfl,←HZe.1]at hs;have HSh:=qe hs;clear hs;refine HSh.1.mono ?_;rintro e w7 ⟨rfl,hb7⟩;have hz7:=hb7.size;have HB7:=qe (HB6.1.trans (hb7.mono HB6.1.size));have HA7:=qe (HA6.1.below hb7 (by omega))
     clear hb7 HSh HB6 HA6;go_wp2_with (refine qk rfl 23 (.tmp 4) (.tmp 55) rfl w.heap.size rfl Z rfl _ _ HA7.1 (by rw[HZl.1];rfl) (by rw[qR,HZl.1]) qU ?_;intro w9 hx9 hg9)
     refine bodyPost_ret (v:= .agg (Z.map b8).toArray) (qY (g:=w.heap.size) rfl _ _ _ _ _ rfl hx9 underlying23 rfl (by rw[qR,HZl.1])) rfl ?_;exact⟨by rw[qn,HZe.1],HB7.1.grown hg9 HB7.1.size (fun k e=>by cases e;exact QI _)⟩
theorem qin(w:World)(B c n Bt d m:Nat)(A C:Option Addr)(key xs:qf)(hk:Rd b8 w B A key)(hB:B≤w.heap.size)(hn:n=key.length)(hnb:n≤40000000)(hx:Rd b8 w Bt C xs)(hBt:Bt≤w.heap.size)(hm:m=xs.length)(hbig:m≤40000000):
 Calls prog 129 #[.slice A n c,.slice C m d] w fun e w'=>e= .returned (jL b8 (yw key xs))∧Below w.heap.size w w':=by
 by_cases h:n≤64
 ·exact qfF w B c n Bt d m A C key xs hk hB hn h hx hBt hm hbig
 ·exact qim w B c n Bt d m A C key xs hk hB hn h hnb hx hBt hm hbig
def kM(key inf:qf):Nat→qf
 |0=> []
 |i+1=>yw key (kM key inf i++inf++ [QU 8 ((i:Int)+1)])
def exA(key inf:qf):Nat→qf
 |0=> []
 |i+1=>exA key inf i++kM key inf (i+1)
theorem kN(key inf:qf)(i:Nat):(kM key inf (i+1)).length=32:=qbW _ _
theorem qjt(key inf:qf)(i:Nat):(kM key inf i).length≤32:=by
 cases i with
 |zero=>simp[kM]
 |succ i=>rw[kN];exact QI _
theorem yH(key inf:qf)(i:Nat):(exA key inf i).length=32*i:=by
 induction i with
 |zero=>rfl
 |succ i ih=>simp only[exA,QO,ih,kN];omega
theorem qlX(key inf:qf)(i j n:Nat)(hij:i≤j)(hn:n≤32*i):(exA key inf j).take n=(exA key inf i).take n:=by
 induction j with
 |zero=>have:i=0:=by omega
        subst this;rfl
 |succ j ih=>
  rcases Jo i (j+1)with h|h
  ·simp only[exA]
   rw[List.take_append_of_le_length (by rw[yH];omega)];exact ih (by omega)
  ·have:i=j+1:=by omega
   subst this;rfl
def Qw(key inf:qf)(n:Nat):qf:=(exA key inf 255).take n
theorem qlY(key inf:qf)(n:Nat)(h:n≤8160):(Qw key inf n).length=n:=by
 unfold Qw;rw[QV,yH];omega
theorem qju(key inf:qf)(i n:Nat)(hi:i≤255)(hn:n≤32*i):Qw key inf n=(exA key inf i).take n:=qlX key inf i 255 n hi hn
def exL(key inf:qf)(l:List Nat):qf:=l.flatMap (kM key inf)
theorem qgH(key inf:qf)(l:List Nat)(i:Nat):exL key inf (l++ [i])=exL key inf l++kM key inf i:=by unfold exL;rw[List.flatMap_append];simp
theorem qnt(key inf:qf)(l:List Nat)(h:∀i∈l,1≤i):(exL key inf l).length=32*l.length:=by
 induction l with
 |nil=>rfl
 |cons i l ih=>
  have h1:(kM key inf i).length=32:=by
   obtain⟨j,rfl⟩:∃j,i=j+1:=⟨i-1,by have:=h i (by simp);omega⟩;exact kN _ _ _
  have h2:=ih (fun j hj=>h j (by simp[hj]));unfold exL at h2 ⊢;rw[List.flatMap_cons,QO,h1,h2,Jr];omega
theorem qkB(key inf:qf)(k:Nat):exL key inf (List.range' 1 k)=exA key inf k:=by
 induction k with
 |zero=>rfl
 |succ k ih=>rw[List.range'_concat,qgH,ih,show 1+1*k=k+1 by omega];rfl
theorem qeB(w:World)(B1 n1 c1 B2 n2 c2 N:Nat)(A1 A2:Option Addr)(key inf:qf)(hr1:Rd b8 w B1 A1 key)(hB1:B1≤w.heap.size)(hn1:n1=key.length)(hr2:Rd b8 w B2 A2 inf)(hB2:B2≤w.heap.size)(hn2:n2=inf.length)(hk:n1≤100000)(hi:n2≤100000)(hN:N≤8160):
 Calls prog 108 #[.slice A1 n1 c1,.slice A2 n2 c2,.int .i64 (N:Int)] w fun e w'=>∃A c,e= .returned (.tuple #[.slice A N c,.bool true])∧Own b8 w' w.heap.size 5 (.slice A N c) (Qw key inf N)∧Below w.heap.size w w':=by
 obtain⟨i0,hi0,hz0,hz1,hz2⟩:=info_parts jN;have H1:=qe hn1;have H2:=qe hn2;have R1:=qe (hr1.more hB1);have R2:=qe (hr2.more hB2);have lN:(N:Int)≤8160:=by omega
 clear hn1 hn2 hr1 hr2 hB1 hB2;go_enter func108,ntmps108
 go_wp2_with fail
 go_loopw [8,9,10] (fun vo vl iv wr=>∃k:Nat,k≤255∧32*k<N+32∧iv= .int .i64 ((k:Int)+1)∧Own b8 wr w.heap.size 5 vo (exA key inf k)∧Own b8 wr w.heap.size 5 vl (kM key inf k)∧Below w.heap.size w wr) (fun vo _ _ _=>N-(ut vo).toNat)
 case atStart=>exact⟨0,by omega,by omega,rfl,Own.nil_ _ _ _ _,Own.nil_ _ _ _ _,QK _ _⟩
 case round=>
  obtain⟨k,hk255,hkN,rfl,ho,hl,hb⟩:=hrel;obtain⟨L,hL⟩:∃L,L=32*k:=⟨_,rfl⟩;obtain⟨T,hT⟩:∃T,T=(kM key inf k).length:=⟨_,rfl⟩;have hTb:T≤32:=by rw[hT];exact qjt _ _ _
  obtain⟨Ao,co,rfl,-,-,hLc,-⟩:=ho.shape' (n:=L) (by rw[yH,hL]);obtain⟨Al,cl,rfl,-,-,-,-⟩:=hl.shape' hT.symm;have HO:=qe ho;have HL:=qe hl;have HB:=qe hb;have HLe:=qe hL;have HTe:=qe hT;have hz:=hb.size;have hLb:L≤8160:=by omega
  clear ho hl hb hL hT;by_cases hlt:L<N
  ·have hk254:k≤254:=by have:=HLe.1;omega
   obtain⟨S,hS⟩:∃S,S=kM key inf (k+1):=⟨_,rfl⟩;have HSe:=qe hS;have HSl:=qe (show S.length=32 by rw[hS];exact kN _ _ _);clear hS;have HE:=qe (qaA wr);have HBe:=qe (HB.1.alloc hz (.cells #[] 5));have HOl:=qe (show∀b,(JZ Ao L co).ownBlock=some b→b<wr.heap.size from fun b e=>(HO.1.lt b e).2);have hx:b8 (QU 8 ((k:Int)+1))= .int .u8 ((k:Int)+1):=by unfold b8 bv;rw[BitVec.toNat_ofInt];congr 1;omega
   obtain⟨x,hxe⟩:∃x,x=QU 8 ((k:Int)+1):=⟨_,rfl⟩;rw[←hxe]at hx;have HRx:=qe (show∀W':World,Rd b8 (W'.alloc (.cells #[.int .u8 ((k:Int)+1)] 5)) (W'.heap.size+1) (some ⟨W'.heap.size,0,none⟩) [x]from fun W'=>by have h:=Rd.new b8 W' 5 [x];simp only[Jd,Jt,hx]at h;exact h);have HXe:=qe hxe;have ht2:=H2.1;have hn3:T+n2+1≤101000:=by omega
   clear hx hxe ht2;go_wp2_with (first
    |(at_builtin;(refine qh rfl (.tmp 25) (.tmp 26) 28 rfl qH wr.heap.size 5 i0 _ 1 underlying28 hi0 hz0 hz1 hz2 rfl _ _ rfl HE.1 wr.heap.size Al T cl (kM key inf k) rfl HTe.1 (HL.1.rd.alloc (QI _) _) (by have:=HTe.1;simp[maxLen];omega) (by have:=HTe.1;simp;omega) (by simp) ?_;intro v1 w1 hown1 hg1 hbb1;obtain⟨Av1,cv1,rfl,-,-,-,-⟩:=hown1.shape' (n:=T) (by simp[HTe.1]);have HV1:=qe (hown1.cast (Ji _));have HB1:=qe (hbb1 _ _ hz HBe.1);have HO1:=qe ((HO.1.alloc (.cells #[] 5)).kept' hg1.by_ (fun b e hv=>absurd (HOl.1 b hv) (Nat.not_lt.2 (HE.1.lt b e).1)));have hs1:wr.heap.size<w1.heap.size:=(by have:=hg1.size;rw[QQ]at this;exact this);clear hown1 hg1 hbb1))
    |(at_builtin;(refine qh rfl (.tmp 27) (.tmp 28) 28 rfl qH wr.heap.size 5 i0 _ 1 underlying28 hi0 hz0 hz1 hz2 rfl _ _ rfl HV1.1 w.heap.size A2 n2 c2 inf rfl H2.1 (R2.1.below HB1.1) (by have:=HTe.1;have:=H2.1;simp[maxLen];omega) (by have:=HTe.1;have:=H2.1;simp;omega) (by omega) ?_;intro v2 w2 hown2 hg2 hbb2;obtain⟨Av2,cv2,rfl,-,-,-,-⟩:=hown2.shape' (n:=T+n2) (by rw[QO,←HTe.1,←H2.1]);have HV2:=qe hown2;have HB2:=qe (hbb2 _ _ hz HB1.1);have HO2:=qe (HO1.1.kept' hg2.by_ (fun b e hv=>absurd (HOl.1 b hv) (Nat.not_lt.2 (HV1.1.lt b e).1)));have hs2:w1.heap.size≤w2.heap.size:=hg2.size;clear hown2 hg2 hbb2))
    |(at_builtin;(refine qh rfl (.tmp 29) (.tmp 32) 28 rfl qH wr.heap.size 5 i0 _ 1 underlying28 hi0 hz0 hz1 hz2 rfl _ _ rfl (HV2.1.alloc (.cells #[.int .u8 ((k:Int)+1)] 5)) (w2.heap.size+1) (some ⟨w2.heap.size,0,none⟩) 1 1 [x] rfl rfl (HRx.1 w2) (by have:=HTe.1;have:=H2.1;simp[maxLen];omega) (by have:=HTe.1;have:=H2.1;simp;omega) (by simp;omega) ?_;intro v3 w3 hown3 hg3 hbb3;obtain⟨Av3,cv3,rfl,-,-,-,-⟩:=hown3.shape' (n:=T+n2+1) (by rw[QO,QO,←HTe.1,←H2.1];rfl);have HV3:=qe hown3;have HB3:=qe (hbb3 _ _ hz (HB2.1.alloc HB2.1.size _));have HO3:=qe ((HO2.1.alloc (.cells #[.int .u8 ((k:Int)+1)] 5)).kept' hg3.by_ (fun b e hv=>absurd (HOl.1 b hv) (Nat.not_lt.2 (HV2.1.lt b e).1)));have hs3:w2.heap.size≤w3.heap.size:=(by have:=hg3.size;rw[QQ]at this;omega);clear hown3 hg3 hbb3)))
   have hs:=qin w3 w.heap.size c1 n1 w3.heap.size cv3 (T+n2+1) A1 Av3 key _ (R1.1.below HB3.1) HB3.1.size H1.1 (by omega) HV3.1.rd (QI _) (by rw[QO,QO,←HTe.1,←H2.1];rfl) (by omega);rw[qn,HXe.1,show yw key (kM key inf k++inf++ [QU 8 ((k:Int)+1)])=kM key inf (k+1)from rfl,←HSe.1]at hs;have HSh:=qe hs;clear hs;refine HSh.1.mono ?_
   rintro e w4 ⟨rfl,hb4⟩;have hs4:=hb4.size;have HB4:=qe (HB3.1.trans (hb4.mono HB3.1.size));have HO4:=qe (HO3.1.below hb4 (QI _));have HT4:=qe (Arr.new b8 w4 23 (QL 32 0#8));clear hb4 HSh HB3 HO3 HV3 HV2 HV1 HO2 HO1 HB2 HB1;go_wp2_with (first
    |(refine qk rfl 23 (.tmp 11) (.tmp 34) rfl w4.heap.size rfl S rfl _ _ HT4.1 (by rw[HSl.1];rfl) (by rw[qR,HSl.1]) qU ?_;intro w5 hx5 hg5;have hs5:w4.heap.size<w5.heap.size:=hx5.lt;have HS5:=qe hx5;have HO5:=qe ((HO4.1.alloc (.cells ((QL 32 0#8).map b8).toArray 23)).kept' hg5 (fun b e hv=>by cases e;exact absurd (HOl.1 _ hv) (by omega)));have HB5:=qe ((HB4.1.alloc HB4.1.size (.cells ((QL 32 0#8).map b8).toArray 23)).grown hg5 (by have:=HB4.1.size;simp;omega) (fun k e=>by cases e;exact HB4.1.size));have HE5:=qe (qaA w5);clear hx5 hg5)
    |(at_builtin;(refine qh rfl (.tmp 35) (.tmp 36) 28 rfl qH w5.heap.size 5 i0 _ 1 underlying28 hi0 hz0 hz1 hz2 rfl _ _ rfl HE5.1 (w4.heap.size+1) (some ⟨w4.heap.size,0,none⟩) 32 32 S rfl HSl.1.symm ((HS5.1.alloc _).rd 0) (by have:=HSl.1;simp[maxLen];omega) (by have:=HSl.1;simp;omega) (by simp) ?_;intro v6 w6 hown6 hg6 hbb6;obtain⟨A6,c6,rfl,-,-,-,-⟩:=hown6.shape' (n:=32) (by simp[HSl.1]);have HV6:=qe (hown6.cast (Ji _));have HB6:=qe (hbb6 _ _ HB5.1.size (HB5.1.alloc HB5.1.size _));have HO6:=qe ((HO5.1.alloc (.cells #[] 5)).kept' hg6.by_ (fun b e hv=>absurd (HOl.1 b hv) (Nat.not_lt.2 (QX (by omega) (HE5.1.lt b e).1))));have hs6:w5.heap.size<w6.heap.size:=(by have:=hg6.size;rw[QQ]at this;exact this);clear hown6 hg6 hbb6))
    |(at_builtin;(refine qh rfl (.tmp 38) (.tmp 39) 28 rfl qH w.heap.size 5 i0 _ 1 underlying28 hi0 hz0 hz1 hz2 rfl _ _ rfl HO6.1 w6.heap.size A6 32 c6 S rfl HSl.1.symm HV6.1.rd (by have:=HSl.1;rw[yH];unfold maxLen;omega) (by have:=HSl.1;rw[yH];omega) (by omega) ?_;intro v7 w7 hown7 hg7 hbb7;obtain⟨A7,c7,rfl,-,-,-,-⟩:=hown7.shape' (n:=L+32) (by rw[QO,yH,HSl.1,HLe.1]);have HO7:=qe (show Own b8 w7 w.heap.size 5 (.slice A7 (L+32) c7) (exA key inf (k+1))from hown7.cast (by rw[HSe.1];rfl));have HB7:=qe (hbb7 _ _ (QI _) HB6.1);have HV7:=qe ((HV6.1.kept' hg7.by_ (fun b e hv=>absurd (HOl.1 b e) (Nat.not_lt.2 (QX (by omega) (HV6.1.lt b hv).1)))).cast HSe.1);clear hown7 hg7 hbb7)))
   go_roundw
   case rel=>exact⟨k+1,by omega,by have:=HLe.1;omega,by simp,HO7.1,HV7.1.less (by omega),HB7.1⟩
   case measure=>simp[ut];omega
  ·have hlt':¬((L:Int)<(N:Int)):=by omega
   have hNL:(N:Int)≤(L:Int):=by omega
   have hNL':N≤L:=by omega
   have hNc:(N:Int)≤(co:Int):=by omega
   have hN0:(0:Int)≤(N:Int):=by omega
   have HFin:=qe (show(exA key inf k).take N=Qw key inf N from(qju key inf k N hk255 (by have:=HLe.1;omega)).symm);go_wp2_with fail
   have hRd:Own b8 wr w.heap.size 5 (.slice Ao N co) (Qw key inf N):=by have h:=HO.1.short N hNL';rw[HFin.1]at h;exact h
   go_ret2;first|exact⟨Ao,co,rfl,hRd,HB.1⟩|exact⟨Ao,co,⟨rfl,rfl⟩,hRd,HB.1⟩
theorem qlZ(A1 A2:Option Addr)(n1 c1 n2 c2:Nat)(w:World):
 Calls prog 137 #[.slice A1 n1 c1,.slice A2 n2 c2] w fun e w'=>e= .returned (.func (.func 141) #[] #[.pointer (some ⟨w.heap.size,0,none⟩),.pointer (some ⟨w.heap.size+1,0,none⟩)])∧
  w'=(w.alloc (.cells #[.slice A1 n1 c1] 28)).alloc (.cells #[.slice A2 n2 c2] 28):=by
 go_enter func137,ntmps137
 go_wp2_with fail
 go_ret;exact⟨rfl,rfl⟩
abbrev Ti:={i:Nat//1≤i∧i≤255}
def qnu(key inf:qf)(x:Ti):Array Value:= #[jL b8 (kM key inf x.1)]
def KpT(n₀ e1 e2:Nat)(A B:World):Prop:=Below n₀ A B∧∀g o,A.heap[g]?=some o→o.isCells=true→g≠e1→g≠e2→B.heap[g]?=some o
theorem KpT.t{n₀ e1 e2:Nat}{A B C:World}(h:KpT n₀ e1 e2 A B)(k:KpT n₀ e1 e2 B C):KpT n₀ e1 e2 A C:=
 ⟨h.1.trans k.1,fun g o hg hc h1 h2=>k.2 g o (h.2 g o hg hc h1 h2) hc h1 h2⟩
theorem KpT.of_below{n₀ e1 e2:Nat}{A B:World}(h:Below A.heap.size A B)(hn:n₀≤A.heap.size):KpT n₀ e1 e2 A B:=⟨h.mono hn,fun g o hg _ _ _=>(h.block g (Zm.1 hg).1).trans hg⟩
theorem KpT.put{n₀ e1 e2 W0 l:Nat}{W:World}{o o':Obj}(hl:W0≤l)(hn:n₀≤W0)(ho:W.heap[l]?=some o)(hc:o.isCells=false):KpT n₀ e1 e2 W (W.putObj l o'):=
 ⟨(QK _ W).grown (grownBy_putObj' W l o') (by have:=(Zm.1 ho).1;omega) (fun k e=>by cases e;omega),fun g u hg hu _ _=>by
   have hne:g≠l:=fun e=>by subst e;rw[hg]at ho;cases ho;rw[hu]at hc;cases hc
   rw[World.putObj_heap_other hne];exact hg⟩
theorem KpT.arr{α:Type}{f:α→Value}{T:TypeId}{xs:List α}{n₀ e1 e2 g:Nat}{A B:World}(h:KpT n₀ e1 e2 A B)(ha:Arr f A g T xs)(h1:g≠e1)(h2:g≠e2):Arr f B g T xs:=h.2 g _ ha rfl h1 h2
theorem KpT.box{n₀ e1 e2 g:Nat}{t:TypeId}{v:Value}{A B:World}(h:KpT n₀ e1 e2 A B)(ha:Boxed A g t v)(h1:g≠e1)(h2:g≠e2):Boxed B g t v:=h.2 g _ ha rfl h1 h2
def ql0(W0:Nat)(w:World)(v:Value)(key inf:qf)(k:Nat):Prop:=
 (k=0∧v= .slice none 0 0)∨∃g,v= .slice (some ⟨g,0,none⟩) 32 32∧0<k∧W0≤g∧Arr b8 w g 23 (kM key inf k)
theorem ql0.rd{W0:Nat}{w:World}{v:Value}{key inf:qf}{k:Nat}(h:ql0 W0 w v key inf k):∃A T,v= .slice A T T∧T=(kM key inf k).length∧Rd b8 w w.heap.size A (kM key inf k):=by
 rcases h with⟨rfl,rfl⟩|⟨g,rfl,hk,-,ha⟩
 ·exact⟨none,0,rfl,rfl,Rd.nil_ _ _ _ _⟩
 ·obtain⟨j,rfl⟩:∃j,k=j+1:=⟨k-1,by omega⟩
  exact⟨_,32,rfl,(kN _ _ _).symm,(ha.rd 0).more ha.lt⟩
theorem ql1(m:Nat)(hm:3≤m)(l b1 b2 e1 e2 n₀ n1 c1 n2 c2:Nat)(A1 A2:Option Addr)(key inf:qf)(hn1:n1=key.length)(hn2:n2=inf.length)(hq1:n1≤100000)(hq2:n2≤100000)(J Jx:List Ti→World→Prop)(W:World)(hJ:AbidesFrom W.heap.size J)
 (hY:∀pre y W1,J pre W1→pre.length<255→YieldAt Fence.wide (m-1) prog l (qnu key inf y) W1 fun e W'=>
  (e= .returned (.bool true)∧J (pre++ [y]) W'∧KpT n₀ e1 e2 W1 W')∨(e= .returned (.bool false)∧Jx (pre++ [y]) W'))
 (hb1:Boxed W b1 28 (.slice A1 n1 c1))(hb2:Boxed W b2 28 (.slice A2 n2 c2))(hr1:Rd b8 W n₀ A1 key)(hr2:Rd b8 W n₀ A2 inf)(hn₀:n₀≤W.heap.size)
 (he1:n₀≤e1∧e1<W.heap.size)(he2:n₀≤e2∧e2<W.heap.size)(hbe:b1≠e1∧b1≠e2∧b2≠e1∧b2≠e2)(h0:J [] W):
 CallsIn Fence.wide m prog 141 #[.func (.yield l) #[] #[],.pointer (some ⟨b1,0,none⟩),.pointer (some ⟨b2,0,none⟩)] W fun e W'=>(∃v,e= .returned v)∧
  ((∃ys:List Ti,ys.map Jj=List.range' 1 255∧J ys W')∨(∃pre:List Ti,(∃k,pre.map Jj=List.range' 1 k)∧Jx pre W')):=by
 refine callsIn_of_wp func141 rfl trivial ?_ rfl;simp only[ntmps141,Jh,Jr,JE,JI,Nat.reduceSub,Zi,Zj,Zk,Zl,Ji,JL];have HJ:=qe hJ;have HY:=qe hY;have H0:=qe h0;have HB1:=qe hb1;have HB2:=qe hb2;have R1:=qe hr1;have R2:=qe hr2;have H1:=qe hn1
 have H2:=qe hn2;have HBe:=qe hbe;have hm1:1≤m:=by omega
 have hm2:1≤m-1:=by omega
 clear hJ hY h0 hb1 hb2 hr1 hr2 hn1 hn2 hbe;gi_wp2_with fail
 gi_loopw [4,5] (fun vl vi wr=>∃(k:Nat) (pre:List Ti),k≤254∧vi= .int .u8 ((k:Int)+1)∧pre.map Jj=List.range' 1 k∧J pre wr∧ql0 W.heap.size wr vl key inf k∧Boxed wr b1 28 (.slice A1 n1 c1)∧Boxed wr b2 28 (.slice A2 n2 c2)∧Rd b8 wr n₀ A1 key∧Rd b8 wr n₀ A2 inf∧W.heap.size≤wr.heap.size) (fun _ vi _=>(256-intOf vi).toNat)
 case atStart=>exact⟨0,[],by omega,by simp,rfl,H0.1,.inl ⟨rfl,rfl⟩,HB1.1,HB2.1,R1.1,R2.1,QI _⟩
 case round=>
  obtain⟨k,pre,hk,rfl,hpre,hJs,hla,hb1,hb2,hr1,hr2,hz⟩:=hrel;obtain⟨Al,T,rfl,hT,hrl⟩:=hla.rd;have hTb:T≤32:=by rw[hT];exact qjt _ _ _
  obtain⟨S,hS⟩:∃S,S=kM key inf (k+1):=⟨_,rfl⟩;have HSl:=qe (show S.length=32 by rw[hS];exact kN _ _ _);have hx:b8 (QU 8 ((k:Int)+1))= .int .u8 ((k:Int)+1):=by unfold b8 bv;rw[BitVec.toNat_ofInt];congr 1;omega
  have hRx:Rd b8 (wr.alloc (.cells #[.int .u8 ((k:Int)+1)] 5)) (wr.heap.size+1) (some ⟨wr.heap.size,0,none⟩) [QU 8 ((k:Int)+1)]:=by have h:=Rd.new b8 wr 5 [QU 8 ((k:Int)+1)];simp only[Jd,Jt,hx]at h;exact h
  have hn0r:n₀≤wr.heap.size:=by omega
  have hc:=qkw (wr.alloc (.cells #[.int .u8 ((k:Int)+1)] 5)) n₀ n1 c1 (wr.heap.size+1) T T n2 c2 1 1 A1 Al A2 (some ⟨wr.heap.size,0,none⟩) key (kM key inf k) inf _ (hr1.alloc hn0r _) (by simp;omega) H1.1 (by rw[←H1.1];omega) ((hrl.alloc (QI _) _).more (by simp)) ((hr2.alloc hn0r _).more (by omega)) hRx (by simp) hT H2.1 rfl (by rw[←hT,←H2.1];simp;omega);rw[qn,QQ,show yw key (kM key inf k++inf++ [QU 8 ((k:Int)+1)])=kM key inf (k+1)from rfl,←hS]at hc
  have HC:=qe hc;have c1':=hb1.cell;have c2':=hb2.cell;have HBx:=qe hb1;have HBy:=qe hb2;have HR1:=qe hr1;have HR2:=qe hr2;have HLa:=qe hla;have HJs:=qe hJs;have Hpre:=qe hpre;have HSe:=qe hS;clear hb1 hb2 hr1 hr2 hla hJs hpre hS hx hRx hc hT hrl;gi_wp2_with fail
  refine⟨trivial,?_⟩;refine(callsIn_wide.2 HC.1).mono ?_;rintro e w1 ⟨rfl,hb1⟩;have hs1:wr.heap.size+1≤w1.heap.size:=by have:=hb1.size;rw[QQ]at this;exact this
  have HW1:=qe (show Below wr.heap.size wr w1 from((QK _ wr).alloc (QI _) _).trans (hb1.mono (by omega)));have HZ1:=qe (Arr.new b8 w1 23 (QL 32 0#8));clear hb1 HC c1' c2';gi_wp2_with (first
   |(refine qaa rfl 23 (.tmp 6) (.tmp 15) rfl w1.heap.size rfl S rfl _ _ HZ1.1 (by rw[HSl.1];rfl) (by rw[qR,HSl.1]) qU ?_;intro w2 hp2 hg2;have HP2:=qe hp2;have HW2:=qe (show Below wr.heap.size wr w2 from(HW1.1.alloc (by omega) _).grown hg2 (by simp;omega) (fun k e=>by cases e;omega));clear hp2 hg2;obtain⟨fn,tmps,assign,body,hy,hR⟩:=HY.1 pre ⟨k+1,by omega,by omega⟩ w2 (HJ.1 _ _ _ none HJs.1 (qgy HW2.1) (fun r e=>by cases e)) (by have:=congrArg JT Hpre.1;rw[QN,List.length_range']at this;omega);dsimp only[qnu]at hy;rw[←HSe.1,qn]at hy;have HRn:=qe hR;clear hR)
   |refine jQ rfl 23 (.tmp 6) rfl w1.heap.size rfl _ S HP2.1 _ underlying23 rfl (by rw[qR,HSl.1]) ?_)
  have hz2:w1.heap.size<w2.heap.size:=HP2.1.lt;have HLs:=qe (show(pre++ [(⟨k+1,by omega,by omega⟩:Ti)]).map Jj=List.range' 1 (k+1) by rw[Q9,Hpre.1,List.range'_concat];simp;omega);refine HRn.1.mono ?_;rintro e w3 (⟨rfl,hJ3,hk3⟩|⟨rfl,hJx3⟩)
  ·have hz3:=hk3.1.size
   have HJ3:=qe hJ3;have HA3:=qe (hk3.arr HP2.1 (by omega) (by omega));have HX3:=qe (hk3.box (zQ HBx.1 HW2.1) HBe.1.1 HBe.1.2.1);have HY3:=qe (hk3.box (zQ HBy.1 HW2.1) HBe.1.2.2.1 HBe.1.2.2.2);have hbw:Below n₀ w2 w3:=hk3.1;have HR13:=qe ((HR1.1.below (HW2.1.mono hn0r)).below hbw);have HR23:=qe ((HR2.1.below (HW2.1.mono hn0r)).below hbw);clear hJ3 hk3 hbw HJs HBx HBy HR1 HR2 HW2 HP2 HRn HZ1 HW1
   by_cases hk254:k=254
   ·subst hk254
    gi_wp2_with fail
    refine bodyPost_ret (results_none rfl _ _ _) rfl ?_;exact⟨⟨_,rfl⟩,.inl ⟨_,HLs.1,HJ3.1⟩⟩
   ·have hk255:¬((k:Int)+1=255):=by omega
    have hk3:(k:Int)+1≤254:=by omega
    gi_wp2_with fail
    go_roundw
    case rel=>
     exact⟨k+1,pre++ [⟨k+1,by omega,by omega⟩],by omega,by simp,HLs.1,HJ3.1,.inr ⟨w1.heap.size,rfl,by omega,by omega,HA3.1.cast HSe.1⟩,HX3.1,HY3.1,HR13.1,HR23.1,by omega⟩
    case measure=>simp[intOf];omega
  ·gi_wp2_with fail
   refine bodyPost_ret (results_none rfl _ _ _) rfl ?_;exact⟨⟨_,rfl⟩,.inr ⟨_,⟨k+1,HLs.1⟩,hJx3⟩⟩
theorem qio(m:Nat)(hm:3≤m)(b1 b2 e1 e2 n₀ n1 c1 n2 c2:Nat)(A1 A2:Option Addr)(key inf:qf)(hn1:n1=key.length)(hn2:n2=inf.length)(hq1:n1≤100000)(hq2:n2≤100000)(w:World)
 (hb1:Boxed w b1 28 (.slice A1 n1 c1))(hb2:Boxed w b2 28 (.slice A2 n2 c2))(hr1:Rd b8 w n₀ A1 key)(hr2:Rd b8 w n₀ A2 inf)(hn₀:n₀≤w.heap.size)
 (he1:n₀≤e1∧e1<w.heap.size)(he2:n₀≤e2∧e2<w.heap.size)(hbe:b1≠e1∧b1≠e2∧b2≠e1∧b2≠e2):
 SeqStopsK Fence.wide m prog 141 #[.pointer (some ⟨b1,0,none⟩),.pointer (some ⟨b2,0,none⟩)] (fun x:Ti=>qnu key inf x) (KpT n₀ e1 e2) (fun ys=>ys.map Jj=List.range' 1 255) (fun pre=>∃k,pre.map Jj=List.range' 1 k) 255 w:=fun l J Jx W hW hJ _ hY h0=>
 ql1 m hm l b1 b2 e1 e2 n₀ n1 c1 n2 c2 A1 A2 key inf hn1 hn2 hq1 hq2 J Jx W hJ hY (zQ hb1 hW) (zQ hb2 hW) (hr1.below (hW.mono hn₀)) (hr2.below (hW.mono hn₀)) (QX hn₀ hW.size) ⟨he1.1,Jq he1.2 hW.size⟩ ⟨he2.1,Jq he2.2 hW.size⟩ hbe h0
theorem qdO{P:Program}{w:World}(base:Nat)(t ty e:TypeId)(i:TypeInfo)(ht:P.underlying t=some (.slice e))(hi:P.info? e=some i)(hsize:i.size=1)
 (g L cap:Nat)(xs:qf)(hL:xs.length=L)(hown:Own b8 w base e (.slice (some ⟨g,0,none⟩) L cap) xs)(B:Nat)(ad:Addr)(c:Nat)(ys:qf)(hr:Rd b8 w B (some ad) ys)(hfit:L+ys.length≤cap):
 ∃w',(Builtin.append_ #[t,t] ty #[.slice (some ⟨g,0,none⟩) L cap,.slice (some ad) ys.length c]).run P w= .ok (.slice (some ⟨g,0,none⟩) (L+ys.length) cap) w'∧Own b8 w' base e (.slice (some ⟨g,0,none⟩) (L+ys.length) cap) (xs++ys)∧w.grownBy w' (some g):=by
 subst hL;have hcells:=hr.cells rfl;have h1:∀u∈ys.map b8,u.oneCell'=true:=by intro u hu;obtain⟨x,_,rfl⟩:=QW.1 hu;exact qH x
 obtain⟨w',hrun,ho,hgr⟩:=run_append_fits (P:=P) w base t ty e i 1 ht hi hsize g xs.length cap (xs.map b8) hown ad ys.length c (ys.map b8) (by simp) hcells h1 hfit;exact⟨w',hrun,by unfold Own;rw[QO,Q9];exact ho,hgr⟩
theorem qdi{P:Program}{w:World}{ops:Array Oper}{o:Oper}{a:Act}{K:Act→World→Prop}{Q:Exit→Act→World→Prop}{F:Prop}(hgd:o.guard=none)(s x:Operand)(t:TypeId)
 (ho:o.op= .call {callee:= .builtin .append,args:= #[s,x],argTypes:= #[t,t]})
 (base:Nat)(e:TypeId)(i:TypeInfo)(ht:P.underlying t=some (.slice e))(hi:P.info? e=some i)(hsize:i.size=1)
 (g L cap:Nat)(xs:qf)(hL:xs.length=L)(hs:a.eval s= .slice (some ⟨g,0,none⟩) L cap)(hown:Own b8 w base e (.slice (some ⟨g,0,none⟩) L cap) xs)
 (B:Nat)(ad:Addr)(m c:Nat)(ys:qf)(hx:a.eval x= .slice (some ad) m c)(hm:m=ys.length)(hr:Rd b8 w B (some ad) ys)(hfit:L+m≤cap)
 (h:∀w',Own b8 w' base e (.slice (some ⟨g,0,none⟩) (L+m) cap) (xs++ys)→w.grownBy w' (some g)→K (a.put o.dst (.slice (some ⟨g,0,none⟩) (L+m) cap)) w'):
 if Jv o (yielded ops a.tmps)=true then Oper.wp P o a w K Q else F:=by
 have hw:Jv o (yielded ops a.tmps)=true:=by simp[Jv,hgd]
 rw[if_pos hw];subst hm;obtain⟨w',hrun,h2,h3⟩:=qdO (P:=P) base t o.type e i ht hi hsize g L cap xs hL hown B ad c ys hr hfit;unfold Oper.wp execOp;simp only[ho,resolve,invoke,builtin,Sem.run_bind,Sem.run_pure,Result.andThen_ok,List.map_toArray,Jd,Jt,hs,hx,hrun];exact h w' h2 h3
def qfG(md:Region.Mode)(ops:Array Oper):Nat→List Nat→Array Bool→Bool
 |0,R,_=>R.isEmpty
 |f+1,R,L=>R.isEmpty||(decide (Jl md ops L=R)&&R.all fun j=>qfG md ops f (R.erase j) (L.setIfInBounds j true))
def qfH(ops:Array Oper)(R:List Nat):Bool:=R.all fun i=>R.all fun j=>i==j||match ops[i]?,ops[j]? with
 |some x,some y=>x.apart ops y
 |_,_=>false
def ql2(ops:Array Oper)(V:Nat→Value)(R:List Nat)(a:Act):Act:=R.foldl (fun a j=>match ops[j]? with|some o=>a.put o.dst (V j)|none=>a) a
def qgI(R:List Nat)(L:Array Bool):Array Bool:=R.foldl (fun L j=>L.setIfInBounds j true) L
section
variable{P:Program}{ops:Array Oper}{md:Region.Mode}{Q:Exit→Act→World→Prop}{S:World→Prop}
theorem qcX{R:List Nat}(h:qfH ops R=true){i j:Nat}(hi:i∈R)(hj:j∈R)(hne:i≠j){x y:Oper}(hx:ops[i]?=some x)(hy:ops[j]?=some y):x.apart ops y=true:=by
 have:=List.all_eq_true.1 (List.all_eq_true.1 h i hi) j hj;rw[hx,hy]at this;simpa[hne]using this
theorem qkC{V:Nat→Value}{R:List Nat}(h:qfH ops R=true){j:Nat}(hj:j∈R){o:Oper}(ho:ops[j]?=some o)(a:Act):ql2 ops V (R.erase j) (a.put o.dst (V j))=ql2 ops V R a:=by
 unfold ql2;rw[List.Perm.foldl_eq' (List.perm_cons_erase hj) (fun x hx y hy z=>?_) a,J4,ho];by_cases hxy:x=y
 ·subst hxy;rfl
 ·cases ex:ops[x]? with
  |none=>rfl
  |some ox=>
   cases ey:ops[y]? with
   |none=>rfl
   |some oy=>
    have h1:=(Oper.apart_spec (qcX h hx hy hxy ex ey)).2.1;exact Act.put_comm z (V x) (V y) h1
theorem qip{R:List Nat}{j:Nat}(hj:j∈R)(L:Array Bool):qgI (R.erase j) (L.setIfInBounds j true)=qgI R L:=by
 unfold qgI;rw[List.Perm.foldl_eq' (List.perm_cons_erase hj) (fun x _ y _ z=>?_) L,J4];by_cases hxy:x=y
 ·subst hxy;rfl
 ·exact(Array.setIfInBounds_comm _ _ hxy).symm▸rfl
theorem qbX(V:Nat→Value){n:Nat}{w:World}(hS:S w)(hsel:Region.noSelect ops=true):∀(f:Nat) (R:List Nat) (L:Array Bool) (a:Act),R.Nodup→qfG md ops f R L=true→qfH ops R=true→
 (∀j∈R,∃o,ops[j]?=some o∧YieldsIf P ops (fun w'=>w'=w) o (V j) a)→wpAnyH P md ops Q S n (qgI R L) (ql2 ops V R a) w→wpAnyH P md ops Q S (n+R.length) L a w
 |0,R,L,a,_,hb,_,_,h=>by
  obtain rfl:R=[]:=List.isEmpty_iff.1 hb;exact h
 |f+1,R,L,a,hnd,hb,hap,hy,h=>by
  by_cases hR:R=[]
  ·subst hR;exact h
  ·have hb':R.isEmpty=false:=by cases R with
    |nil=>exact absurd rfl hR
    |cons _ _=>rfl
   unfold qfG at hb;rw[hb',Bool.false_or,JC,decide_eq_true_eq]at hb;obtain⟨hr,hall⟩:=hb;obtain⟨m,hm⟩:∃m,R.length=m+1:=⟨R.length-1,by have:=List.length_pos_iff.2 hR;omega⟩;rw[hm];show wpAnyH P md ops Q S ((n+m)+1) L a w;refine wpAnyH_all hr hR fun j hj=>?_
   obtain⟨o,ho,hyj⟩:=hy j hj;refine hyj.wpOp ho rfl ⟨hS,?_⟩;have hlen:(R.erase j).length=m:=by rw[List.length_erase_of_mem hj,hm];rfl
   rw[←hlen];refine qbX V hS hsel f (R.erase j) _ _ (hnd.erase j) (List.all_eq_true.1 hall j hj) ?_ ?_ ?_
   ·refine List.all_eq_true.2 fun x hx=>List.all_eq_true.2 fun y hy'=>?_
    exact List.all_eq_true.1 (List.all_eq_true.1 hap x (List.mem_of_mem_erase hx)) y (List.mem_of_mem_erase hy')
   ·intro k hk
    obtain⟨hkj,hkR⟩:=hnd.mem_erase_iff.1 hk;obtain⟨ok,hok,hyk⟩:=hy k hkR;have h3:=(Oper.apart_spec (qcX hap hkR hj hkj hok ho)).2.2;exact⟨ok,hok,hyk.of_same (execOp_put ok (fun cs b=>Region.noSelect_spec hsel k ok cs b hok) a o.dst (V j) h3) (wanted_put ok a o.dst (V j) h3)⟩
   ·rw[qip hj,qkC hap hj ho];exact h
theorem qeC{i j k l n:Nat}{oi oj ok ol:Oper}{vi vj vk vl:Value}{L:Array Bool}{a:Act}{w:World}(hoi:ops[i]?=some oi)(hoj:ops[j]?=some oj)(hok:ops[k]?=some ok)(hol:ops[l]?=some ol)(hsel:Region.noSelect ops=true)
 (hnd:decide ([i,j,k,l].Nodup)=true)(hb:qfG md ops 4 [i,j,k,l] L=true)(hap:qfH ops [i,j,k,l]=true)(hS:S w)
 (yi:YieldsIf P ops (fun w'=>w'=w) oi vi a)(yj:YieldsIf P ops (fun w'=>w'=w) oj vj a)(yk:YieldsIf P ops (fun w'=>w'=w) ok vk a)(yl:YieldsIf P ops (fun w'=>w'=w) ol vl a)
 (h:wpAnyH P md ops Q S n ((((L.setIfInBounds i true).setIfInBounds j true).setIfInBounds k true).setIfInBounds l true) ((((a.put oi.dst vi).put oj.dst vj).put ok.dst vk).put ol.dst vl) w):wpAnyH P md ops Q S (n+4) L a w:=by
 have hnd':=of_decide_eq_true hnd;simp only[List.nodup_cons,Ja,JM,or_false,not_or,not_false_eq_true,List.nodup_nil,and_true]at hnd';obtain⟨⟨n1,n2,n3⟩,⟨n4,n5⟩,n6⟩:=hnd';refine qbX (fun x=>if x=i then vi else if x=j then vj else if x=k then vk else vl) hS hsel 4 [i,j,k,l] L a (of_decide_eq_true hnd) hb hap ?_ ?_
 ·intro x hx
  simp only[Ja,JM,or_false]at hx;rcases hx with rfl|rfl|rfl|rfl
  ·exact⟨oi,hoi,by rw[if_pos rfl];exact yi⟩
  ·exact⟨oj,hoj,by rw[if_neg (Ne.symm n1),if_pos rfl];exact yj⟩
  ·exact⟨ok,hok,by rw[if_neg (Ne.symm n2),if_neg (Ne.symm n4),if_pos rfl];exact yk⟩
  ·exact⟨ol,hol,by rw[if_neg (Ne.symm n3),if_neg (Ne.symm n5),if_neg (Ne.symm n6)];exact yl⟩
 ·simp only[qgI,ql2,J4,List.foldl_nil,hoi,hoj,hok,hol]
  rw[if_pos trivial,if_neg (Ne.symm n1),if_pos trivial,if_neg (Ne.symm n2),if_neg (Ne.symm n4),if_pos trivial,if_neg (Ne.symm n3),if_neg (Ne.symm n5),if_neg (Ne.symm n6)];exact h
end
def qdm(ops:Array Oper):Bool:=ops.all fun o=>match o.op with
 | .defer _=>false
 |_=>true
theorem qfI{ops:Array Oper}(h:qdm ops=true){i:Nat}{o:Oper}(ho:ops[i]?=some o):∀c,o.op≠ .defer c:=by
 intro c hc;obtain⟨hi,rfl⟩:=Zm.1 ho;have:=Array.all_eq_true.1 h i hi;rw[hc]at this;cases this
section
variable{P:Program}{ops:Array Oper}{md:Region.Mode}{Q:Exit→Act→World→Prop}{S:World→Prop}{l n:Nat}
def qjv(Q:Exit→Act→World→Prop):Exit→Act→World→Prop:=fun e a w=>e= .normal∧Q .normal a w
theorem qfJ{row:String}{args:Array Value}{w:World}{R:Value→World→Prop}(h:Rows P row args w R):RowsIn (Fence.wide.inRound l) n P row args w R:=
 fun c cs _=>let⟨v,w',r,s⟩:=h c cs;⟨v,w',r,stepsIn_wide.2 s⟩
theorem qnv{o:Oper}{a:Act}{next next':Act→World→Prop}(hn:∀a w,next a w→next' a w){r:Result Next}(h:o.upon P a next (qjv Q) r):o.uponIn (Fence.wide.inRound l) n P a next' Q r:=by
 cases r with
 |ok nx w'=>
  cases nx with
  |value v=>exact hn _ _ h
  |skip=>exact hn _ _ h
  |defer d=>exact hn _ _ h
  |enter f args=>
   refine⟨nofun,CallsIn.inRound l (callsIn_wide.2 (Calls.mono h ?_))⟩;intro e w'' he;cases e with
   |returned v=>exact hn _ _ he
   |panicked c=>exact nomatch he.1
   |outgrown=>obtain⟨_,_,h1,_⟩:=he;cases h1
  |row row args=>exact⟨nofun,(qfJ h).mono fun v w'' he=>hn _ _ he⟩
  |_=>exact h.elim
 |halt s w'=>
  cases s<;>first
   |exact nomatch h.1
   |exact h.elim
theorem qnw(hd:qdm ops=true){i:Nat}{K K':Act→World→Prop}(hn:∀a w,K a w→K' a w){a:Act}{w:World}(h:wpOp P ops (qjv Q) i K a w):wpOpIn (Fence.wide.inRound l) n P ops Q i K' a w:=by
 unfold wpOp at h;unfold wpOpIn;cases ho:ops[i]? with
 |none=>rw[ho]at h;exact hn _ _ h
 |some o=>
  rw[ho]at h;dsimp only at h ⊢;split
  ·rename_i hw
   rw[if_pos hw]at h;rcases h with h|⟨_,_,_,h,_⟩
   ·refine⟨fun _ _=>trivial,?_⟩
    rw[Oper.semAt_plain _ _ _ (qfI hd ho)];exact qnv hn h
   ·cases h
  ·rename_i hw
   rw[if_neg hw]at h;exact⟨fun _ _=>trivial,hn _ _ h⟩
theorem qgJ(hd:qdm ops=true):∀(f:Nat) (L:Array Bool) (a:Act) (w:World),wpAny P md ops (qjv Q) f L a w→wpAnyIn (Fence.wide.inRound l) n P md ops Q f L a w
 |0,_,_,_,h=>⟨h.1,h.2.2⟩
 |f+1,L,a,w,h=>⟨fun hr=>(h.1 hr).2,fun i hi=>qnw hd (fun a w=>qgJ hd f _ a w) (h.2 i hi)⟩
def kA(P:Program)(md:Region.Mode)(ops:Array Oper)(Q:Exit→Act→World→Prop)(S:World→Prop)(z:Nat):Nat→Array Bool→Act→World→Prop
 |0,L,a,w=>Jl md ops L=[]∧Q .normal a w
 |f+1,L,a,w=>(Jl md ops L=[]→Q .normal a w)∧∀i∈Jl md ops L,wpOp P ops Q i (fun a' w'=>(i≠z→S w')∧kA P md ops Q S z f (L.setIfInBounds i true) a' w') a w
variable{z:Nat}
theorem qdP:∀(f:Nat) (L:Array Bool) (a:Act) (w:World),kA P md ops Q S z f L a w→wpAny P md ops Q f L a w
 |0,_,_,_,h=>h
 |f+1,_,_,_,h=>⟨h.1,fun i hi=>wpOp_mono (fun a' w' h'=>qdP f _ a' w' h'.2) (h.2 i hi)⟩
def kV(md:Region.Mode)(ops:Array Oper)(z i:Nat):Bool:=match ops[z]? with
 |some o=>o.after.any fun e=>Region.binds md e&&e.on==i
 |none=>false
theorem qfK{i:Nat}{oi:Oper}{v:Value}(hi:ops[i]?=some oi)(hsel:Region.noSelect ops=true)(hw:kV md ops z i=true)(hQ:∀c a w,Q (.panic c) (a.put oi.dst v) w→Q (.panic c) a w):
 ∀(f:Nat) (L:Array Bool) (a:Act) (w:World),(∀j oj,ops[j]?=some oj→j≠i→L.getD j true=false→(∀e∈oj.after,Region.binds md e=true→e.on≠i)→oi.apart ops oj=true)→
  i∈Jl md ops L→YieldsIf P ops S oi v a→S w→kA P md ops Q S z f (L.setIfInBounds i true) (a.put oi.dst v) w→kA P md ops Q S z (f+1) L a w:=by
 intro f
 induction f with
 |zero=>
  intro L a w _ hr hy hS H;refine⟨fun h=>(by rw[h]at hr;cases hr),fun j hj=>?_⟩;by_cases e:j=i
  ·subst e;exact hy.wpOp hi hS ⟨fun _=>hS,H⟩
  ·have:=ready_mono hj e
   rw[H.1]at this;cases this
 |succ f ih=>
  intro L a w hfree hr hy hS H;refine⟨fun h=>(by rw[h]at hr;cases hr),fun j hj=>?_⟩;by_cases e:j=i
  ·subst e;exact hy.wpOp hi hS ⟨fun _=>hS,H⟩
  ·have h1:=H.2 j (ready_mono hj e)
   obtain⟨hjun,oj,hoj,hall⟩:=mem_ready.1 hj;have hnot:∀e∈oj.after,Region.binds md e=true→e.on≠i:=fun e he hb heq=>by
    have g1:=hall e he hb;have g0:=(mem_ready.1 hr).1;rw[heq]at g1;rcases Jo i L.size with h'|h'
    ·simp[h']at g0 g1;rw[g0]at g1;cases g1
    ·simp[J3 h']at g1
   have hjz:j≠z:=fun ez=>by
    subst ez;unfold kV at hw;rw[hoj]at hw;obtain⟨x,hx,hxe⟩:=Array.any_eq_true'.1 hw;simp only[JC,beq_iff_eq]at hxe;exact hnot x hx hxe.1 hxe.2
   have h2:=wpOp_putIf hoj (hfree j oj hoj e hjun hnot) (fun cs b=>Region.noSelect_spec hsel i oi cs b hi) (fun cs b=>Region.noSelect_spec hsel j oj cs b hoj) hQ hy h1;refine wpOp_mono (fun a' w' h3=>⟨fun _=>h3.2.1 hjz,ih _ a' w' (fun k ok hk hki hun hno=>hfree k ok hk hki ?_ hno) (ready_mono hr (Ne.symm e)) h3.1 (h3.2.1 hjz) ?_⟩) h2
   ·by_cases hjk:j=k
    ·subst hjk;exact hjun
    ·rw[getD_set_ne true hjk]at hun;exact hun
   ·rw[Array.setIfInBounds_comm _ _ e]
    exact h3.2.2
theorem zi{i:Nat}{oi:Oper}{v:Value}{f:Nat}{L:Array Bool}{a:Act}{w:World}(hi:ops[i]?=some oi)(hs:Region.noSelect ops=true)(hw:kV md ops z i=true)(hf:Region.free md ops L i=true)(hr:(Jl md ops L).contains i=true)
 (hQ:∀c a w,Q (.panic c) (a.put oi.dst v) w→Q (.panic c) a w)(hy:YieldsIf P ops S oi v a)(hS:S w)(h:kA P md ops Q S z f (L.setIfInBounds i true) (a.put oi.dst v) w):kA P md ops Q S z (f+1) L a w:=
 qfK hi hs hw hQ f L a w (Region.free_spec hi hf) (by simpa using hr) hy hS h
theorem qao{i:Nat}{o:Oper}{f:Nat}{L:Array Bool}{a:Act}{w:World}(hr:Jl md ops L=[i])(ho:ops[i]?=some o)
 (h:∀K':Act→World→Prop,(∀a w,(i≠z→S w)→kA P md ops Q S z f (L.setIfInBounds i true) a w→K' a w)→if Jv o (yielded ops a.tmps)=true then o.wp P a w K' Q else K' (a.put o.dst undef) w):kA P md ops Q S z (f+1) L a w:=by
 refine⟨fun h0=>(by rw[h0]at hr;cases hr),fun j hj=>?_⟩;rw[hr,Je]at hj;subst hj;have h1:=h (fun a' w'=>(j≠z→S w')∧kA P md ops Q S z f (L.setIfInBounds j true) a' w') (fun _ _ h1 h2=>⟨h1,h2⟩);unfold wpOp;rw[ho];dsimp only;split
 ·rename_i hw;rw[if_pos hw]at h1;exact .inl h1
 ·rename_i hw;rw[if_neg hw]at h1;exact h1
theorem qcY{L:Array Bool}{a:Act}{w:World}(hr:Jl md ops L=[])(h:Q .normal a w):∀f,kA P md ops Q S z f L a w
 |0=>⟨hr,h⟩
 |_+1=>⟨fun _=>h,by rw[hr];simp⟩
theorem qat{id:Nat}{a:Act}{w:World}(hm:P.follows .mixedOrders=true)(hd:qdm ops=true)(S:World→Prop)(z:Nat)
 (h:kA P .any ops (qjv Q) S z ops.size (Array.replicate ops.size false) a w.drew):(Code.region id ops true).wpIn (Fence.wide.inRound l) n P Q a w:=
 wpIn_region_any hm (qgJ hd _ _ _ _ (qdP _ _ _ _ h))
end
attribute [local go_sem] Oper.semAt_some
structure ExI(nb e1 e2 N L:Nat)(xs:qf)(W:World):Prop where
 n:Boxed W nb 3 (.int .i64 (N:Int))
 v:Boxed W e1 28 (.slice (some ⟨e2,0,none⟩) L N)
 o:Own b8 W e2 5 (.slice (some ⟨e2,0,none⟩) L N) xs
theorem ExI.own{nb e1 e2 N L:Nat}{xs:qf}{W W':World}{row:Option Nat}(h:ExI nb e1 e2 N L xs W)(hg:W.grownBy W' row)(hr:∀r,row=some r→∃o:Obj,W.heap[r]?=some o∧o.isCells=false):ExI nb e1 e2 N L xs W':=
 ⟨qnp h.n hg hr,qnp h.v hg hr,qok h.o hg hr⟩
theorem qkD{W:World}{B g E n c:Nat}{xs:qf}{o:Obj}(h:Own b8 W B E (.slice (some ⟨g,0,none⟩) n c) xs)(ho:W.heap[g]?=some o):o.isCells=true:=by
 rcases h.2 with⟨h1,_⟩|⟨g',cap,cur,h1,_,hg',_⟩
 ·cases h1
 ·cases h1;rw[hg']at ho;cases ho;rfl
theorem zB{P:Program}{ops:Array Oper}{md:Region.Mode}{Q:Exit→Act→World→Prop}{S:World→Prop}{z i:Nat}(d:Nat){oi:Oper}{v:Value}{f:Nat}{L:Array Bool}{a:Act}{w:World}(hi:ops[i]?=some oi)(hd:oi.dst=some d)(hs:Region.noSelect ops=true)(hw:kV md ops z i=true)(hf:Region.free md ops L i=true)(hr:(Jl md ops L).contains i=true)
 (hQ:∀c a w,Q (.panic c) (a.put oi.dst v) w→Q (.panic c) a w)(hy:YieldsIf P ops S oi v a)(hS:S w)(h:kA P md ops Q S z f (L.setIfInBounds i true) {tmps:=a.tmps.setIfInBounds d v,defers:=a.defers} w):kA P md ops Q S z (f+1) L a w:=
 zi hi hs hw hf hr hQ hy hS (by rw[hd];exact h)
theorem qiq(w:World)(B1 n1 c1 B2 n2 c2 N:Nat)(A1 A2:Option Addr)(key inf:qf)(hr1:Rd b8 w B1 A1 key)(hB1:B1≤w.heap.size)(hn1:n1=key.length)(hr2:Rd b8 w B2 A2 inf)(hB2:B2≤w.heap.size)(hn2:n2=inf.length)(hk:n1≤100000)(hi:n2≤100000)(hN:N≤8160):
 Calls prog 127 #[.slice A1 n1 c1,.slice A2 n2 c2,.int .i64 (N:Int)] w fun e w'=>∃g,e= .returned (.tuple #[.slice (some ⟨g,0,none⟩) N N,.nilIface])∧Own b8 w' w.heap.size 5 (.slice (some ⟨g,0,none⟩) N N) (Qw key inf N)∧Below w.heap.size w w':=by
 obtain⟨i0,hi0,hz0,hz1,hz2⟩:=info_parts jN;have H1:=qe hn1;have H2:=qe hn2;have R1:=qe (hr1.more hB1);have R2:=qe (hr2.more hB2);have lN:(N:Int)≤8160:=by omega
 have lN0:¬((N:Int)<0):=by omega
 have lN1:¬((N:Int)>8160):=by omega
 clear hn1 hn2 hr1 hr2 hB1 hB2;refine(callsIn_wide (n:=9)).1 ?_;refine callsIn_of_wp_marks func127 rfl trivial ?_ rfl;simp only[ntmps127,Jh,Jr,JE,JI,Nat.reduceSub,Zi,Zj,Zk,Zl,Ji,JL];refine wpIn_wide.2 ?_;go_wp2_with fail
 have HN:=qe (Boxed.new w 3 (.int .i64 (N:Int)));have HBn:=qe ((QK w.heap.size w).alloc (QI _) (.cells #[.int .i64 (N:Int)] 3));have hs1:(w.alloc (.cells #[.int .i64 (N:Int)] 3)).heap.size=w.heap.size+1:=QQ ..;have c5:=HN.1.cell;generalize w.alloc (.cells #[.int .i64 (N:Int)] 3)=w1 at HN HBn hs1 c5 ⊢;have hs1':w.heap.size<w1.heap.size:=by omega
 clear hs1;refine wp_scope_straight ?_;go_wp2_with (refine wpList_make_own _ rfl (.const (.int .i64 0)) (.tmp 17) 28 rfl w1.heap.size 5 i0 _ 1 underlying28 hi0 hz0 hz1 .i64 .i64 (N:Int) N rfl rfl (by omega) (by rw[hz2];omega) (by simp[maxLen];omega) (by simp) ?_;intro w2 hown2 hg2;have HO2:=qe (show Own b8 w2 w1.heap.size 5 (.slice (some ⟨w1.heap.size,0,none⟩) 0 N) []from hown2);have HG2:=qe hg2;have hs2:=hg2.size;clear hown2 hg2)
 have hs2':w1.heap.size<w2.heap.size:=(HO2.1.lt _ rfl).2;have HV3:=qe (Boxed.new w2 28 (.slice (some ⟨w1.heap.size,0,none⟩) 0 N));have HN3:=qe (((show Boxed w1 w.heap.size 3 (.int .i64 (N:Int))from HN.1).kept HG2.1 (by simp)).alloc (.cells #[.slice (some ⟨w1.heap.size,0,none⟩) 0 N] 28));have HO3:=qe (HO2.1.alloc (.cells #[.slice (some ⟨w1.heap.size,0,none⟩) 0 N] 28));have HB3:=qe ((HBn.1.grown HG2.1 (by omega) (fun k e=>by cases e)).alloc (by omega) (.cells #[.slice (some ⟨w1.heap.size,0,none⟩) 0 N] 28))
 have hs3:(w2.alloc (.cells #[.slice (some ⟨w1.heap.size,0,none⟩) 0 N] 28)).heap.size=w2.heap.size+1:=QQ ..;generalize w2.alloc (.cells #[.slice (some ⟨w1.heap.size,0,none⟩) 0 N] 28)=w3 at HV3 HN3 HO3 HB3 hs3 ⊢;have hs3':w2.heap.size<w3.heap.size:=by omega
 clear hs3 HO2 HG2 HBn HN c5;refine wp_label ?_;go_wp2_with fail
 refine(qlZ A1 A2 n1 c1 n2 c2 w3).mono ?_;rintro e w4 ⟨rfl,rfl⟩;go_wp2_with fail
 generalize hW5:QY (QY w3 _) _=W5;have hf:Boxed W5 w2.heap.size 28 (.slice (some ⟨w1.heap.size,0,none⟩) 0 N)∧Boxed W5 w.heap.size 3 (.int .i64 (N:Int))∧Own b8 W5 w1.heap.size 5 (.slice (some ⟨w1.heap.size,0,none⟩) 0 N) []∧Boxed W5 w3.heap.size 28 (.slice A1 n1 c1)∧Boxed W5 (w3.heap.size+1) 28 (.slice A2 n2 c2)∧Below w.heap.size w W5∧W5.heap.size=w3.heap.size+2:=by
  rw[←hW5];refine⟨(HV3.1.alloc _).alloc _,(HN3.1.alloc _).alloc _,(HO3.1.alloc _).alloc _,(Boxed.new w3 28 _).alloc _,?_,(HB3.1.alloc HB3.1.size _).alloc (by have:=HB3.1.size;simp;omega) _,by simp⟩;have:=Boxed.new (w3.alloc (.cells #[.slice A1 n1 c1] 28)) 28 (.slice A2 n2 c2);rw[QQ]at this;exact this
 obtain⟨hv5,hn5,ho5,hk5,hi5,hb5,hz5⟩:=hf;clear hW5 HV3 HN3 HO3 HB3;refine(wpIn_wide (n:=9)).1 ?_;have hws:w.heap.size≤W5.heap.size:=hb5.size;refine wpIn_rangeFunc_ownH rfl (by omega) (gf:=141) (lb:= #[.pointer (some ⟨w3.heap.size,0,none⟩),.pointer (some ⟨w3.heap.size+1,0,none⟩)]) rfl trivial (enters_of func141 (by kernel_rfl) rfl)
  (qio 8 (by omega) w3.heap.size (w3.heap.size+1) w2.heap.size w1.heap.size w.heap.size n1 c1 n2 c2 A1 A2 key inf H1.1 H2.1 hk hi W5 hk5 hi5 (R1.1.below hb5) (R2.1.below hb5) hws ⟨by omega,by omega⟩ ⟨by omega,by omega⟩ ⟨by omega,by omega,by omega,by omega⟩)
  KpT.t (fun W l o o' hl ho hc hw=>KpT.put hl hws ho hc) (QK _ _) (fun _=>rfl)
  (fun pre W=>(ExI w.heap.size w2.heap.size w1.heap.size N (32*pre.length) (exL key inf (pre.map Jj)) W∧(32*pre.length<N∨pre=[]))∧Below w.heap.size w W)
  (fun c' pre W=>(ExI w.heap.size w2.heap.size w1.heap.size N N ((exL key inf (pre.map Jj)).take N) W∧c'= .exit 0∧N≤32*pre.length)∧Below w.heap.size w W)
  (OwnFrom.and (Go.Own.from (fun s A' B' row hs hg hr=>⟨hs.1.own hg hr,hs.2⟩) _) (ownFrom_below (QI _) (by omega)))
  (fun c=>OwnFrom.and (Go.Own.from (fun s A' B' row hs hg hr=>⟨hs.1.own hg hr,hs.2⟩) _) (ownFrom_below (QI _) (by omega))) ⟨⟨⟨hn5,hv5,ho5⟩,.inr rfl⟩,hb5⟩
  (fun x a' W=>∃g,a'={tmps:= #[.slice A1 n1 c1,.slice A2 n2 c2,.int .i64 (N:Int),undef,undef,.pointer (some ⟨w.heap.size,0,none⟩),.slice none 0 0,.nilIface,.pointer (some ⟨w2.heap.size,0,none⟩),.pointer (some ⟨g,0,none⟩),.int .i64 (N:Int),.bool (decide ((N:Int)<0)),.bool (decide ((N:Int)<0)),.int .i64 (N:Int),.bool (decide (8160<(N:Int))),.bool (decide ((N:Int)<0)||decide (8160<(N:Int))),undef,.int .i64 (N:Int),.slice (some ⟨w1.heap.size,0,none⟩) 0 N,.slice A1 n1 c1,.slice A2 n2 c2,.func (.func 141) #[] #[.pointer (some ⟨w3.heap.size,0,none⟩),.pointer (some ⟨w3.heap.size+1,0,none⟩)],.agg ((kM key inf x.1).map b8).toArray,undef,undef,undef,undef,undef,undef,undef,undef,undef,undef,undef,undef,undef],defers:=[]}∧Arr b8 W g 23 (kM key inf x.1))
  (fun x a' s W W' row hs hg hr=>by obtain⟨g,e,hA⟩:=hs;exact⟨g,e,qno hA hg (fun r e=>(hr r e).2)⟩) ?assign ?body ?done ?stop
 case assign=>
  rintro l pre x W K ⟨⟨hM,hlen⟩,hB'⟩ hK;have HZ:=qe (Arr.new b8 W 23 (QL 32 0#8));obtain⟨S,hS⟩:∃S,S=kM key inf x.1:=⟨_,rfl⟩;have HSl:=qe (show S.length=32 by rw[hS];obtain⟨j,hj⟩:∃j,x.1=j+1:=⟨x.1-1,by have:=x.2.1;omega⟩;rw[hj];exact kN _ _ _);have HSe:=qe hS;have HKK:=qe hK;have HM:=qe hM;simp only[qnu,←hS,qn,List.zip_toArray,List.zip_cons_cons,List.zip_nil_right,List.zip_nil_left,List.foldl_toArray',List.foldl_toArray,J4,List.foldl_nil,qj,qz,qv]
  clear hK hM hS;gi_wp2_with (refine qaa rfl 23 (.tmp 9) (.tmp 22) rfl W.heap.size rfl S rfl _ _ HZ.1 (by rw[HSl.1];rfl) (by rw[qR,HSl.1]) qU ?_;intro w2' hp2 hg2;have HP2:=qe hp2;have HG2:=qe hg2;clear hp2 hg2)
  have hg:W.grownBy w2' none:=qp (World.grownBy_alloc W _ none) HG2.1 (fun g e=>by cases e;exact .inr (QI _));have hbw:Below W.heap.size W w2':=(QK _ W).grown hg (QI _) (fun k e=>by cases e);have hM2:=HM.1.own hg (fun r e=>by cases e);exact HKK.1 _ w2' ((KeepsOthers.of_grownBy hg (fun j o e=>by cases e)).from _) (KpT.of_below hbw hB'.size) ⟨⟨hM2,hlen⟩,hB'.trans (hbw.mono hB'.size)⟩ ⟨W.heap.size,by rw[←HSe.1],HSe.1▸HP2.1⟩
 case done=>
  rintro D ys W hD hys ⟨⟨hI,hlen⟩,hB⟩ hK;have hl:=congrArg JT hys;rw[QN,List.length_range']at hl;rcases hlen with h|h
  ·omega
  ·rw[h]at hl;simp at hl
 case body=>
  rintro l pre x a' W hl hrec ⟨⟨hM,hlen⟩,hB'⟩ ⟨g,rfl,hA⟩ hN';obtain⟨S,hSe⟩:∃S,S=kM key inf x.1:=⟨_,rfl⟩;have HSl:=qe (show S.length=32 by rw[hSe];obtain⟨j,hj⟩:∃j,x.1=j+1:=⟨x.1-1,by have:=x.2.1;omega⟩;rw[hj];exact kN _ _ _);obtain⟨L,hL⟩:∃L,L=32*pre.length:=⟨_,rfl⟩;obtain⟨X,hX⟩:∃X,X=exL key inf (pre.map Jj):=⟨_,rfl⟩;have HXl:=qe (show X.length=L by rw[hX,hL,qnt _ _ _ (by intro i hi;obtain⟨y,_,rfl⟩:=QW.1 hi;exact y.2.1),QN])
  have hLN:L≤N:=by rcases hlen with h|h;omega;subst h;simp at hL;omega
  obtain⟨T,hT⟩:∃T:Nat,T=min 32 (N-L):=⟨_,rfl⟩;have hT1:T≤32:=by omega
  have hT2:L+T≤N:=by omega
  have HTe:=qe hT;have hmn:min (32:Int) ((N:Int)-(L:Int))=(T:Int):=by omega
  have hTi:(T:Int)≤32:=by omega
  have hLi:(L:Int)≤(N:Int):=by omega
  rw[←hL,←hX]at hM;rw[←hSe]at hA ⊢;have HL:=qe hL;have HX:=qe hX;have HS:=qe hSe;have HM:=qe hM;have HA:=qe hA;have HB':=qe hB';have c5:=hM.n.cell;have c8:=hM.v.cell;clear hM hA hT hL hX hSe hlen hB' hrec;gi_wp2_with fail
  have hS:(fun w':World=>w'.cell? ⟨w2.heap.size,0,none⟩=some (.slice (some ⟨w1.heap.size,0,none⟩) L N)∧w'.cell? ⟨w.heap.size,0,none⟩=some (.int .i64 (N:Int))) W.drew:=⟨c8,c5⟩;refine qat (by kernel_rfl) (by kernel_rfl) (fun w':World=>w'.cell? ⟨w2.heap.size,0,none⟩=some (.slice (some ⟨w1.heap.size,0,none⟩) L N)∧w'.cell? ⟨w.heap.size,0,none⟩=some (.int .i64 (N:Int))) 8 ?_;refine zB (0+23) (i:=0) (v:= .slice (some ⟨w1.heap.size,0,none⟩) L N) rfl rfl (by kernel_rfl) (by kernel_rfl) (by kernel_rfl) (by kernel_rfl) (fun _ _ _ h=>nomatch h.1) (QZ ⟨by rfl,?_⟩) hS ?_
  ·rintro w' ⟨s0,s1⟩
   go_simp;try first|exact hwr|exact hif
  simp only[JI,qj,qz,qv];refine zB (1+23) (i:=1) (v:= .int .i64 (N:Int)) rfl rfl (by kernel_rfl) (by kernel_rfl) (by kernel_rfl) (by kernel_rfl) (fun _ _ _ h=>nomatch h.1) (QZ ⟨by rfl,?_⟩) hS ?_
  ·rintro w' ⟨s0,s1⟩
   go_simp;try first|exact hwr|exact hif
  simp only[JI,qj,qz,qv];refine zB (2+23) (i:=2) (v:= .slice (some ⟨w1.heap.size,0,none⟩) L N) rfl rfl (by kernel_rfl) (by kernel_rfl) (by kernel_rfl) (by kernel_rfl) (fun _ _ _ h=>nomatch h.1) (QZ ⟨by rfl,?_⟩) hS ?_
  ·rintro w' ⟨s0,s1⟩
   go_simp;try first|exact hwr|exact hif
  simp only[JI,qj,qz,qv];refine zB (3+23) (i:=3) (v:= .int .i64 (L:Int)) rfl rfl (by kernel_rfl) (by kernel_rfl) (by kernel_rfl) (by kernel_rfl) (fun _ _ _ h=>nomatch h.1) (QZ ⟨by rfl,?_⟩) hS ?_
  ·rintro w' ⟨s0,s1⟩
   go_simp;try first|exact hwr|exact hif
  simp only[JI,qj,qz,qv];have hwr:IntKind.i64.wrap ((N:Int)-(L:Int))=(N:Int)-(L:Int):=by rw[IntKind.wrap_i64];omega
  have hif:(if(N:Int)-(L:Int)<32 then(N:Int)-(L:Int)else 32)=(T:Int):=by have:=HTe.1;split<;>omega
  refine zB (4+23) (i:=4) (v:= .int .i64 ((N:Int)-(L:Int))) rfl rfl (by kernel_rfl) (by kernel_rfl) (by kernel_rfl) (by kernel_rfl) (fun _ _ _ h=>nomatch h.1) (QZ ⟨by rfl,?_⟩) hS ?_
  ·rintro w' ⟨s0,s1⟩
   go_simp;try first|exact hwr|exact hif
  simp only[JI,qj,qz,qv];refine zB (5+23) (i:=5) (v:= .int .i64 (T:Int)) rfl rfl (by kernel_rfl) (by kernel_rfl) (by kernel_rfl) (by kernel_rfl) (fun _ _ _ h=>nomatch h.1) (QZ ⟨by rfl,?_⟩) hS ?_
  ·rintro w' ⟨s0,s1⟩
   go_simp;try first|exact hwr|exact hif
  simp only[JI,qj,qz,qv];refine zB (6+23) (i:=6) (v:= .slice (some ⟨g,0,none⟩) T 32) rfl rfl (by kernel_rfl) (by kernel_rfl) (by kernel_rfl) (by kernel_rfl) (fun _ _ _ h=>nomatch h.1) (QZ ⟨by rfl,?_⟩) hS ?_
  ·rintro w' ⟨s0,s1⟩
   go_simp;try first|exact hwr|exact hif
  simp only[JI,qj,qz,qv];refine qao (i:=7) (by kernel_rfl) rfl (fun K' hK=>?_);refine qdi rfl (.tmp 23) (.tmp 29) 28 rfl w1.heap.size 5 i0 underlying28 hi0 hz1 w1.heap.size L N X HXl.1 rfl HM.1.o.drew (g+1) ⟨g,0,none⟩ T 32 (S.take T) rfl (by rw[QV,HSl.1];omega) ((HA.1.rd 0).take T) hT2 ?_;intro w7 hown7 hg7;have hng:=hN';clear hN';have hg7':W.grownBy w7 (some w1.heap.size):=⟨hg7.os,hg7.tape,hg7.output,hg7.size,hg7.block⟩
  have hbs:w1.heap.size<W.heap.size:=(HM.1.o.lt _ rfl).2;have hn7:Boxed w7 w.heap.size 3 (.int .i64 (N:Int)):=HM.1.n.kept hg7' (by intro e;have:=Ju e;omega);have hv7:Boxed w7 w2.heap.size 28 (.slice (some ⟨w1.heap.size,0,none⟩) L N):=HM.1.v.kept hg7' (by intro e;have:=Ju e;omega);have c57:=hn7.cell;have c87:=hv7.cell;have f87:=hv7.frozen;refine hK _ _ (fun _=>⟨c87,c57⟩) ?_
  clear hK K';simp only[Act.put,qj,qz,qv];refine qao (i:=8) (by kernel_rfl) rfl (fun K' hK=>?_);go_simp;refine hK _ _ (fun h=>absurd rfl h) (qcY (by kernel_rfl) ⟨rfl,?_⟩ _);clear hK K';have HI8:=qe (show ExI w.heap.size w2.heap.size w1.heap.size N (L+T) (X++S.take T) (w7.setCell ⟨w2.heap.size,0,none⟩ (.slice (some ⟨w1.heap.size,0,none⟩) (L+T) N))from⟨hn7.other (by omega) _,hv7.set _,hown7.kept' (grownBy_setCell' _ _ _) (fun r e hv=>by cases e;have:=Ju (show some w1.heap.size=some w2.heap.size from hv);omega)⟩)
  have HK8:=qe (show KeepsOthers W (w7.setCell ⟨w2.heap.size,0,none⟩ (.slice (some ⟨w1.heap.size,0,none⟩) (L+T) N))from(KeepsOthers.of_grownBy hg7' (fun j o e ho=>by cases e;exact qkD HM.1.o ho)).trans (KeepsOthers.setCell _ _ _));have HB8:=qe (show Below w.heap.size W (w7.setCell ⟨w2.heap.size,0,none⟩ (.slice (some ⟨w1.heap.size,0,none⟩) (L+T) N))from((QK w.heap.size W).grown hg7' HB'.1.size (fun k e=>by cases e;omega)).setCell (p:=⟨w2.heap.size,0,none⟩) (by simp;omega) _)
  have HP8:=qe (show KpT w.heap.size w2.heap.size w1.heap.size W (w7.setCell ⟨w2.heap.size,0,none⟩ (.slice (some ⟨w1.heap.size,0,none⟩) (L+T) N))from⟨HB8.1,fun g' o hg' _ h1 h2=>by
   have hlt:g'<W.heap.size:=(Zm.1 hg').1;rw[Below.heap_setCell _ _ _ _ (show g'≠(⟨w2.heap.size,0,none⟩:Addr).block from h1)];exact(hg7'.block g' hlt (fun e=>h2 (Ju e))).trans hg'⟩)
  have HL8:=qe (show exL key inf ((pre++ [x]).map Jj)=X++S by rw[Q9,Jd,Jt,qgH,HX.1,HS.1]);generalize hw8:w7.setCell _ _=w8 at HI8 HK8 HB8 HP8 ⊢;have c58:=HI8.1.n.cell;have c88:=HI8.1.v.cell;clear hown7 hg7 hg7' hn7 hv7 c57 c87 f87 c5 c8 hS hw8;by_cases hend:L+T=N
  ·have hend':((L:Int)+(T:Int)==(N:Int))=true:=by rw[beq_iff_eq];omega
   have hcast:((L+T:Nat):Int)=(N:Int):=by omega
   gi_wp2_with fail
   refine⟨HK8.1.from _,⟨?_,rfl,?_⟩,HB'.1.trans HB8.1⟩
   ·have h:=HI8.1
    rw[HL8.1];have e:(X++S).take N=X++S.take T:=by rw[←hend,List.take_append,Js (by rw[HXl.1];omega),HXl.1,show L+T-L=T by omega]
    rw[e];rw[hend]at h;exact h
   ·have:=HL.1;rw[QO];simp;omega
  ·have hend':((L:Int)+(T:Int)==(N:Int))=false:=by rw[beq_eq_false_iff_ne];omega
   gi_wp2_with fail
   have hT32:T=32:=by have:=HTe.1;omega
   refine⟨HK8.1.from _,HP8.1,⟨?_,.inl ?_⟩,HB'.1.trans HB8.1⟩
   ·have h:=HI8.1
    rw[HL8.1,QO,List.length_singleton,Nat.mul_add,←HL.1];rw[hT32,Js (by rw[HSl.1];omega)]at h;exact h
   ·have:=HL.1;rw[QO];simp;omega
 case stop=>
  rintro D c' pre W hD hpre ⟨⟨hI,rfl,hlen⟩,hB'⟩ hK;obtain⟨k,hpm⟩:=hpre;have hpl:pre.length=k:=by have:=congrArg JT hpm;rw[QN,List.length_range']at this;exact this
  have hk255:k≤255:=by
   rcases Jo 255 k with h|h
   ·exfalso
    have hm:256∈pre.map Jj:=by rw[hpm,List.mem_range'_1];omega
    obtain⟨y,_,hy⟩:=QW.1 hm;have:=y.2.2;omega
   ·exact h
  have HE:=qe (show(exL key inf (pre.map Jj)).take N=Qw key inf N by rw[hpm,qkB];exact(qju key inf k N hk255 (by omega)).symm);have c8:=hI.v.cell;have HI:=qe hI;have hK':=hK;clear hI hpm hlen;gi_wp2_with fail
  go_wp2_with fail
  refine⟨by simp,.inl ⟨_,_,rfl,run_takeDeferred hK',?_⟩⟩;refine⟨.tuple #[.slice (some ⟨w1.heap.size,0,none⟩) N N,.nilIface],by simp[results,Tryz.f127,go_sem],w1.heap.size,rfl,?_,?_⟩
  ·have h:=qok HI.1.o (grownBy_putObj' _ D (.deferred none)) (fun r e=>by cases e;exact⟨_,hK',rfl⟩)
   rw[HE.1]at h;exact h.less (by omega)
  ·exact hB'.trans (belowK_b (w:=w) (QI _) _ D _ _ (by omega) hK' rfl rfl)
theorem qdQ(W:World)(B m1 d1 m2 d2:Nat)(C1 C2:Option Addr)(xs ys:qf)(hr1:Rd b8 W B C1 xs)(hr2:Rd b8 W B C2 ys)(hB:B≤W.heap.size)(hm1:m1=xs.length)(hm2:m2=ys.length)(htot:xs.length+ys.length≤40000000):
 Calls prog 61 #[.slice (some ⟨W.heap.size,0,none⟩) 2 2] (W.alloc (.cells #[.slice C1 m1 d1,.slice C2 m2 d2] 28)) fun e w'=>∃v,e= .returned v∧Own b8 w' (W.heap.size+1) 5 v (xs++ys)∧Below W.heap.size W w':=by
 refine(qam _ B W.heap.size 0 2 2 _ (qbV W B [((C1,m1,d1),xs),((C2,m2,d2),ys)] (by simpa using⟨hr1,hr2⟩) (by simpa using⟨hm1,hm2⟩) hB) (by simp;omega) rfl (by omega) (by simp;omega)).mono ?_;rintro e w' ⟨v,rfl,ho,hb⟩;refine⟨v,rfl,?_,((QK _ W).alloc (QI _) _).trans (hb.mono (by simp))⟩;rw[QQ]at ho;exact ho.cast (by simp)
def PAs(w:World)(g:Nat)(ss:List Sl):Prop:=w.heap[g]?=some (.cells (ss.map sl).toArray 28 (0,0))
theorem qB{w w':World}{o:Obj}(h:Below w.heap.size w w'):Below w.heap.size w (w'.alloc o):=h.alloc h.size o
theorem qD{w w':World}(h:Below w.heap.size w w'):Below w.heap.size w w'.drew:=h.drew
theorem PAs.lt{w:World}{g:Nat}{ss:List Sl}(h:PAs w g ss):g<w.heap.size:=(Zm.1 h).1
theorem uY{w:World}{g:Nat}{ss:List Sl}{cs:Array Value}(hg:g=w.heap.size)(hc:cs=(ss.map sl).toArray):PAs (w.alloc (.cells cs 28)) g ss:=by subst hg hc;exact heap_alloc_new w _
theorem yQ{w:World}{g:Nat}{ss:List Sl}{o:Obj}(h:PAs w g ss):PAs (w.alloc o) g ss:=(Below.heap_alloc w o g h.lt).trans h
theorem yR{w:World}{g:Nat}{ss:List Sl}(h:PAs w g ss):PAs w.drew g ss:=h
theorem qnx{w:World}{B g:Nat}{ps:List Pt}(h:PAs w g (ps.map (·.1)))(hr:∀u∈ps,Rd b8 w B u.1.1 u.2)(hl:∀u∈ps,u.1.2.1=u.2.length):Pts w B g 0 ps:=
 ⟨fun k u hu=>by
  have h2:w.heap[g]?=some (.cells (((ps.map (·.1)).map sl).toArray) 28 (0,0)):=h;rw[JD,cell_of_row _ g k _ 28 (0,0) h2];simp[hu],h.lt,hr,hl⟩
def zG(n:Nat):Value:=if n=0 then .nilIface else .iface 69 (.int .i64 (n:Int))
theorem qW:zG 0= .nilIface:=rfl
theorem jO{n:Nat}(h:n≠0):zG n= .iface 69 (.int .i64 (n:Int)):=if_neg h
theorem qfL(n:Int)(w:World):(Instr.typeAssert (.iface 69 (.int .i64 n)) 36 69 true).run prog w= .ok (.tuple #[.int .i64 n,.bool true]) w:=by kernel_rfl
theorem qjw(n:Nat)(w:World):Calls prog 15 #[zG n] w fun e w'=>e= .returned (.int .i64 (n:Int))∧w=w':=by
 by_cases h:n=0
 ·subst h
  rw[qW];go_enter func15,ntmps15
  go_wp2
  go_ret;exact⟨rfl,rfl⟩
 ·rw[jO h]
  have h0:((n:Int)==0)=false:=by simp;omega
  have hne:(n=0)=False:=by simp[h]
  have hta:=qfL (n:Int);clear h;go_enter func15,ntmps15
  go_wp2
  go_ret;exact⟨rfl,rfl⟩
theorem qom(n m:Nat)(w:World):Calls prog 25 #[zG n,.int .i64 (m:Int)] w fun e w'=>e= .returned (.bool ((n:Int)==(m:Int)))∧w=w':=by
 go_enter func25,ntmps25
 go_wp2_with (go_at_call 15;refine(qjw _ _).mono ?_;rintro e w' ⟨rfl,rfl⟩)
 go_ret;exact⟨rfl,rfl⟩
def jb(t:Bool)(h:Int)(s:BitVec 64)(n:Int):Nat:=
 if n<0∨4294967295≤n then 8 else if t=false∨h<n then 0 else if n=h then 7 else if 64<h-n then 11 else if s.getLsbD (h-n-1).toNat then 7 else 0
theorem qon(s:BitVec 64)(e:Nat):(bv (s>>>e&&&1#64)==1)=s.getLsbD e:=by
 rw[show(1:Int)=@OfNat.ofNat Int 1 instOfNat from rfl,qh8 _ 1 (by decide)];rw[Bool.eq_iff_iff,beq_iff_eq]
 constructor
 ·intro h
  have:=congrArg (fun x:BitVec 64=>x.getLsbD 0) h;simpa using this
 ·intro h
  apply BitVec.eq_of_getLsbD_eq;intro i hi;by_cases h0:i=0
  ·subst h0;simpa using h
  ·simp[h0]
def js(t:Bool)(h:Int)(s:BitVec 64)(n:Int):Bool×Int×BitVec 64:=
 if t=false then(true,n,s)else if n<h then(true,h,s|||1#64<<<(h-n-1).toNat)else(true,n,s<<<(n-h).toNat|||1#64<<<(n-h-1).toNat)
section
variable{w:World}{g:Nat}{t:Bool}{h:Int}{s:BitVec 64}
end
def hiL(L:List Int):Int:=L.foldl (fun m x=>if m<x then x else m) (-1)
def kg(L:List Int)(n:Int):Nat:=
 if n<0∨4294967294<n then 8 else if n<hiL L-64 then 11 else if n∈L then 7 else 0
theorem qdR(L:List Int)(n:Int):hiL (L++ [n])=if hiL L<n then n else hiL L:=by unfold hiL;rw[List.foldl_append];rfl
structure Inv(L:List Int)(t:Bool)(h:Int)(s:BitVec 64):Prop where
 none_:t=false→L=[]∧s=0#64
 some_:t=true→h=hiL L∧0≤h∧h<4294967295∧h∈L∧(∀x∈L,x≤h)∧∀n:Int,0≤n→n<h→h-n≤64→(n∈L↔s.getLsbD (h-n-1).toNat=true)
theorem Inv.start:Inv [] false 0 0#64:=⟨fun _=>⟨rfl,rfl⟩,fun h=>by cases h⟩
theorem Inv.bound{L:List Int}{t:Bool}{h:Int}{s:BitVec 64}(x:Inv L t h s):t=true→0≤h∧h<4294967295:=fun ht=>⟨(x.some_ ht).2.1,(x.some_ ht).2.2.1⟩
theorem Inv.check{L:List Int}{t:Bool}{h:Int}{s:BitVec 64}(x:Inv L t h s)(n:Int):jb t h s n=kg L n:=by
 by_cases h1:n<0∨4294967295≤n
 ·unfold jb kg
  rw[if_pos h1,if_pos (show n<0∨4294967294<n by omega)]
 have er:kg L n=if n<hiL L-64 then 11 else if n∈L then 7 else 0:=by unfold kg;rw[if_neg (show¬(n<0∨4294967294<n) by omega)]
 have ew:jb t h s n=if t=false∨h<n then 0 else if n=h then 7 else if 64<h-n then 11 else if s.getLsbD (h-n-1).toNat then 7 else 0:=by unfold jb;rw[if_neg h1]
 rw[er,ew];cases t with
 |false=>
  obtain⟨rfl,-⟩:=x.none_ rfl;rw[if_pos (show false=false∨h<n from .inl rfl),if_neg (show¬n<hiL []-64 by simp[hiL];omega),if_neg (show n∉ ([]:List Int) by simp)]
 |true=>
  obtain⟨e,b0,b1,hm,hle,hbit⟩:=x.some_ rfl;rw[←e];by_cases h2:h<n
  ·rw[if_pos (show true=false∨h<n from .inr h2),if_neg (show¬n<h-64 by omega),if_neg (show n∉L from fun hn=>by have:=hle n hn;omega)]
  rw[if_neg (show¬(true=false∨h<n) by simp;omega)];by_cases h3:n=h
  ·rw[if_pos h3,if_neg (show¬n<h-64 by omega),if_pos (show n∈L by rw[h3];exact hm)]
  rw[if_neg h3];by_cases h4:64<h-n
  ·rw[if_pos h4,if_pos (show n<h-64 by omega)]
  rw[if_neg h4,if_neg (show¬n<h-64 by omega)];have:=hbit n (by omega) (by omega) (by omega);by_cases h5:s.getLsbD (h-n-1).toNat=true
  ·rw[if_pos h5,if_pos (this.2 h5)]
  ·rw[if_neg h5,if_neg (fun hn=>h5 (this.1 hn))]
theorem Inv.mark{L:List Int}{t:Bool}{h:Int}{s:BitVec 64}(x:Inv L t h s)(n:Int)(h0:kg L n=0):
 Inv (L++ [n]) (js t h s n).1 (js t h s n).2.1 (js t h s n).2.2:=by
 have hb:0≤n∧n≤4294967294∧hiL L-64≤n∧n∉L:=by
  unfold kg at h0;split at h0
  ·cases h0
  ·split at h0
   ·cases h0
   ·split at h0
    ·cases h0
    ·rename_i a b c
     exact⟨by omega,by omega,by omega,c⟩
 obtain⟨c0,c1,c2,c3⟩:=hb;cases t with
 |false=>
  obtain⟨rfl,rfl⟩:=x.none_ rfl;refine⟨fun hf=>by simp[js]at hf,fun _=>?_⟩;simp only[js,if_true,Ji];refine⟨by simp[hiL];omega,c0,by omega,by simp,by simp,fun m hm0 hm1 _=>?_⟩;simp;omega
 |true=>
  obtain⟨e,b0,b1,hm,hle,hbit⟩:=x.some_ rfl;have hnh:n≠h:=fun e=>c3 (e▸hm)
  by_cases hlt:n<h
  ·have ew:js true h s n=(true,h,s|||1#64<<<(h-n-1).toNat):=by unfold js;rw[if_neg (by simp),if_pos hlt]
   rw[ew];dsimp only;refine⟨fun hf=>by simp at hf,fun _=>⟨?_,b0,b1,by simp[hm],fun y hy=>?_,fun m hm0 hm1 hm2=>?_⟩⟩
   ·simp only[qdR];rw[if_neg (by omega)];exact e
   ·rcases QS.1 hy with hy|hy
    ·exact hle y hy
    ·simp at hy;omega
   ·simp only[BitVec.getLsbD_or,ZF,BitVec.getLsbD_one,Bool.or_eq_true,JC,decide_eq_true_eq,QS,Je,hbit m hm0 hm1 hm2,Bool.not_eq_true',decide_eq_false_iff_not]
    constructor
    ·rintro(h|h)
     ·exact .inl h
     ·right;refine⟨⟨by omega,by omega⟩,by omega⟩
    ·rintro(h|⟨⟨h1,h2⟩,h3⟩)
     ·exact .inl h
     ·right;omega
  ·have ew:js true h s n=(true,n,s<<<(n-h).toNat|||1#64<<<(n-h-1).toNat):=by unfold js;rw[if_neg (by simp),if_neg hlt]
   rw[ew];dsimp only;refine⟨fun hf=>by simp at hf,fun _=>⟨?_,c0,by omega,by simp,fun y hy=>?_,fun m hm0 hm1 hm2=>?_⟩⟩
   ·simp only[qdR];rw[if_pos (by omega)]
   ·rcases QS.1 hy with hy|hy
    ·have:=hle y hy;omega
    ·simp at hy;omega
   ·simp only[BitVec.getLsbD_or,ZF,BitVec.getLsbD_one,Bool.or_eq_true,JC,decide_eq_true_eq,QS,Je,Bool.not_eq_true',decide_eq_false_iff_not]
    by_cases hmh:m=h
    ·subst hmh
     constructor
     ·intro _;right;refine⟨⟨by omega,by omega⟩,by omega⟩
     ·intro _;exact .inl hm
    ·by_cases hml:m<h
     ·have hq:=hbit m hm0 hml (by omega)
      have ei:(n-m-1).toNat-(n-h).toNat=(h-m-1).toNat:=by omega
      rw[ei,hq]
      constructor
      ·rintro(h|h)
       ·left;exact⟨⟨by omega,by omega⟩,h⟩
       ·omega
      ·rintro(⟨_,h⟩|⟨⟨h1,h2⟩,h3⟩)
       ·exact .inl h
       ·omega
     ·constructor
      ·rintro(h|h)
       ·have:=hle m h;omega
       ·omega
      ·rintro(⟨⟨h1,h2⟩,_⟩|⟨⟨h1,h2⟩,h3⟩)
       ·omega
       ·omega
end
def ku:qf:=[107#8,101#8,121#8]
def yy:qf:=[110#8,101#8,120#8,116#8]
def uF:qf:=[108#8,101#8,102#8,116#8]
def kh:qf:=[114#8,105#8,103#8,104#8,116#8]
def Qp(lab:qf)(n:Nat):qf:=[QP 8 (n/256),QP 8 n,QP 8 lab.length]++lab++ [0#8,0#8,0#8,0#8]
theorem uM(lab:qf)(n:Nat):(Qp lab n).length=lab.length+7:=by simp[Qp]
def ki(s lab:qf)(n:Nat):qf:=Qw s (Qp lab n) n
theorem kO(s lab:qf)(n:Nat)(h:n≤8160):(ki s lab n).length=n:=qlY _ _ _ h
def vB(s lab:qf):qf:=ki s lab 32
theorem qjx(s lab:qf):vB s lab=ki s lab 32:=by unfold vB;exact Eq.refl _
theorem jl(s lab:qf):(vB s lab).length=32:=kO _ _ _ (by decide)
structure jm where
 no:Int
 key:qf
 nonce:qf
def ofL(link:qf)(n:Int):jm:=⟨n,(ki link ku 44).take 32,(ki link ku 44).drop 32⟩
theorem qbY(link:qf)(n:Int):(ofL link n).key.length=32:=by
 have h:=kO link ku 44 (by omega);unfold ofL;generalize ki link ku 44=X at h ⊢;simp only[QV,h];rfl
theorem qcv(link:qf)(n:Int):(ofL link n).nonce.length=12:=by
 have h:=kO link ku 44 (by omega);unfold ofL;generalize ki link ku 44=X at h ⊢;simp only[List.length_drop,h]
def Ql:jm:=⟨0,QL 32 0#8,[]⟩
def jt(link:qf):Nat→qf
 |0=>link
 |k+1=>vB (jt link k) yy
theorem vL(link:qf)(h:link.length=32)(k:Nat):(jt link k).length=32:=by
 cases k with
 |zero=>exact h
 |succ k=>exact jl _ _
def uv(link:qf)(n:Int):Nat→List jm
 |0=> []
 |k+1=>uv link n k++ [ofL (jt link k) (n+(k:Int))]
theorem qgK(link:qf)(n:Int)(k:Nat):(uv link n k).length=k:=by
 induction k with
 |zero=>rfl
 |succ k ih=>simp[uv,ih]
theorem uw(link:qf)(n:Int)(k:Nat)(o:jm):o∈uv link n k↔∃j:Nat,j<k∧o=ofL (jt link j) (n+(j:Int)):=by
 induction k with
 |zero=>simp[uv]
 |succ k ih=>
  simp only[uv,QS,Je,ih]
  constructor
  ·rintro(⟨j,h1,h2⟩|h)
   ·exact⟨j,by omega,h2⟩
   ·exact⟨k,by omega,h⟩
  ·rintro⟨j,h1,h2⟩
   rcases Jo j k with h|h
   ·exact .inl ⟨j,h,h2⟩
   ·have:j=k:=by omega
    subst this;exact .inr h2
def yM(l:List jm):Prop:=l.Pairwise fun a b=>a.no<b.no
theorem qkE(link:qf)(n:Int)(k:Nat):yM (uv link n k):=by
 induction k with
 |zero=>exact List.Pairwise.nil
 |succ k ih=>
  refine List.pairwise_append.2 ⟨ih,List.pairwise_singleton _ _,fun a ha b hb=>?_⟩;obtain⟨j,hj,rfl⟩:=(uw link n k a).1 ha;rw[Je]at hb;subst hb;show n+(j:Int)<n+(k:Int);omega
structure jo where
 link:qf
 place:Int
 held:List jm
 asked:List Int
 low:Int
def hiA(asked:List Int)(low:Int):Int:=asked.foldl (fun m x=>if m<x then x else m) (low-1)
theorem qbZ(asked:List Int)(low n:Int):hiA (asked++ [n]) low=if hiA asked low<n then n else hiA asked low:=by unfold hiA;rw[List.foldl_append];rfl
def hiM(l:jo):Int:=hiA l.asked l.low
def qQ(l:jo)(n:Int):Nat:=
 if n<0∨4294967294<n then 8 else if n<hiM l-64 then 11 else if n<l.low then 7 else if n∈l.asked then 7 else if l.place<n∧256<n-l.place then 12 else 0
def kB(l:jo)(n:Int):List jm:=l.held++uv l.link l.place (n+1-l.place).toNat
def ux(n h:Int)(o:jm):Bool:=!(o.no==n)&&decide (h-64≤o.no)
def jR(l:jo)(n:Int):jo:=
 ⟨jt l.link (n+1-l.place).toNat,if l.place≤n then n+1 else l.place,(kB l n).filter (ux n (hiA (l.asked++ [n]) l.low)),l.asked++ [n],l.low⟩
def Qt(held:List jm)(n:Int):jm:=held.foldl (fun out o=>if o.no=n then o else out) Ql
def qS(l:jo)(n:Int):jm:=if qQ l n=0 then Qt (kB l n) n else Ql
def ju(link:qf):jo:=⟨link,0,[],[],0⟩
structure LOK(l:jo):Prop where
 len:l.link.length=32
 low0:0≤l.low
 lowp:l.low≤l.place
 top:l.place≤4294967295
 hi:hiM l=l.place-1
 asked:∀a∈l.asked,0≤a∧a<l.place
 rise:yM l.held
 held:∀o∈l.held,l.low≤o.no∧o.no<l.place∧o.no∉l.asked∧l.place-65≤o.no∧o.key.length=32∧o.nonce.length=12
 all:∀n,l.low≤n→n<l.place→n∉l.asked→l.place-65≤n→∃o∈l.held,o.no=n
theorem um(link:qf)(h:link.length=32):LOK (ju link):=
 ⟨h,Int.le_refl _,Int.le_refl _,by show(0:Int)≤4294967295;decide,rfl,fun a ha=>(by cases ha),List.Pairwise.nil,fun o ho=>(by cases ho),fun n h1 h2=>by have:(0:Int)≤n:=h1;have:n<0:=h2;omega⟩
theorem ql3(a:List jm)(o:jm)(n:Int):Qt (a++ [o]) n=if o.no=n then o else Qt a n:=by unfold Qt;rw[List.foldl_append];rfl
theorem qir(held:List jm)(n:Int)(z:jm)(h:∀o∈held,o.no≠n):held.foldl (fun out o=>if o.no=n then o else out) z=z:=by
 induction held generalizing z with
 |nil=>rfl
 |cons o r ih=>
  rw[J4,if_neg (h o (by simp))];exact ih z (fun o ho=>h o (by simp[ho]))
theorem qkF(held:List jm)(z o:jm)(hr:yM held)(ho:o∈held):held.foldl (fun out x=>if x.no=o.no then x else out) z=o:=by
 induction held generalizing z with
 |nil=>cases ho
 |cons x r ih=>
  obtain⟨h1,h2⟩:=List.pairwise_cons.1 hr;rw[J4];rcases Ja.1 ho with rfl|ho
  ·rw[if_pos rfl]
   exact qir r _ _ (fun y hy=>by have:=h1 y hy;omega)
  ·exact ih _ h2 ho
theorem ql4{held:List jm}{o:jm}(hr:yM held)(ho:o∈held):Qt held o.no=o:=qkF held Ql o hr ho
theorem qgL{l:jo}(h:LOK l)(n:Int):yM (kB l n):=by
 refine List.pairwise_append.2 ⟨h.rise,qkE _ _ _,fun a ha b hb=>?_⟩;obtain⟨j,hj,rfl⟩:=(uw _ _ _ b).1 hb;have:=(h.held a ha).2.1;show a.no<l.place+(j:Int);omega
theorem qap{l:jo}{n:Int}(h:qQ l n=0):0≤n∧n≤4294967294∧hiM l-64≤n∧l.low≤n∧n∉l.asked∧(l.place<n→n-l.place≤256):=by
 unfold qQ at h;split at h;cases h;split at h;cases h;split at h;cases h;split at h;cases h;split at h;cases h;rename_i h1 h2 h3 h4 h5;refine⟨by omega,by omega,by omega,by omega,h4,fun h6=>by omega⟩
theorem qb0{l:jo}(h:LOK l){n:Int}(h0:qQ l n=0):LOK (jR l n):=by
 obtain⟨n0,n1,nh,nl,na,nf⟩:=qap h0;have hhi:=h.hi;have hs:hiA (l.asked++ [n]) l.low=if l.place≤n then n else l.place-1:=by
  rw[qbZ];unfold hiM at hhi;rw[hhi];by_cases hp:l.place≤n
  ·rw[if_pos hp,if_pos (by omega)]
  ·rw[if_neg hp,if_neg (by omega)]
 have lp:=h.lowp;have tp:=h.top;refine⟨vL _ h.len _,h.low0,?_,?_,?_,?_,?_,?_,?_⟩
 ·show l.low≤if l.place≤n then n+1 else l.place
  split<;>omega
 ·show(if l.place≤n then n+1 else l.place)≤4294967295
  split<;>omega
 ·show hiA (l.asked++ [n]) l.low=(if l.place≤n then n+1 else l.place)-1
  rw[hs];split<;>omega
 ·intro a ha
  show 0≤a∧a<if l.place≤n then n+1 else l.place
  have ha':a∈l.asked++ [n]:=ha;rcases QS.1 ha' with h1|h1
  ·have:=h.asked a h1;split<;>omega
  ·rw[Je]at h1;subst h1;split<;>omega
 ·exact(qgL h n).filter _
 ·intro o ho
  have ho':o∈ (kB l n).filter (ux n (hiA (l.asked++ [n]) l.low)):=ho;obtain⟨h1,h2⟩:=List.mem_filter.1 ho';unfold ux at h2;simp only[JC,Bool.not_eq_true',beq_eq_false_iff_ne,decide_eq_true_eq,hs]at h2;show l.low≤o.no∧o.no<(if l.place≤n then n+1 else l.place)∧o.no∉l.asked++ [n]∧(if l.place≤n then n+1 else l.place)-65≤o.no∧o.key.length=32∧o.nonce.length=12;rcases QS.1 h1 with h3|h3
  ·obtain⟨g1,g2,g3,g4,g5,g6⟩:=h.held o h3
   refine⟨g1,by split<;>omega,by rw[QS,Je];rintro(h5|h5);exact g3 h5;exact h2.1 h5,?_,g5,g6⟩;have:=h2.2;split at this<;>rename_i hp
   ·rw[if_pos hp];omega
   ·rw[if_neg hp];omega
  ·obtain⟨j,hj,rfl⟩:=(uw _ _ _ o).1 h3
   have e:(ofL (jt l.link j) (l.place+(j:Int))).no=l.place+(j:Int):=rfl;rw[e]at h2 ⊢;have hp:l.place≤n:=by omega
   rw[if_pos hp]at h2;rw[if_pos hp];refine⟨by omega,by omega,?_,by omega,qbY _ _,qcv _ _⟩;rw[QS,Je];rintro(h5|h5)
   ·have:=h.asked _ h5;omega
   ·exact h2.1 h5
 ·intro m m1 m2 m3 m4
  have m1':l.low≤m:=m1;have m2':m<(if l.place≤n then n+1 else l.place):=m2;have m3':m∉l.asked++ [n]:=m3;have m4':(if l.place≤n then n+1 else l.place)-65≤m:=m4;rw[QS,Je,not_or]at m3';show∃o∈ (kB l n).filter (ux n (hiA (l.asked++ [n]) l.low)),o.no=m;have kk:∀o:jm,o.no=m→ux n (hiA (l.asked++ [n]) l.low) o=true:=by
   intro o ho;unfold ux;rw[ho,hs];simp only[JC,Bool.not_eq_true',beq_eq_false_iff_ne,decide_eq_true_eq];refine⟨m3'.2,?_⟩;by_cases hp:l.place≤n
   ·rw[if_pos hp]at m4' ⊢;omega
   ·rw[if_neg hp]at m4' ⊢;omega
  by_cases hm:m<l.place
  ·obtain⟨o,ho,hn⟩:=h.all m m1' hm m3'.1 (by split at m4'<;>omega)
   exact⟨o,List.mem_filter.2 ⟨QS.2 (.inl ho),kk o hn⟩,hn⟩
  ·have hp:l.place≤n:=by
    apply Decidable.byContradiction;intro hp;rw[if_neg hp]at m2';omega
   rw[if_pos hp]at m2';refine⟨ofL (jt l.link (m-l.place).toNat) (l.place+((m-l.place).toNat:Int)),List.mem_filter.2 ⟨QS.2 (.inr ((uw _ _ _ _).2 ⟨(m-l.place).toNat,by omega,rfl⟩)),kk _ (by show l.place+((m-l.place).toNat:Int)=m;omega)⟩,by show l.place+((m-l.place).toNat:Int)=m;omega⟩
section
open Go.RowKit
def vq(S:ByteArray)(lab:qf):Prop:=S.data.toList.map (fun b=>QP 8 b.toNat)=lab
theorem vq.size{S:ByteArray}{lab:qf}(h:vq S lab):S.size=lab.length:=by unfold vq at h;rw[←h];simp
theorem qeD{S:ByteArray}{lab:qf}(h:vq S lab)(w:World):Rd b8 (Lib.bytesWorld w 5 S) (w.heap.size+1) (some ⟨w.heap.size,0,none⟩) lab:=by
 intro hne;refine⟨w.heap.size,0,rfl,by omega,fun j u hu=>?_⟩;have hz:=h.size;unfold vq at h;rw[←h,Jn]at hu;obtain⟨x,hx,rfl⟩:=Option.map_eq_some_iff.1 hu;have hj:j<S.size:=by have:=(JS.1 hx).1;simpa using this
 rw[JD,Lib.bytesWorld_cell w _ S j hj,QR,hx];show some (QM .u8 (x.toNat:Int))=some (b8 (QP 8 x.toNat));unfold b8 bv;rw[Q8,Nat.mod_eq_of_lt x.toNat_lt]
theorem qcw(S:ByteArray)(w:World):Below w.heap.size w (Lib.bytesWorld w 5 S):=
 ⟨rfl,rfl,rfl,by rw[Lib.bytesWorld_size];omega,fun k hk=>Lib.bytesWorld_at_old w _ S k hk⟩
theorem Qa(n:Nat):IntKind.u8.wrap (n:Int)=bv (QP 8 n):=by rw[kK];unfold bv;rw[Q8];omega
theorem ql5(w:World)(S:ByteArray)(lab:qf)(hS:vq S lab)(hl:lab.length≤255)(N cap:Nat):
 Calls prog 61 #[.slice (some ⟨w.heap.size+1+1+1,0,none⟩) 4 4]
  (((Lib.bytesWorld (w.alloc (.cells #[.int .u8 (bv (QP 8 (N/256))),.int .u8 (bv (QP 8 N)),.int .u8 (bv (QP 8 S.size))] 5)) 5 S).alloc
    (.cells #[.int .u8 0,.int .u8 0,.int .u8 0,.int .u8 0] 5)).alloc
    (.cells #[.slice (some ⟨w.heap.size,0,none⟩) 3 3,.slice (some ⟨w.heap.size+1,0,none⟩) S.size cap,.slice (some ⟨w.heap.size+1+1,0,none⟩) 4 4,.slice none 0 0] 28))
  fun e w'=>∃v,e= .returned v∧Own b8 w' w.heap.size 5 v (Qp lab N)∧Below w.heap.size w w':=by
 have hz:=hS.size;have r1:=Rd.new b8 w 5 [QP 8 (N/256),QP 8 N,QP 8 S.size];have b1:=(QK w.heap.size w).alloc (QI _) (.cells #[.int .u8 (bv (QP 8 (N/256))),.int .u8 (bv (QP 8 N)),.int .u8 (bv (QP 8 S.size))] 5);have z1:(w.alloc (.cells #[.int .u8 (bv (QP 8 (N/256))),.int .u8 (bv (QP 8 N)),.int .u8 (bv (QP 8 S.size))] 5)).heap.size=w.heap.size+1:=by simp
 change Rd b8 (w.alloc (.cells #[.int .u8 (bv (QP 8 (N/256))),.int .u8 (bv (QP 8 N)),.int .u8 (bv (QP 8 S.size))] 5)) _ _ _ at r1;generalize w.alloc (.cells #[.int .u8 (bv (QP 8 (N/256))),.int .u8 (bv (QP 8 N)),.int .u8 (bv (QP 8 S.size))] 5)=w1 at r1 b1 z1 ⊢;have r2:=qeD hS w1;have b2:=qcw S w1;have z2:=Lib.bytesWorld_size w1 5 S
 generalize Lib.bytesWorld w1 5 S=w2 at r2 b2 z2 ⊢;have r3:=Rd.new b8 w2 5 [0#8,0#8,0#8,0#8];have b3:=(QK w2.heap.size w2).alloc (QI _) (.cells #[.int .u8 0,.int .u8 0,.int .u8 0,.int .u8 0] 5);have z3:(w2.alloc (.cells #[.int .u8 0,.int .u8 0,.int .u8 0,.int .u8 0] 5)).heap.size=w2.heap.size+1:=by simp
 change Rd b8 (w2.alloc (.cells #[.int .u8 0,.int .u8 0,.int .u8 0,.int .u8 0] 5)) _ _ _ at r3;generalize w2.alloc (.cells #[.int .u8 0,.int .u8 0,.int .u8 0,.int .u8 0] 5)=w3 at r3 b3 z3 ⊢;rw[z1]at r2;rw[show w2.heap.size=w.heap.size+1+1 by omega]at r3;have q1:Rd b8 w3 (w.heap.size+1) (some ⟨w.heap.size,0,none⟩) _:=(r1.below (b2.mono (by omega))).below (b3.mono (by omega));have q2:Rd b8 w3 (w.heap.size+1+1) (some ⟨w.heap.size+1,0,none⟩) lab:=r2.below (b3.mono (by omega))
 have hp:=qbV w3 (w.heap.size+1+1+1) [((some ⟨w.heap.size,0,none⟩,3,3),[QP 8 (N/256),QP 8 N,QP 8 S.size]),((some ⟨w.heap.size+1,0,none⟩,S.size,cap),lab),((some ⟨w.heap.size+1+1,0,none⟩,4,4),[0#8,0#8,0#8,0#8]),((none,0,0),[])]
  (by
   intro u hu;simp only[Ja,JM,or_false]at hu;rcases hu with rfl|rfl|rfl|rfl
   ·exact q1.more (by omega)
   ·exact q2.more (by omega)
   ·exact r3
   ·exact Rd.nil_ _ _ _ _) (by
   intro u hu;simp only[Ja,JM,or_false]at hu;rcases hu with rfl|rfl|rfl|rfl
   ·rfl
   ·exact hz
   ·rfl
   ·rfl) (by omega)
 rw[show w3.heap.size=w.heap.size+1+1+1 by omega]at hp;refine(qam _ _ _ 0 4 4 _ hp (by simp;omega) rfl (by omega) (by simp;omega)).mono ?_;rintro e w' ⟨v,rfl,ho,hb⟩;refine⟨v,rfl,?_,?_⟩
 ·have h2:=ho.less (B':=w.heap.size) (by simp;omega)
  have e:Qp lab N=([((some ⟨w.heap.size,0,none⟩,3,3),[QP 8 (N/256),QP 8 N,QP 8 S.size]),((some ⟨w.heap.size+1,0,none⟩,S.size,cap),lab),((some ⟨w.heap.size+1+1,0,none⟩,4,4),[0#8,0#8,0#8,0#8]),((none,0,0),[])]:List Pt).flatMap fun p=>p.2:=by
   simp[Qp,hz]
  rw[e];exact h2
 ·exact(((b1.trans (b2.mono (by omega))).trans (b3.mono (by omega))).alloc (by omega) _).trans (hb.mono (by simp;omega))
theorem ql6(w:World)(S:ByteArray)(lab:qf)(hS:vq S lab)(hl:lab.length≤255)(N:Nat)(hN:N≤8160):
 Calls prog 128 #[.string S,.slice none 0 0,.int .i64 (N:Int)] w fun e w'=>∃v,e= .returned v∧Own b8 w' w.heap.size 5 v (Qp lab N)∧Below w.heap.size w w':=by
 have e0:=Qa N;have e1:IntKind.u8.wrap ((N:Int)/256)=bv (QP 8 (N/256)):=by rw[←Qa];congr 1
 have e2:=Qa S.size;have hcv:=fun w=>Lib.run_convert_string_bytes (P:=prog) w 9 28 5 S underlying9 underlying28 underlying5
 have hbs:=fun w=>Lib.bytesWorld_size w 5 S
 have hNi:(N:Int)≤8160:=by omega
 go_enter func128,ntmps128
 go_wp2_with fail
 refine(ql5 w S lab hS hl N _).mono ?_;rintro e w' ⟨v,rfl,ho,hb⟩;go_wp2_with fail
 go_ret;exact⟨v,rfl,ho,hb⟩
theorem qeZ(w:World)(sec:qf)(hsec:sec.length=32)(S:ByteArray)(lab:qf)(hS:vq S lab)(hl:lab.length≤255)(N:Nat)(hN:N≤8160):
 Calls prog 106 #[jL b8 sec,.string S,.slice none 0 0,.int .i64 (N:Int)] w fun e w'=>∃g,e= .returned (.tuple #[.slice (some ⟨g,0,none⟩) N N,.nilIface])∧
  Own b8 w' w.heap.size 5 (.slice (some ⟨g,0,none⟩) N N) (ki sec lab N)∧Below w.heap.size w w':=by
 have hz:=hS.size;have h1:¬((S.size:Int)>255):=by omega
 have h2:¬((N:Int)<0):=by omega
 have h3:¬((N:Int)>8160):=by omega
 have HS:=qe hsec;have HA0:=qe (Arr.new b8 w 23 sec);have HB0:=qe ((QK w.heap.size w).alloc (QI _) (.cells (sec.map b8).toArray 23));have hz0:(w.alloc (.cells (sec.map b8).toArray 23)).heap.size=w.heap.size+1:=by simp
 have HI:=qe (fun w':World=>ql6 w' S lab hS hl N hN);rw[qn];clear hsec hz;go_enter func106,ntmps106
 go_upto_region 3 with fail
 generalize w.alloc (.cells (sec.map b8).toArray 23)=w1 at HA0 HB0 hz0 ⊢
 go_region_law (first
  |(go_simp;go_at_call 128;refine(HI.1 _).mono ?_;rintro e w2 ⟨v2,rfl,ho2,hb2⟩;obtain⟨A2,c2,rfl,hr2,-,-,-⟩:=ho2.shape' (n:=lab.length+7) (uM _ _);have hbb2:Below w1.heap.size w1 w2:=(qV (by(repeat' (first|assumption|exact QK _ _|refine Below.drew ?_|refine Below.alloc ?_ ?_ _|omega|(simp;done)|(simp;omega)))) hb2);have HB2:=qe hbb2;have HR2:=qe hr2;have HA2:=qe (HA0.1.below hbb2 HA0.1.lt);clear ho2 hb2 hbb2 hr2)
  |(go_simp;go_at_call 127;refine(qiq w2 w2.heap.size 32 32 w2.heap.size (lab.length+7) c2 N _ _ sec (Qp lab N) ((HA2.1.rd 0).more HA2.1.lt) (QI _) HS.1.symm HR2.1 (QI _) (uM _ _).symm (by omega) (by omega) hN).mono ?_;rintro e w3 ⟨g,rfl,ho3,hb3⟩;have HO3:=qe ho3;have HB3:=qe (HB2.1.trans (hb3.mono HB2.1.size));clear ho3 hb3))
 go_wp2_with fail
 go_ret2;exact⟨g,rfl,HO3.1.less (by have:=HB2.1.size;omega),HB0.1.trans (HB3.1.mono (by omega))⟩
theorem qbA(w:World)(sec:qf)(hsec:sec.length=32)(S:ByteArray)(lab:qf)(hS:vq S lab)(hl:lab.length≤255):
 Calls prog 84 #[jL b8 sec,.string S] w fun e w'=>e= .returned (jL b8 (vB sec lab))∧Below w.heap.size w w':=by
 have HS:=qe hsec;obtain⟨D,hD⟩:∃D,D=vB sec lab:=⟨_,rfl⟩;have HDl:=qe (show D.length=32 by rw[hD];exact jl _ _);have HD:=qe hD;obtain⟨w2,hw2⟩:∃w2,w2=(w.alloc (.cells (sec.map b8).toArray 23)).alloc (.cells ((QL 32 0#8).map b8).toArray 23):=⟨_,rfl⟩;have HA2:=qe (show Arr b8 w2 w.heap.size 23 sec by rw[hw2];exact(Arr.new b8 w 23 sec).alloc _);have HZ2:=qe (show Arr b8 w2 (w.heap.size+1) 23 (QL 32 0#8) by
  rw[hw2];have h:=Arr.new b8 (w.alloc (.cells (sec.map b8).toArray 23)) 23 (QL 32 0#8);rw[QQ]at h;exact h)
 have HB2:=qe (show Below w.heap.size w w2 by rw[hw2];exact((QK _ w).alloc (QI _) _).alloc (by simp) _);have hz2:w2.heap.size=w.heap.size+2:=by rw[hw2];simp
 have HW2:=qe hw2;rw[←hD,qn,qn];clear hsec hD hw2;go_enter func84,ntmps84
 go_upto_region 1 with fail
 have hw2:=HW2.1;simp only[show((QL 32 0#8).map b8).toArray= #[QM .u8 0,QM .u8 0,QM .u8 0,QM .u8 0,QM .u8 0,QM .u8 0,QM .u8 0,QM .u8 0,QM .u8 0,QM .u8 0,QM .u8 0,QM .u8 0,QM .u8 0,QM .u8 0,QM .u8 0,QM .u8 0,QM .u8 0,QM .u8 0,QM .u8 0,QM .u8 0,QM .u8 0,QM .u8 0,QM .u8 0,QM .u8 0,QM .u8 0,QM .u8 0,QM .u8 0,QM .u8 0,QM .u8 0,QM .u8 0,QM .u8 0,QM .u8 0]from rfl]at hw2
 rw[←hw2];clear hw2;have hlb:=qeZ w2 sec HS.1 S lab hS hl 32 (by omega);have eD:ki sec lab 32=D:=by rw[←qjx];exact HD.1.symm
 rw[qn,eD,show(((32:Nat):Nat):Int)=32 from rfl]at hlb;have HL:=qe hlb;clear hlb eD;go_wp2_with (first|(refine qm rfl 23 (.tmp 2) rfl w.heap.size rfl _ sec HA2.1 _ underlying23 rfl (by rw[qR,HS.1]) ?_))
 refine HL.1.mono ?_;rintro e w3 ⟨g,rfl,ho,hb⟩;have HO3:=qe ho;have HZ3:=qe (HZ2.1.below hb (by omega));have hz3:=hb.size;have HB3:=qe (HB2.1.trans (hb.mono (by omega)));clear ho hb HZ2 HB2;have hspl:splice ((QL 32 0#8).map b8) 0 (D.map b8)=D.map b8:=by
  unfold splice;rw[QN,HDl.1];simp
 go_upto_region 3 with(refine wpList_copy_splice (o:=⟨some 15,_,_,_,_,_⟩) rfl (.tmp 13) (.tmp 14) 28 28 rfl 5 underlying28 qif (some ⟨w.heap.size+1,0,none⟩) (some ⟨g,0,none⟩) 32 32 32 32 rfl rfl (w.heap.size+1) 0 ((QL 32 0#8).map b8) 23 HZ3.1 (D.map b8) (by rw[QN,HDl.1];rfl) (fun hp=>⟨rfl,_,rfl,HO3.1.rd.cells rfl⟩) (by rw[QN,QN,List.length_replicate,HDl.1];omega) (fun v hv=>by obtain⟨x,-,rfl⟩:=QW.1 hv;exact qH x) w.heap.size w HB3.1 (by omega) ?_;intro w4 hx4 hb4;have HX4:=qe (show Arr b8 w4 (w.heap.size+1) 23 D from by have:=hx4.out;rw[hspl]at this;exact this);have HB4:=qe hb4;clear hx4 hb4)
 refine wp_region_lit ?_;refine qm rfl 23 (.tmp 4) rfl (w.heap.size+1) rfl _ D HX4.1 _ underlying23 rfl (by rw[qR,HDl.1]) ?_;refine qk rfl 23 (.tmp 4) (.tmp 16) rfl (w.heap.size+1) rfl D rfl _ _ HX4.1 rfl (by rw[qR,HDl.1]) qU ?_;intro w5 hx5 hg5;go_wp2_with fail
 refine bodyPost_ret (v:= .agg (D.map b8).toArray) (qY (g:=w.heap.size+1) rfl _ _ _ _ _ rfl hx5 underlying23 rfl (by rw[qR,HDl.1])) rfl ?_;exact⟨rfl,HB4.1.grown hg5 HB4.1.size (fun k e=>by cases e;omega)⟩
theorem qag{g:Nat}{T:TypeId}:∀(ys pre old post:List Value) (w:World),old.length=ys.length→Blk w g T (pre++(old++post))→Blk (w.setCells g pre.length ys) g T (pre++(ys++post))∧w.grownBy (w.setCells g pre.length ys) (some g)
 | [],pre,[],post,w,_,h=>⟨h,World.grownBy.refl _ _⟩
 |y::ys,pre,x::old,post,w,hl,h=>by
  have h1:=h.set_ pre.length y;have e:(pre++(x::old++post)).set pre.length y=(pre++ [y])++(old++post):=by
   rw[JR];simp
  have ih:=qag ys (pre++ [y]) old post _ (by simpa using hl) (h1.cast e);rw[QO,List.length_singleton]at ih;rw[World.setCells];exact⟨ih.1.cast (by simp),qp (qM w g pre.length y) ih.2 (fun _ e=> .inl e)⟩
theorem qi{P:Program}{ops:Array Oper}{rest:List Oper}{op:Oper}{a:Act}{w:World}{Q:Exit→Act→World→Prop}(hgd:op.guard=none)(ty:TypeId)(x y:Operand)(ho:op.op= .store ty x y)
 (g o:Nat)(hx:a.eval x= .pointer (some ⟨g,o,none⟩))(ys:List Value)(hy:a.eval y= .agg ys.toArray)(T:TypeId)(cs pre old post:List Value)(hA:Blk w g T cs)(e:cs=pre++(old++post))(hpo:pre.length=o)(hl:old.length=ys.length)
 (hi:(P.info? ty).map (·.size)=some ys.length)(h1:∀u∈ys,u.oneCell'=true)
 (h:∀w',Blk w' g T (pre++(ys++post))→w.grownBy w' (some g)→wpList P ops Q rest (a.put op.dst undef) w'):wpList P ops Q (op::rest) a w:=by
 subst e;subst hpo;obtain⟨h2,h3⟩:=qag ys pre old post w hl hA;refine wpList_store_mid hgd ty x y ho g pre.length ys.toArray hx hy ?_ ?_ ?_ ?_
 ·exact hA.arr.there (by simp[hl])
 ·rw[hi];simp
 ·exact all_oneCell_toArray h1
 ·simp only
  exact h _ h2 h3
theorem Blk.put_one{w:World}{g:Nat}{T:TypeId}{cs:List Value}(h:Blk w g T cs){pre post:List Value}{u:Value}{o:Nat}(e:cs=pre++(u::post))(ho:pre.length=o)(v:Value):Blk (w.setCell ⟨g,o,none⟩ v) g T (pre++(v::post)):=by
 subst e;subst ho;refine(h.set_ pre.length v).cast ?_;rw[JR];simp
theorem qo{P:Program}{op:Oper}{a:Act}{w:World}{K:Act→World→Prop}{Q:Exit→Act→World→Prop}(ty:TypeId)(x y:Operand)(ho:op.op= .store ty x y)
 (g o:Nat)(hx:a.eval x= .pointer (some ⟨g,o,none⟩))(ys:List Value)(hy:a.eval y= .agg ys.toArray)(T:TypeId)(cs pre old post:List Value)(hA:Blk w g T cs)(e:cs=pre++(old++post))(hpo:pre.length=o)(hl:old.length=ys.length)
 (hi:(P.info? ty).map (·.size)=some ys.length)(h1:∀u∈ys,u.oneCell'=true)
 (h:∀w',Blk w' g T (pre++(ys++post))→w.grownBy w' (some g)→K (a.put op.dst undef) w'):op.wp P a w K Q:=by
 subst e;subst hpo;obtain⟨h2,h3⟩:=qag ys pre old post w hl hA;refine wp_store_mid ty x y ho g pre.length ys.toArray hx hy ?_ ?_ ?_ ?_
 ·exact hA.arr.there (by simp[hl])
 ·rw[hi];simp
 ·exact all_oneCell_toArray h1
 ·simp only
  exact h _ h2 h3
theorem qu{P:Program}{fn:Func}{p u:Tmp}{ty:TypeId}(h:fn.results= #[.cell p ty,.tmp u])(tmps:Array Value)(w:World)(g:Nat)(T:TypeId)(cs:List Value)(d:TypeDesc)(v:Value)
 (hp:tmps.getD p undef= .pointer (some ⟨g,0,none⟩))(hv:tmps.getD u undef=v)(hA:Blk w g T cs)(hu:P.underlying ty=some d)(hd:d.isRow=true)(hi:(P.info? ty).map (·.size)=some cs.length):
 (results fn tmps).run P w= .ok (.tuple #[.agg cs.toArray,v]) w:=by
 have h1:=jW (P:=P) h tmps w g T cs d v hp hv hA.arr hu hd hi;rwa[List.map_id']at h1
theorem qcZ{P:Program}{fn:Func}{p:Tmp}{ty:TypeId}(h:fn.results= #[.cell p ty])(tmps:Array Value)(w:World)(g:Nat)(T:TypeId)(cs:List Value)(d:TypeDesc)
 (hp:tmps.getD p undef= .pointer (some ⟨g,0,none⟩))(hA:Blk w g T cs)(hu:P.underlying ty=some d)(hd:d.isRow=true)(hi:(P.info? ty).map (·.size)=some cs.length):
 (results fn tmps).run P w= .ok (.agg cs.toArray) w:=by
 have h1:=qY (P:=P) h tmps w g T cs d hp hA.arr hu hd hi;rwa[List.map_id']at h1
end
section
open Go.ChangeShapes Go.WideShapes Go.ChangeAt Go.RowKit
theorem qny{a:Int}(h:(Lit.int .u8 a).wf=true):∃x:BitVec 8,a=bv x:=
 ⟨QU 8 a,by
  have hb:=bounds_u8 h;unfold bv;rw[BitVec.toNat_ofInt];omega⟩
theorem qgM:∀(zs:List Int),(∀n∈zs,(Lit.int .u8 n).wf=true)→∃xs:qf,zs=xs.map bv
 | [],_=>⟨[],rfl⟩
 |z::zs,h=>by
  obtain⟨x,hx⟩:=qny (h z (by simp));obtain⟨xs,hxs⟩:=qgM zs (fun n hn=>h n (by simp[hn]));exact⟨x::xs,by rw[hx,hxs];rfl⟩
section
variable{H:Type}{enc:TypeId×Value→H}{P:Program}{w:World}{base:Nat}{spare:Nat→Bool}{held:Bool}
theorem qis{w:World}{a:Addr}{v:Value}(h:w.cell? a=some v):a.block<w.heap.size:=by
 rcases Jo a.block w.heap.size with hl|hl
 ·exact hl
 ·simp[World.cell?,J3 hl]at h
theorem ql7{t e:TypeId}{k:IntKind}{fuel:Nat}{x:DataW H×List MemPlace}{A:Option Addr}{n c:Nat}(ht:P.underlying t=some (.slice e))(he:P.underlying e=some (.int k))(hc:P.cellsOf e=1)
 (h:DataW.trod enc P w base spare held fuel t (JZ A n c).cells.toList=some x):
 ∃zs:List Int,Rd (QM k) w w.heap.size A zs∧(∀z∈zs,(Lit.int k z).wf=true)∧zs.length=n∧n≤c∧c≤maxLen:=by
 rcases open_ints ht he hc h with⟨hcs,_⟩|⟨a,l,cap,zs,hcs,_,hl,hm,hz,_,hcell,hwf⟩
 ·simp[Value.cells]at hcs
  obtain⟨rfl,rfl,rfl⟩:=hcs;exact⟨[],Rd.nil_ _ _ _ _,by simp,rfl,QI _,by simp[maxLen]⟩
 ·simp[Value.cells]at hcs
  obtain⟨rfl,rfl,rfl⟩:=hcs;have hzl:n≤zs.length:=by rw[hz];split<;>omega
  refine⟨zs.take n,fun hp=>?_,fun z hz=>hwf z (List.mem_of_mem_take hz),by rw[QV];omega,hl,hm⟩;rw[QV]at hp;have h0:=hcell 0 (by omega);obtain⟨b,off,spot⟩:=a;have hspot:spot=none:=by simpa[Addr.add]using World.cell?_spot h0
  subst hspot;refine⟨b,off,rfl,qis (a:=⟨b,off,none⟩) (by simpa[Addr.add]using h0),fun j u hu=>?_⟩;rw[List.getElem?_take]at hu;split at hu
  ·have hj:j<zs.length:=(JS.1 hu).1
   have:=hcell j hj;rw[Addr.add_lit]at this;rw[this,QR,hu];rfl
  ·cases hu
theorem qit{t e:TypeId}{fuel:Nat}{x:DataW H×List MemPlace}{A:Option Addr}{n c:Nat}(ht:P.underlying t=some (.slice e))(he:P.underlying e=some (.int .u8))(hc:P.cellsOf e=1)
 (h:DataW.trod enc P w base spare held fuel t (JZ A n c).cells.toList=some x):
 ∃xs:qf,Rd b8 w w.heap.size A xs∧xs.length=n∧n≤c∧c≤maxLen:=by
 obtain⟨zs,hr,hwf,hl,hle,hm⟩:=ql7 ht he hc h;obtain⟨xs,rfl⟩:=qgM zs hwf;rw[QN]at hl;refine⟨xs,fun hp=>?_,hl,hle,hm⟩;obtain⟨b,off,e1,hb,hcell⟩:=hr (by simpa using hp);exact⟨b,off,e1,hb,fun j u hu=>hcell j (bv u) (by rw[Jn,hu];rfl)⟩
end
end
section
open Go.RowKit Go.ChangeShapes Go.WideShapes Go.ChangeAt
theorem un{α:Type}{xs:List α}(h:xs.length=32):∃x0 x1 x2 x3 x4 x5 x6 x7 x8 x9 x10 x11 x12 x13 x14 x15 x16 x17 x18 x19 x20 x21 x22 x23 x24 x25 x26 x27 x28 x29 x30 x31,xs=[x0,x1,x2,x3,x4,x5,x6,x7,x8,x9,x10,x11,x12,x13,x14,x15,x16,x17,x18,x19,x20,x21,x22,x23,x24,x25,x26,x27,x28,x29,x30,x31]:=
 match xs,h with
 | [x0,x1,x2,x3,x4,x5,x6,x7,x8,x9,x10,x11,x12,x13,x14,x15,x16,x17,x18,x19,x20,x21,x22,x23,x24,x25,x26,x27,x28,x29,x30,x31],_=>⟨x0,x1,x2,x3,x4,x5,x6,x7,x8,x9,x10,x11,x12,x13,x14,x15,x16,x17,x18,x19,x20,x21,x22,x23,x24,x25,x26,x27,x28,x29,x30,x31,rfl⟩
theorem jh{P:Program}{ops:Array Oper}{rest:List Oper}{op:Oper}{a:Act}{w:World}{Q:Exit→Act→World→Prop}(hgd:op.guard=none)(t:TypeId)(parts:List (Nat×Operand))(ho:op.op= .build t parts.toArray)
 (cells:Array Value)(vals:List (Nat×Value))(hv:parts.map (fun x=>(x.1,a.eval x.2))=vals)(hb:P.built t vals=some cells)(h:wpList P ops Q rest (a.put op.dst (.agg cells)) w):wpList P ops Q (op::rest) a w:=by
 refine wpList_plain hgd fun K hK=>?_
 have hr:=run_build (P:=P) w t vals.toArray cells hb;rw[←hv,←List.map_toArray]at hr;unfold Oper.wp execOp;simp only[ho];have e:(parts.toArray.map fun(i,x)=>(i,a.eval x))=parts.toArray.map (fun x=>(x.1,a.eval x.2)):=rfl;rw[e];simp only[Sem.run_bind,Sem.run_pure,Result.andThen_ok,hr,Oper.upon_value];exact hK _ _ h
end
section
open Go.RowKit
def qy(no:Int)(key:qf)(v:Value):List Value:= .int .i64 no::(key.map b8++ [v])
theorem qw(no:Int)(key:qf)(v:Value)(h:key.length=32):(qy no key v).length=34:=by simp[qy,h]
def qx(g:Nat):Value:= .slice (some ⟨g,32,none⟩) 12 12
theorem qiu(no:Int)(key:qf)(h:key.length=32)(A:Option Addr)(n c:Nat):
 prog.built 94 [(0,.int .i64 no),(1,.agg (key.map b8).toArray),(2,.slice A n c)]=some (qy no key (.slice A n c)).toArray:=by
 obtain⟨x0,x1,x2,x3,x4,x5,x6,x7,x8,x9,x10,x11,x12,x13,x14,x15,x16,x17,x18,x19,x20,x21,x22,x23,x24,x25,x26,x27,x28,x29,x30,x31,rfl⟩:=un h
 kernel_rfl
def qg:List Value:=qy 0 (QL 32 0#8) (.slice none 0 0)
theorem q7:qg.toArray= #[QM .i64 0,QM .u8 0,QM .u8 0,QM .u8 0,QM .u8 0,QM .u8 0,QM .u8 0,QM .u8 0,QM .u8 0,QM .u8 0,QM .u8 0,QM .u8 0,QM .u8 0,QM .u8 0,QM .u8 0,QM .u8 0,QM .u8 0,QM .u8 0,QM .u8 0,QM .u8 0,QM .u8 0,QM .u8 0,QM .u8 0,QM .u8 0,QM .u8 0,QM .u8 0,QM .u8 0,QM .u8 0,QM .u8 0,QM .u8 0,QM .u8 0,QM .u8 0,QM .u8 0,JZ none 0 0]:=rfl
theorem qab:prog.built 94 []=some qg.toArray:=by kernel_rfl
theorem qA:(prog.info? 94).map (·.size)=some 34:=by kernel_rfl
theorem qjy:(prog.info? 92).map (·.size)=some 32:=by kernel_rfl
theorem qF(no:Int)(key:qf)(A:Option Addr)(n c:Nat):∀u∈qy no key (.slice A n c),u.oneCell'=true:=by
 intro u hu;unfold qy at hu;rcases Ja.1 hu with rfl|hu
 ·rfl
 rcases QS.1 hu with hu|hu
 ·obtain⟨x,-,rfl⟩:=QW.1 hu;exact qH x
 ·rw[Je]at hu;subst hu;rfl
theorem ql8:vq ⟨#[107,101,121]⟩ ku:=by unfold vq ku;decide
theorem qjz:vq ⟨#[110,101,120,116]⟩ yy:=by unfold vq yy;decide
theorem qfM:vq ⟨#[108,101,102,116]⟩ uF:=by unfold vq uF;decide
theorem qdS:vq ⟨#[114,105,103,104,116]⟩ kh:=by unfold vq kh;decide
theorem zn{P:Program}{t:TypeId}{parts:Array (Nat×Operand)}{vals:List (Nat×Value)}{cells:Array Value}{op:Oper}(ho:op.op= .build t parts)(ρ:Operand→Value)(hv:parts.toList.map (fun x=>(x.1,ρ x.2))=vals)(hb:P.built t vals=some cells)(w:World):
 (execOp ρ op).run P w= .ok (.value (.agg cells)) w:=by
 have hr:=run_build (P:=P) w t vals.toArray cells hb;rw[←hv,←List.map_toArray]at hr;unfold execOp;simp only[ho];simp only[Array.toArray_toList]at hr;simp only[Sem.run_bind,hr,Result.andThen_ok,Sem.run_pure]
theorem ql9(w:World)(link:qf)(hl:link.length=32)(n:Int):
 Calls prog 118 #[jL b8 link,.int .i64 n] w fun e w'=>∃g,e= .returned (.tuple #[.agg (qy n ((ki link ku 44).take 32) (qx g)).toArray,.nilIface])∧
  w.heap.size≤g∧Arr b8 w' g 5 (ki link ku 44)∧Below w.heap.size w w':=by
 have HS:=qe hl;obtain⟨V,hV⟩:∃V,V=ki link ku 44:=⟨_,rfl⟩;have HVl:=qe (show V.length=44 by rw[hV];exact kO _ _ _ (by omega));have HV:=qe hV;obtain⟨Kk,hKk⟩:∃Kk,Kk=V.take 32:=⟨_,rfl⟩;have HKl:=qe (show Kk.length=32 by rw[hKk,QV,HVl.1];rfl);have HKe:=qe hKk;obtain⟨w2,hw2⟩:∃w2,w2=(w.alloc (.cells (link.map b8).toArray 23)).alloc (.cells qg.toArray 94):=⟨_,rfl⟩
 have HA2:=qe (show Arr b8 w2 w.heap.size 23 link by rw[hw2];exact(Arr.new b8 w 23 link).alloc _);have HZ2:=qe (show Blk w2 (w.heap.size+1) 94 qg by rw[hw2];exact Blk.at_size _ _ (by simp));have HB2:=qe (show Below w.heap.size w w2 by rw[hw2];exact((QK _ w).alloc (QI _) _).alloc (by simp) _);have hz2:w2.heap.size=w.heap.size+2:=by rw[hw2];simp
 have HW2:=qe hw2;rw[←hV,←hKk,qn];clear hl hV hw2 hKk;go_enter func118,ntmps118
 go_upto_region 1 with fail
 have hw2:=HW2.1;simp only[q7]at hw2
 rw[←hw2];clear hw2;have hlb:=qeZ w2 link HS.1 ⟨#[107,101,121]⟩ ku ql8 (by decide) 44 (by omega);rw[qn,←HV.1,show(((44:Nat):Nat):Int)=44 from rfl]at hlb;have HL:=qe hlb;clear hlb;go_wp2_with (first|(refine qm rfl 23 (.tmp 2) rfl w.heap.size rfl _ link HA2.1 _ underlying23 rfl (by rw[qR,HS.1]) ?_))
 refine HL.1.mono ?_;rintro e w3 ⟨g,rfl,ho,hb⟩;have HO3:=qe (qfC ho);have hgl:=(ho.lt g rfl).1;have HZ3:=qe (HZ2.1.below hb (by omega));have hz3:=hb.size;have HB3:=qe (HB2.1.trans (hb.mono (by omega)));clear ho hb HZ2 HB2;have HKeep:=qe (show∀W':World,Arr b8 W' g 5 V→W'.rangeAt g 0 (Kk.map b8)from fun W' ha=>by
  have h:=ha.range 0 32;rw[HKe.1,List.map_take];simpa using h)
 have hk3:=HKeep.1 _ HO3.1.drew;have hu:=underlying92;have hi32:(prog.info? 92).map (·.size)=some (Kk.map b8).length:=by rw[QN,HKl.1];exact qjy
 have hsa:∀W:World,(Instr.arrayAt 92 (.slice (some ⟨g,0,none⟩) 32 44)).run prog W= .ok (.pointer (some ⟨g,0,none⟩)) W:=fun W=>by kernel_rfl
 go_upto_region 4 with fail
 refine wp_region_noPanic ?_;refine wp_region_held_drew (S:=fun w'=>w'.rangeAt g 0 (Kk.map b8)) (by kernel_rfl) hk3 (fun hS=>?_);refine tkA 0 (.int .i64 n) hS ?_;refine tkA 1 (.slice (some ⟨g,0,none⟩) 44 44) hS ?_;refine tkA 2 (.slice (some ⟨g,0,none⟩) 32 44) hS ?_;try simp only[Act.put,qj,qz,qv]
 refine tkA 3 (.pointer (some ⟨g,0,none⟩)) hS ?_;refine tkK 4 (.agg (Kk.map b8).toArray) rfl rfl (yieldsIf_load_mid (by rfl) 92 (.tmp 20) rfl g 0 rfl (Kk.map b8) _ (fun _ h=>h) hu rfl hi32) hS ?_;refine tkA 5 (.slice (some ⟨g,0,none⟩) 44 44) hS ?_;try simp only[Act.put,qj,qz,qv]
 refine tkA 6 (.slice (some ⟨g,32,none⟩) 12 12) hS ?_;refine tkK 7 (.agg (qy n Kk (qx g)).toArray) rfl rfl (QZ ⟨by rfl,fun w' _=>zn rfl _ rfl (qiu n Kk HKl.1 _ _ _) w'⟩) hS ?_;try simp only[Act.put,qj,qz,qv]
 refine rdH 8 (fun K' hK=>?_);rw[if_pos (by rfl)];refine qo 94 (.tmp 4) (.tmp 24) rfl (w.heap.size+1) 0 rfl (qy n Kk (qx g)) rfl _ _ [] qg [] HZ3.1.drew (by simp) rfl (by rw[qw _ _ _ HKl.1];rfl) (by rw[qA,qw _ _ _ HKl.1]) (qF _ _ _ _ _) ?_;intro w4 hx4 hg4;have HX4:=qe (show Blk w4 (w.heap.size+1) 94 (qy n Kk (qx g))from hx4.cast (by simp))
 have HG4:=qe hg4;have HO4:=qe (HO3.1.drew.grown hg4 (fun e=>by injection e with e;omega));clear hx4 hg4;refine hK.out _ _ (HKeep.1 _ HO4.1) (fun hS=>?_);clear hK K';try simp only[Act.put,qj,qz,qv]
 refine rdH 9 (fun K' hK=>?_);go_simp;refine hK.out _ _ (HKeep.1 _ HO4.1) (fun hS=>?_);clear hK K';try simp only[Act.put,qj,qz,qv]
 refine wpAnyH_done (by kernel_rfl) ?_ _;refine NoPanic.normal ?_;go_wp2_with fail
 refine bodyPost_ret (v:= .tuple #[.agg (qy n Kk (qx g)).toArray,.nilIface]) (qu (g:=w.heap.size+1) rfl _ _ _ _ _ _ rfl rfl HX4.1 underlying94 rfl (by rw[qA,qw _ _ _ HKl.1])) rfl ?_;exact⟨g,rfl,by omega,HO4.1,HB3.1.drew.grown HG4.1 (by have:=HB3.1.size;exact this) (fun k e=>by cases e;omega)⟩
end
end Go.Proofs.YtelgjaiknaalkaaGreatDoor
