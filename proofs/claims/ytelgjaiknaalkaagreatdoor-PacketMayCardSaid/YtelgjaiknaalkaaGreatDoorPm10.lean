/- Lemmas, joined and made smaller by a program. -/
import Derived.Test.YtelgjaiknaalkaaGreatDoorPm07
import Derived.Test.YtelgjaiknaalkaaGreatDoorPm09
open Go.Lib renaming hid → qq
set_option linter.unusedVariables false
set_option linter.unusedSimpArgs false
namespace Go.Proofs.YtelgjaiknaalkaaGreatDoor
open Go.RowKit
theorem own_empty(w:World):Own b8 (w.alloc (.cells #[] 5)) w.heap.size 5 (.slice (some ⟨w.heap.size,0,none⟩) 0 0) []:=
 ⟨by simp,.inr ⟨w.heap.size,0,#[],rfl,Nat.le_refl _,heap_alloc_new w _,by simp,by simp[maxLen],by simp,by simp⟩⟩
theorem kfill_to(kk:List (BitVec 8))(j:Nat)(h:kk.length≤64)(hj:kk.length+j=64):kk++List.replicate j 0#8=kfill kk:=by
 unfold kfill;rw[show 64-kk.length=j by omega]
def xorL(l:List (BitVec 8))(x:BitVec 8)(k:Nat):List (BitVec 8):=(l.take k).map (· ^^^x)
theorem xorL_len(l:List (BitVec 8))(x:BitVec 8)(k:Nat)(hk:k≤l.length):(xorL l x k).length=k:=by unfold xorL;rw[List.length_map,List.length_take];omega
theorem xorL_succ(l:List (BitVec 8))(x:BitVec 8)(k:Nat)(hk:k<l.length):xorL l x (k+1)=xorL l x k++ [l.getD k 0#8^^^x]:=by
 unfold xorL;rw[List.take_succ_eq_append_getElem hk,List.map_append];simp[List.getD,List.getElem?_eq_getElem hk]
theorem Grew.apart{α:Type}{f:α→Value}{w w':World}{v v' u:Value}{B E:Nat}{ys:List α}(hg:Grew w w' v v')(hne:∀b,v.ownBlock=some b→u.ownBlock≠some b)(hu:Own f w B E u ys):∀b,v'.ownBlock=some b→u.ownBlock≠some b:=by
 intro b e1 e2
 rcases hg.at_ with e|e
 ·rw[e]at e1;exact hne b e1 e2
 ·rw[e]at e1;injection e1 with e1;have:=(hu.lt b e2).2;omega
set_option maxRecDepth 100000 in
set_option maxHeartbeats 2000000 in
theorem refTag_small(w:World)(B c n Bt d m:Nat)(A C:Option Addr)(key xs:List (BitVec 8))(hk:Rd b8 w B A key)(hB:B≤w.heap.size)(hn:n=key.length)(hsm:n≤64)(hx:Rd b8 w Bt C xs)(hBt:Bt≤w.heap.size)(hm:m=xs.length)(hbig:m≤40000000):
 Calls Tryz.prog 129 #[.slice A n c,.slice C m d] w fun e w'=>e= .returned (arrV b8 (tagV key xs))∧Below w.heap.size w w':=by
 obtain⟨i0,hi0,hz0,hz1,hz2⟩:=info_parts infoU8
 have HK:=qq hk
 have HN:=qq hn
 have HX:=qq hx
 have HM:=qq hm
 have HKl:=qq (show key.length≤64 by omega)
 have HKb:=qq (show keyB key=key from if_neg (by omega))
 have HA0:=qq ((Arr.new b8 w 23 (List.replicate 32 0#8)).alloc (.cells #[] 5))
 have HE:=qq (show Own b8 ((w.alloc (.cells ((List.replicate 32 0#8).map b8).toArray 23)).alloc (.cells #[] 5)) w.heap.size 5 (.slice (some ⟨w.heap.size+1,0,none⟩) 0 0) []from by
  have h:=(own_empty (w.alloc (.cells ((List.replicate 32 0#8).map b8).toArray 23))).less (B':=w.heap.size) (by simp)
  rw[World.size_alloc]at h;exact h)
 clear hk hn hx hm
 go_enter Tryz.func129,Tryz.ntmps129
 go_wp2_with (at_builtin;(refine wpList_append_rd rfl (.tmp 11) (.tmp 12) 28 rfl b8_one w.heap.size 5 i0 _ 1 Tryz.underlying28 hi0 hz0 hz1 hz2 rfl _ _ rfl HE.out B A n c key rfl HN.out ((HK.out.alloc hB _).alloc (by simp;omega) _) (by have:=HN.out;simp[maxLen];omega) (by have:=HN.out;simp;omega) (by simp;omega) ?_;intro v1 w1 hown1 hg1 hbb1;obtain⟨A1,c1,rfl,-,-,-,-⟩:=hown1.shape' (n:=n) (by simp[HN.out]);have HO2:=qq (hown1.cast (List.nil_append _));have HB2:=qq (hbb1 _ _ (Nat.le_refl _) (((Below.refl _ w).alloc (Nat.le_refl _) _).alloc (by simp) _));have HA2:=qq (HA0.out.grown hg1.by_ (arr_not_own HA0.out (by decide) HE.out));clear hown1 hg1 hbb1))
 go_loopw [5] (fun v wr=>∃j:Nat,(key).length+j≤64∧Own b8 wr w.heap.size 5 v ((key)++List.replicate j 0#8)∧Below w.heap.size w wr∧Arr b8 wr w.heap.size 23 (List.replicate 32 0#8)) (fun v _=>64-(lenIn v).toNat)
 case atStart=>exact⟨0,by have:=HKl.out;omega,HO2.out.cast (by simp),HB2.out,HA2.out⟩
 case round=>
  clear HO2 HB2 HA2
  obtain⟨j,hj,ho,hb,ha⟩:=hrel
  obtain⟨L,hL⟩:∃L,L=(key).length+j:=⟨_,rfl⟩
  have hlen:((key)++List.replicate j 0#8).length=L:=by simp;omega
  obtain⟨Av,cv,rfl,-,-,-,-⟩:=ho.shape' hlen
  have HO:=qq ho
  have HB:=qq hb
  have HA:=qq ha
  have HLn:=qq hlen
  have hz:=hb.size
  have HL:=qq hL
  have hLb:L≤64:=by omega
  clear ho hb ha hlen hL
  by_cases hlt:L<64
  ·go_wp2_with (at_builtin;refine wpList_append_rd rfl (.tmp 25) (.tmp 26) 28 rfl b8_one w.heap.size 5 i0 _ 1 Tryz.underlying28 hi0 hz0 hz1 hz2 rfl _ _ rfl (HO.out.alloc _) (wr.heap.size+1) _ 1 1 [0#8] rfl rfl (Rd.new b8 wr 5 [0#8]) (by rw[HLn.out];simp[maxLen];omega) (by rw[HLn.out];simp;omega) (by simp;omega) ?_;intro v7 w7 hown7 hg7 hbb7)
   obtain⟨A7,c7,rfl,-,-,-,-⟩:=hown7.shape' (n:=L+1) (by rw[List.length_append,HLn.out];rfl)
   have ha7:=(HA.out.alloc (.cells #[.int .u8 0] 5)).grown hg7.by_ (arr_not_own (HA.out.alloc (.cells #[.int .u8 0] 5)) (by decide) (HO.out.alloc (.cells #[.int .u8 0] 5)))
   go_roundw
   case rel=>exact⟨j+1,by have:=HL.out;omega,by rw[List.replicate_succ',←List.append_assoc];exact hown7,hbb7 _ _ (Nat.le_refl _) (HB.out.alloc hz _),ha7⟩
   case measure=>simp[lenIn];omega
  ·obtain rfl:L=64:=by omega
   have hkf:=kfill_to (key) j HKl.out HL.out.symm
   obtain⟨F,hF⟩:∃F,F=kfill (key):=⟨_,rfl⟩
   have hFl:F.length=64:=by rw[hF];exact kfill_len _ HKl.out
   have HF:=qq (show Own b8 wr w.heap.size 5 (.slice Av 64 cv) F by rw[hF,←hkf];exact HO.out)
   have HFl:=qq hFl
   have HFe:=qq (show F=kfill (keyB key) by rw[hF,HKb.out])
   obtain⟨gf,cf,ef,hgf1,hgf2,-⟩:=HF.out.form' hFl (by omega)
   injection ef with ef1 ef2 ef3
   subst ef1
   clear HO HLn hkf hF hFl HL
   obtain⟨wo,rfl⟩:∃wo:World,wo=wr:=⟨_,rfl⟩
   go_wp2_with fail
   go_loopw [7,8,9] (fun va vb iv wr=>∃k:Nat,k≤64∧iv= .int .i64 (k:Int)∧Own b8 wr wo.heap.size 5 va (xorL F 54#8 k)∧Own b8 wr wo.heap.size 5 vb (xorL F 92#8 k)∧(∀b,va.ownBlock=some b→vb.ownBlock≠some b)∧Below wo.heap.size wo wr) (fun _ _ iv _=>64-(intOf iv).toNat)
   case atStart=>exact⟨0,by omega,rfl,Own.nil_ _ _ _ _,Own.nil_ _ _ _ _,fun b e=>by simp[Value.ownBlock]at e,Below.refl _ _⟩
   case round=>
    obtain⟨k,hk,rfl,ha,hb2,hne,hbw⟩:=hrel
    have hz2':=hbw.size
    obtain⟨Aa,ca,rfl,-,-,-,-⟩:=ha.shape' (xorL_len F 54#8 k (by rw[HFl.out];exact hk))
    obtain⟨Ab,cb,rfl,-,-,-,-⟩:=hb2.shape' (xorL_len F 92#8 k (by rw[HFl.out];exact hk))
    have HXa:=qq ha
    have HXb:=qq hb2
    have HNe:=qq hne
    have HBw:=qq hbw
    clear ha hb2 hne hbw
    by_cases hlt2:k<64
    ·have cf0:wr.cell? ⟨gf,k,none⟩=some (b8 (F.getD k 0#8)):=by
      have h2:k<F.length:=by rw[HFl.out];exact hlt2
      rw[((HF.out.below HBw.out (Nat.le_refl _)).at_ h2).1,List.getD,List.getElem?_eq_getElem h2];rfl
     have sa:=xorL_succ F 54#8 k (by rw[HFl.out];exact hlt2)
     have sb:=xorL_succ F 92#8 k (by rw[HFl.out];exact hlt2)
     have la:=xorL_len F 54#8 k (by rw[HFl.out];omega)
     have lb:=xorL_len F 92#8 k (by rw[HFl.out];omega)
     have Qf:=qq (show∀W',Below wo.heap.size wo W'→W'.cell? ⟨gf,k,none⟩=some (b8 (F.getD k 0#8))from fun W' hb'=>by
      have h2:k<F.length:=by rw[HFl.out];exact hlt2
      rw[((HF.out.below hb' (Nat.le_refl _)).at_ h2).1,List.getD,List.getElem?_eq_getElem h2];rfl)
     generalize F.getD k 0#8=x at cf0 sa sb Qf
     simp only[b8]at cf0
     have lk:(k:Int)<64:=by omega
     have Sa:=qq sa
     have Sb:=qq sb
     have La:=qq la
     have Lb:=qq lb
     clear sa sb la lb
     go_wp2_with (first
      |(at_builtin;(refine wpList_append_rd rfl (.tmp 32) (.tmp 38) 28 rfl b8_one wo.heap.size 5 i0 _ 1 Tryz.underlying28 hi0 hz0 hz1 hz2 rfl _ _ rfl (HXa.out.alloc _) (wr.heap.size+1) _ 1 1 [x^^^54#8] rfl rfl (Rd.new b8 wr 5 [x^^^54#8]) (by rw[La.out];simp[maxLen];omega) (by rw[La.out];simp;omega) (by simp;omega) ?_;intro v7 w7 hown7 hg7 hbb7;have HV7:=qq (hown7.cast Sa.out.symm);have HG7:=qq hg7;have HB7:=qq (hbb7 _ _ (Nat.le_refl _) (HBw.out.alloc hz2' _));have HXb7:=qq ((HXb.out.alloc (.cells #[b8 (x^^^54#8)] 5)).kept' hg7.by_ (fun b e hv=>HNe.out b e hv));have hs7:=hg7.size;have cf7:=Qf.out w7 HB7.out;simp only[b8]at cf7;have HNe7:=qq (hg7.apart HNe.out (HXb.out.alloc (.cells #[b8 (x^^^54#8)] 5)));clear hown7 hg7 hbb7))
      |(at_builtin;(refine wpList_append_rd rfl (.tmp 40) (.tmp 46) 28 rfl b8_one wo.heap.size 5 i0 _ 1 Tryz.underlying28 hi0 hz0 hz1 hz2 rfl _ _ rfl (HXb7.out.alloc _) (w7.heap.size+1) _ 1 1 [x^^^92#8] rfl rfl (Rd.new b8 w7 5 [x^^^92#8]) (by rw[Lb.out];simp[maxLen];omega) (by rw[Lb.out];simp;omega) (by simp at hs7;simp;omega) ?_;intro v8 w8 hown8 hg8 hbb8)))
     have HA8:=qq ((HV7.out.alloc (.cells #[b8 (x^^^92#8)] 5)).kept' hg8.by_ (fun b e hv=>HNe7.out b hv e))
     have hap:=hg8.apart (fun b e1 e2=>HNe7.out b e2 e1) (HV7.out.alloc (.cells #[b8 (x^^^92#8)] 5))
     have HB8:=qq (hbb8 _ _ (Nat.le_refl _) (HB7.out.alloc HB7.out.size _))
     have HAp:=qq hap
     have HO8:=qq (hown8.cast Sb.out.symm)
     clear hap hown8 hg8 hbb8
     go_roundw
     case rel=>exact⟨k+1,by omega,by go_num,HA8.out,HO8.out,fun b e1 e2=>HAp.out b e2 e1,HB8.out⟩
     case measure=>simp[intOf];omega
    ·obtain rfl:k=64:=by omega
     have hpa:xorL F 54#8 64=kpad key 54#8:=by unfold xorL kpad;rw[←HFl.out,List.take_length,HFe.out]
     have hpb:xorL F 92#8 64=kpad key 92#8:=by unfold xorL kpad;rw[←HFl.out,List.take_length,HFe.out]
     have HPa:=qq (HXa.out.cast hpa)
     have HPb:=qq (HXb.out.cast hpb)
     have hgA:=HA.out.lt
     have HBt:=qq (HB.out.trans (HBw.out.mono HB.out.size))
     have HAt:=qq (HA.out.below HBw.out hgA)
     have HXt:=qq ((HX.out.more hBt).below HBt.out)
     obtain⟨S,hS⟩:∃S,S=sum32 (kpad key 54#8++xs):=⟨_,rfl⟩
     obtain⟨Z,hZ⟩:∃Z,Z=tagV key xs:=⟨_,rfl⟩
     obtain⟨N,hN⟩:∃N,N=64+m:=⟨_,rfl⟩
     have HN2:=qq hN
     have hNb:N≤40000064:=by omega
     have HSe:=qq hS
     have HZe:=qq hZ
     have HSl:=qq (show S.length=32 by rw[hS];exact sum32_len _)
     have HZl:=qq (show Z.length=32 by rw[hZ];exact sum32_len _)
     clear HXa HXb HA HBw HB hpa hpb hS hZ hN HF HFl HFe hlt2 hk
     go_wp2_with (at_builtin;(refine wpList_append_rd rfl (.tmp 48) (.tmp 49) 28 rfl b8_one wo.heap.size 5 i0 _ 1 Tryz.underlying28 hi0 hz0 hz1 hz2 rfl _ _ rfl HPa.out w.heap.size C m d xs rfl HM.out HXt.out (by have:=HM.out;rw[kpad_len];unfold maxLen;omega) (by have:=HM.out;rw[kpad_len];omega) (by omega) ?_;intro v3 w3 hown3 hg3 hbb3;obtain⟨A3,c3,rfl,-,-,-,-⟩:=hown3.shape' (n:=N) (by rw[List.length_append,kpad_len,←HM.out];exact HN2.out.symm);have HO3:=qq hown3;have HB3:=qq (hbb3 _ _ (by omega) HBt.out);have HPb3:=qq (HPb.out.kept' hg3.by_ (fun b e hv=>HNe.out b e hv));have HA3:=qq (HAt.out.grown hg3.by_ (arr_not_own HAt.out (by decide) HPa.out));have hz3:wr.heap.size≤w3.heap.size:=hg3.size;clear hown3 hg3 hbb3))
     have hs:=refShort_any w3 w3.heap.size c3 N A3 _ HO3.out.rd (Nat.le_refl _) (by rw[List.length_append,kpad_len,←HM.out];exact HN2.out) (by omega)
     rw[arrV_mk,←HSe.out]at hs
     have HSh:=qq hs
     clear hs
     refine HSh.out.mono ?_
     rintro e w4 ⟨rfl,hb4⟩
     have hz4:=hb4.size
     have HB4:=qq (HB3.out.trans (hb4.mono HB3.out.size))
     have HPb4:=qq (HPb3.out.below hb4 (by omega))
     have HA4:=qq (HA3.out.below hb4 (by omega))
     have HT4:=qq (Arr.new b8 w4 23 (List.replicate 32 0#8))
     clear hb4 HSh HB3 HPb3 HA3
     go_wp2_with (first
      |(refine wpList_store_arr rfl 23 (.tmp 10) (.tmp 51) rfl w4.heap.size rfl S rfl _ _ HT4.out (by rw[HSl.out];rfl) (by rw[size32,HSl.out]) b8_one' ?_;intro w5 hx5 hg5;have hz5:w4.heap.size<w5.heap.size:=hx5.lt;have HS5:=qq hx5;have HPb5:=qq ((HPb4.out.alloc (.cells ((List.replicate 32 0#8).map b8).toArray 23)).kept' hg5 (fun b e hv=>by cases e;exact absurd (HPb4.out.lt _ hv).2 (Nat.lt_irrefl _)));have HA5:=qq ((HA4.out.alloc (.cells ((List.replicate 32 0#8).map b8).toArray 23)).grown hg5 (by have:=HA4.out.lt;simp;omega));have HB5:=qq ((HB4.out.alloc HB4.out.size (.cells ((List.replicate 32 0#8).map b8).toArray 23)).grown hg5 (by simp;omega) (fun k e=>by cases e;omega));clear hx5 hg5)
      |(at_builtin;(refine wpList_append_rd rfl (.tmp 52) (.tmp 53) 28 rfl b8_one wo.heap.size 5 i0 _ 1 Tryz.underlying28 hi0 hz0 hz1 hz2 rfl _ _ rfl HPb5.out (w4.heap.size+1) (some ⟨w4.heap.size,0,none⟩) 32 32 S rfl HSl.out.symm (HS5.out.rd 0) (by have:=HSl.out;rw[kpad_len];unfold maxLen;omega) (by have:=HSl.out;rw[kpad_len];omega) (by omega) ?_;intro v6 w6 hown6 hg6 hbb6;obtain⟨A6,c6,rfl,-,-,-,-⟩:=hown6.shape' (n:=96) (by rw[List.length_append,kpad_len,HSl.out]);have HO6:=qq hown6;have HB6:=qq (hbb6 _ _ (by omega) HB5.out);have HA6:=qq (HA5.out.grown hg6.by_ (arr_not_own HA5.out (by decide) HPb5.out));have hz6:w5.heap.size≤w6.heap.size:=hg6.size;clear hown6 hg6 hbb6)))
     have hs:=refShort_any w6 w6.heap.size c6 96 A6 _ HO6.out.rd (Nat.le_refl _) (by rw[List.length_append,kpad_len,HSl.out]) (by omega)
     rw[arrV_mk,HSe.out,show sum32 (kpad key 92#8++sum32 (kpad key 54#8++xs))=tagV key xs from rfl,←HZe.out]at hs
     have HSh:=qq hs
     clear hs
     refine HSh.out.mono ?_
     rintro e w7 ⟨rfl,hb7⟩
     have hz7:=hb7.size
     have HB7:=qq (HB6.out.trans (hb7.mono HB6.out.size))
     have HA7:=qq (HA6.out.below hb7 (by omega))
     clear hb7 HSh HB6 HA6
     go_wp2_with (refine wpList_store_arr rfl 23 (.tmp 4) (.tmp 55) rfl w.heap.size rfl Z rfl _ _ HA7.out (by rw[HZl.out];rfl) (by rw[size32,HZl.out]) b8_one' ?_;intro w9 hx9 hg9)
     refine bodyPost_ret (v:= .agg (Z.map b8).toArray) (results_arr (g:=w.heap.size) rfl _ _ _ _ _ rfl hx9 Tryz.underlying23 rfl (by rw[size32,HZl.out])) rfl ?_
     exact⟨by rw[arrV_mk,HZe.out],HB7.out.grown hg9 HB7.out.size (fun k e=>by cases e;exact Nat.le_refl _)⟩
set_option maxRecDepth 100000 in
set_option maxHeartbeats 2000000 in
theorem refTag_big(w:World)(B c n Bt d m:Nat)(A C:Option Addr)(key xs:List (BitVec 8))(hk:Rd b8 w B A key)(hB:B≤w.heap.size)(hn:n=key.length)(hsm:¬n≤64)(hnb:n≤40000000)(hx:Rd b8 w Bt C xs)(hBt:Bt≤w.heap.size)(hm:m=xs.length)(hbig:m≤40000000):
 Calls Tryz.prog 129 #[.slice A n c,.slice C m d] w fun e w'=>e= .returned (arrV b8 (tagV key xs))∧Below w.heap.size w w':=by
 obtain⟨i0,hi0,hz0,hz1,hz2⟩:=info_parts infoU8
 obtain⟨D,hD⟩:∃D,D=sum32 key:=⟨_,rfl⟩
 have HDe:=qq hD
 have HDl:=qq (show D.length=32 by rw[hD];exact sum32_len _)
 have HK:=qq hk
 have HN:=qq hn
 have HX:=qq hx
 have HM:=qq hm
 have HKl:=qq (show D.length≤64 by rw[HDl.out];omega)
 have HKb:=qq (show keyB key=D by rw[hD];exact if_pos (by omega))
 have HA0:=qq ((Arr.new b8 w 23 (List.replicate 32 0#8)).alloc (.cells #[] 5))
 have HE:=qq (show Own b8 ((w.alloc (.cells ((List.replicate 32 0#8).map b8).toArray 23)).alloc (.cells #[] 5)) w.heap.size 5 (.slice (some ⟨w.heap.size+1,0,none⟩) 0 0) []from by
  have h:=(own_empty (w.alloc (.cells ((List.replicate 32 0#8).map b8).toArray 23))).less (B':=w.heap.size) (by simp)
  rw[World.size_alloc]at h;exact h)
 clear hk hn hx hm hD
 go_enter Tryz.func129,Tryz.ntmps129
 go_wp2_with (at_builtin;(refine wpList_append_rd rfl (.tmp 11) (.tmp 12) 28 rfl b8_one w.heap.size 5 i0 _ 1 Tryz.underlying28 hi0 hz0 hz1 hz2 rfl _ _ rfl HE.out B A n c key rfl HN.out ((HK.out.alloc hB _).alloc (by simp;omega) _) (by have:=HN.out;simp[maxLen];omega) (by have:=HN.out;simp;omega) (by simp;omega) ?_;intro v1 w1 hown1 hg1 hbb1;obtain⟨A1,c1,rfl,-,-,-,-⟩:=hown1.shape' (n:=n) (by simp[HN.out]);have HO1:=qq (hown1.cast (List.nil_append _));have HB1:=qq (hbb1 _ _ (Nat.le_refl _) (((Below.refl _ w).alloc (Nat.le_refl _) _).alloc (by simp) _));have HA1:=qq (HA0.out.grown hg1.by_ (arr_not_own HA0.out (by decide) HE.out));clear hown1 hg1 hbb1))
 have hs:=refShort_any w1 w1.heap.size c1 n A1 _ HO1.out.rd (Nat.le_refl _) HN.out (by omega)
 rw[arrV_mk,←HDe.out]at hs
 have HSh:=qq hs
 clear hs
 refine HSh.out.mono ?_
 rintro e w2 ⟨rfl,hb2⟩
 have hz2w:=hb2.size
 have HBx:=qq (HB1.out.trans (hb2.mono HB1.out.size))
 have HAx:=qq (HA1.out.below hb2 HA1.out.lt)
 have hzx:=HBx.out.size
 have HT2:=qq (Arr.new b8 w2 23 (List.replicate 32 0#8))
 clear hb2 HSh HB1 HA1
 go_wp2_with (first
  |(refine wpList_store_arr rfl 23 (.tmp 6) (.tmp 18) rfl w2.heap.size rfl D rfl _ _ HT2.out (by rw[HDl.out];rfl) (by rw[size32,HDl.out]) b8_one' ?_;intro w5 hx5 hg5;have hz5:w2.heap.size<w5.heap.size:=hx5.lt;have HD5:=qq (hx5.alloc (.cells #[] 5));have HA5:=qq (((HAx.out.alloc (.cells ((List.replicate 32 0#8).map b8).toArray 23)).grown hg5 (by have:=HAx.out.lt;simp;omega)).alloc (.cells #[] 5));have hb5:=(HBx.out.alloc HBx.out.size (.cells ((List.replicate 32 0#8).map b8).toArray 23)).grown hg5 (by simp;omega) (fun k e=>by cases e;omega);have HB5:=qq (hb5.alloc hb5.size (.cells #[] 5));have HE5:=qq ((own_empty w5).less (B':=w.heap.size) (by omega));clear hx5 hg5 hb5)
  |(at_builtin;(refine wpList_append_rd rfl (.tmp 19) (.tmp 20) 28 rfl b8_one w.heap.size 5 i0 _ 1 Tryz.underlying28 hi0 hz0 hz1 hz2 rfl _ _ rfl HE5.out (w2.heap.size+1) (some ⟨w2.heap.size,0,none⟩) 32 32 D rfl HDl.out.symm (HD5.out.rd 0) (by have:=HDl.out;simp[maxLen];omega) (by have:=HDl.out;simp;omega) (by simp;omega) ?_;intro v6 w6 hown6 hg6 hbb6;obtain⟨A6,c6,rfl,-,-,-,-⟩:=hown6.shape' (n:=32) (by simp[HDl.out]);have HO2:=qq (hown6.cast (List.nil_append _));have HB2:=qq (hbb6 _ _ (Nat.le_refl _) HB5.out);have HA2:=qq (HA5.out.grown hg6.by_ (arr_not_own HA5.out (by decide) HE5.out));clear hown6 hg6 hbb6)))
 clear HA5 HB5 HE5 HD5 HBx HAx HT2 HDl
 go_loopw [5] (fun v wr=>∃j:Nat,(D).length+j≤64∧Own b8 wr w.heap.size 5 v ((D)++List.replicate j 0#8)∧Below w.heap.size w wr∧Arr b8 wr w.heap.size 23 (List.replicate 32 0#8)) (fun v _=>64-(lenIn v).toNat)
 case atStart=>exact⟨0,by have:=HKl.out;omega,HO2.out.cast (by simp),HB2.out,HA2.out⟩
 case round=>
  clear HO2 HB2 HA2
  obtain⟨j,hj,ho,hb,ha⟩:=hrel
  obtain⟨L,hL⟩:∃L,L=(D).length+j:=⟨_,rfl⟩
  have hlen:((D)++List.replicate j 0#8).length=L:=by simp;omega
  obtain⟨Av,cv,rfl,-,-,-,-⟩:=ho.shape' hlen
  have HO:=qq ho
  have HB:=qq hb
  have HA:=qq ha
  have HLn:=qq hlen
  have hz:=hb.size
  have HL:=qq hL
  have hLb:L≤64:=by omega
  clear ho hb ha hlen hL
  by_cases hlt:L<64
  ·go_wp2_with (at_builtin;refine wpList_append_rd rfl (.tmp 25) (.tmp 26) 28 rfl b8_one w.heap.size 5 i0 _ 1 Tryz.underlying28 hi0 hz0 hz1 hz2 rfl _ _ rfl (HO.out.alloc _) (wr.heap.size+1) _ 1 1 [0#8] rfl rfl (Rd.new b8 wr 5 [0#8]) (by rw[HLn.out];simp[maxLen];omega) (by rw[HLn.out];simp;omega) (by simp;omega) ?_;intro v7 w7 hown7 hg7 hbb7)
   obtain⟨A7,c7,rfl,-,-,-,-⟩:=hown7.shape' (n:=L+1) (by rw[List.length_append,HLn.out];rfl)
   have ha7:=(HA.out.alloc (.cells #[.int .u8 0] 5)).grown hg7.by_ (arr_not_own (HA.out.alloc (.cells #[.int .u8 0] 5)) (by decide) (HO.out.alloc (.cells #[.int .u8 0] 5)))
   go_roundw
   case rel=>exact⟨j+1,by have:=HL.out;omega,by rw[List.replicate_succ',←List.append_assoc];exact hown7,hbb7 _ _ (Nat.le_refl _) (HB.out.alloc hz _),ha7⟩
   case measure=>simp[lenIn];omega
  ·obtain rfl:L=64:=by omega
   have hkf:=kfill_to (D) j HKl.out HL.out.symm
   obtain⟨F,hF⟩:∃F,F=kfill (D):=⟨_,rfl⟩
   have hFl:F.length=64:=by rw[hF];exact kfill_len _ HKl.out
   have HF:=qq (show Own b8 wr w.heap.size 5 (.slice Av 64 cv) F by rw[hF,←hkf];exact HO.out)
   have HFl:=qq hFl
   have HFe:=qq (show F=kfill (keyB key) by rw[hF,HKb.out])
   obtain⟨gf,cf,ef,hgf1,hgf2,-⟩:=HF.out.form' hFl (by omega)
   injection ef with ef1 ef2 ef3
   subst ef1
   clear HO HLn hkf hF hFl HL
   obtain⟨wo,rfl⟩:∃wo:World,wo=wr:=⟨_,rfl⟩
   go_wp2_with fail
   go_loopw [7,8,9] (fun va vb iv wr=>∃k:Nat,k≤64∧iv= .int .i64 (k:Int)∧Own b8 wr wo.heap.size 5 va (xorL F 54#8 k)∧Own b8 wr wo.heap.size 5 vb (xorL F 92#8 k)∧(∀b,va.ownBlock=some b→vb.ownBlock≠some b)∧Below wo.heap.size wo wr) (fun _ _ iv _=>64-(intOf iv).toNat)
   case atStart=>exact⟨0,by omega,rfl,Own.nil_ _ _ _ _,Own.nil_ _ _ _ _,fun b e=>by simp[Value.ownBlock]at e,Below.refl _ _⟩
   case round=>
    obtain⟨k,hk,rfl,ha,hb2,hne,hbw⟩:=hrel
    have hz2':=hbw.size
    obtain⟨Aa,ca,rfl,-,-,-,-⟩:=ha.shape' (xorL_len F 54#8 k (by rw[HFl.out];exact hk))
    obtain⟨Ab,cb,rfl,-,-,-,-⟩:=hb2.shape' (xorL_len F 92#8 k (by rw[HFl.out];exact hk))
    have HXa:=qq ha
    have HXb:=qq hb2
    have HNe:=qq hne
    have HBw:=qq hbw
    clear ha hb2 hne hbw
    by_cases hlt2:k<64
    ·have cf0:wr.cell? ⟨gf,k,none⟩=some (b8 (F.getD k 0#8)):=by
      have h2:k<F.length:=by rw[HFl.out];exact hlt2
      rw[((HF.out.below HBw.out (Nat.le_refl _)).at_ h2).1,List.getD,List.getElem?_eq_getElem h2];rfl
     have sa:=xorL_succ F 54#8 k (by rw[HFl.out];exact hlt2)
     have sb:=xorL_succ F 92#8 k (by rw[HFl.out];exact hlt2)
     have la:=xorL_len F 54#8 k (by rw[HFl.out];omega)
     have lb:=xorL_len F 92#8 k (by rw[HFl.out];omega)
     have Qf:=qq (show∀W',Below wo.heap.size wo W'→W'.cell? ⟨gf,k,none⟩=some (b8 (F.getD k 0#8))from fun W' hb'=>by
      have h2:k<F.length:=by rw[HFl.out];exact hlt2
      rw[((HF.out.below hb' (Nat.le_refl _)).at_ h2).1,List.getD,List.getElem?_eq_getElem h2];rfl)
     generalize F.getD k 0#8=x at cf0 sa sb Qf
     simp only[b8]at cf0
     have lk:(k:Int)<64:=by omega
     have Sa:=qq sa
     have Sb:=qq sb
     have La:=qq la
     have Lb:=qq lb
     clear sa sb la lb
     go_wp2_with (first
      |(at_builtin;(refine wpList_append_rd rfl (.tmp 32) (.tmp 38) 28 rfl b8_one wo.heap.size 5 i0 _ 1 Tryz.underlying28 hi0 hz0 hz1 hz2 rfl _ _ rfl (HXa.out.alloc _) (wr.heap.size+1) _ 1 1 [x^^^54#8] rfl rfl (Rd.new b8 wr 5 [x^^^54#8]) (by rw[La.out];simp[maxLen];omega) (by rw[La.out];simp;omega) (by simp;omega) ?_;intro v7 w7 hown7 hg7 hbb7;have HV7:=qq (hown7.cast Sa.out.symm);have HG7:=qq hg7;have HB7:=qq (hbb7 _ _ (Nat.le_refl _) (HBw.out.alloc hz2' _));have HXb7:=qq ((HXb.out.alloc (.cells #[b8 (x^^^54#8)] 5)).kept' hg7.by_ (fun b e hv=>HNe.out b e hv));have hs7:=hg7.size;have cf7:=Qf.out w7 HB7.out;simp only[b8]at cf7;have HNe7:=qq (hg7.apart HNe.out (HXb.out.alloc (.cells #[b8 (x^^^54#8)] 5)));clear hown7 hg7 hbb7))
      |(at_builtin;(refine wpList_append_rd rfl (.tmp 40) (.tmp 46) 28 rfl b8_one wo.heap.size 5 i0 _ 1 Tryz.underlying28 hi0 hz0 hz1 hz2 rfl _ _ rfl (HXb7.out.alloc _) (w7.heap.size+1) _ 1 1 [x^^^92#8] rfl rfl (Rd.new b8 w7 5 [x^^^92#8]) (by rw[Lb.out];simp[maxLen];omega) (by rw[Lb.out];simp;omega) (by simp at hs7;simp;omega) ?_;intro v8 w8 hown8 hg8 hbb8)))
     have HA8:=qq ((HV7.out.alloc (.cells #[b8 (x^^^92#8)] 5)).kept' hg8.by_ (fun b e hv=>HNe7.out b hv e))
     have hap:=hg8.apart (fun b e1 e2=>HNe7.out b e2 e1) (HV7.out.alloc (.cells #[b8 (x^^^92#8)] 5))
     have HB8:=qq (hbb8 _ _ (Nat.le_refl _) (HB7.out.alloc HB7.out.size _))
     have HAp:=qq hap
     have HO8:=qq (hown8.cast Sb.out.symm)
     clear hap hown8 hg8 hbb8
     go_roundw
     case rel=>exact⟨k+1,by omega,by go_num,HA8.out,HO8.out,fun b e1 e2=>HAp.out b e2 e1,HB8.out⟩
     case measure=>simp[intOf];omega
    ·obtain rfl:k=64:=by omega
     have hpa:xorL F 54#8 64=kpad key 54#8:=by unfold xorL kpad;rw[←HFl.out,List.take_length,HFe.out]
     have hpb:xorL F 92#8 64=kpad key 92#8:=by unfold xorL kpad;rw[←HFl.out,List.take_length,HFe.out]
     have HPa:=qq (HXa.out.cast hpa)
     have HPb:=qq (HXb.out.cast hpb)
     have hgA:=HA.out.lt
     have HBt:=qq (HB.out.trans (HBw.out.mono HB.out.size))
     have HAt:=qq (HA.out.below HBw.out hgA)
     have HXt:=qq ((HX.out.more hBt).below HBt.out)
     obtain⟨S,hS⟩:∃S,S=sum32 (kpad key 54#8++xs):=⟨_,rfl⟩
     obtain⟨Z,hZ⟩:∃Z,Z=tagV key xs:=⟨_,rfl⟩
     obtain⟨N,hN⟩:∃N,N=64+m:=⟨_,rfl⟩
     have HN2:=qq hN
     have hNb:N≤40000064:=by omega
     have HSe:=qq hS
     have HZe:=qq hZ
     have HSl:=qq (show S.length=32 by rw[hS];exact sum32_len _)
     have HZl:=qq (show Z.length=32 by rw[hZ];exact sum32_len _)
     clear HXa HXb HA HBw HB hpa hpb hS hZ hN HF HFl HFe hlt2 hk
     go_wp2_with (at_builtin;(refine wpList_append_rd rfl (.tmp 48) (.tmp 49) 28 rfl b8_one wo.heap.size 5 i0 _ 1 Tryz.underlying28 hi0 hz0 hz1 hz2 rfl _ _ rfl HPa.out w.heap.size C m d xs rfl HM.out HXt.out (by have:=HM.out;rw[kpad_len];unfold maxLen;omega) (by have:=HM.out;rw[kpad_len];omega) (by omega) ?_;intro v3 w3 hown3 hg3 hbb3;obtain⟨A3,c3,rfl,-,-,-,-⟩:=hown3.shape' (n:=N) (by rw[List.length_append,kpad_len,←HM.out];exact HN2.out.symm);have HO3:=qq hown3;have HB3:=qq (hbb3 _ _ (by omega) HBt.out);have HPb3:=qq (HPb.out.kept' hg3.by_ (fun b e hv=>HNe.out b e hv));have HA3:=qq (HAt.out.grown hg3.by_ (arr_not_own HAt.out (by decide) HPa.out));have hz3:wr.heap.size≤w3.heap.size:=hg3.size;clear hown3 hg3 hbb3))
     have hs:=refShort_any w3 w3.heap.size c3 N A3 _ HO3.out.rd (Nat.le_refl _) (by rw[List.length_append,kpad_len,←HM.out];exact HN2.out) (by omega)
     rw[arrV_mk,←HSe.out]at hs
     have HSh:=qq hs
     clear hs
     refine HSh.out.mono ?_
     rintro e w4 ⟨rfl,hb4⟩
     have hz4:=hb4.size
     have HB4:=qq (HB3.out.trans (hb4.mono HB3.out.size))
     have HPb4:=qq (HPb3.out.below hb4 (by omega))
     have HA4:=qq (HA3.out.below hb4 (by omega))
     have HT4:=qq (Arr.new b8 w4 23 (List.replicate 32 0#8))
     clear hb4 HSh HB3 HPb3 HA3
     go_wp2_with (first
      |(refine wpList_store_arr rfl 23 (.tmp 10) (.tmp 51) rfl w4.heap.size rfl S rfl _ _ HT4.out (by rw[HSl.out];rfl) (by rw[size32,HSl.out]) b8_one' ?_;intro w5 hx5 hg5;have hz5:w4.heap.size<w5.heap.size:=hx5.lt;have HS5:=qq hx5;have HPb5:=qq ((HPb4.out.alloc (.cells ((List.replicate 32 0#8).map b8).toArray 23)).kept' hg5 (fun b e hv=>by cases e;exact absurd (HPb4.out.lt _ hv).2 (Nat.lt_irrefl _)));have HA5:=qq ((HA4.out.alloc (.cells ((List.replicate 32 0#8).map b8).toArray 23)).grown hg5 (by have:=HA4.out.lt;simp;omega));have HB5:=qq ((HB4.out.alloc HB4.out.size (.cells ((List.replicate 32 0#8).map b8).toArray 23)).grown hg5 (by simp;omega) (fun k e=>by cases e;omega));clear hx5 hg5)
      |(at_builtin;(refine wpList_append_rd rfl (.tmp 52) (.tmp 53) 28 rfl b8_one wo.heap.size 5 i0 _ 1 Tryz.underlying28 hi0 hz0 hz1 hz2 rfl _ _ rfl HPb5.out (w4.heap.size+1) (some ⟨w4.heap.size,0,none⟩) 32 32 S rfl HSl.out.symm (HS5.out.rd 0) (by have:=HSl.out;rw[kpad_len];unfold maxLen;omega) (by have:=HSl.out;rw[kpad_len];omega) (by omega) ?_;intro v6 w6 hown6 hg6 hbb6;obtain⟨A6,c6,rfl,-,-,-,-⟩:=hown6.shape' (n:=96) (by rw[List.length_append,kpad_len,HSl.out]);have HO6:=qq hown6;have HB6:=qq (hbb6 _ _ (by omega) HB5.out);have HA6:=qq (HA5.out.grown hg6.by_ (arr_not_own HA5.out (by decide) HPb5.out));have hz6:w5.heap.size≤w6.heap.size:=hg6.size;clear hown6 hg6 hbb6)))
     have hs:=refShort_any w6 w6.heap.size c6 96 A6 _ HO6.out.rd (Nat.le_refl _) (by rw[List.length_append,kpad_len,HSl.out]) (by omega)
     rw[arrV_mk,HSe.out,show sum32 (kpad key 92#8++sum32 (kpad key 54#8++xs))=tagV key xs from rfl,←HZe.out]at hs
     have HSh:=qq hs
     clear hs
     refine HSh.out.mono ?_
     rintro e w7 ⟨rfl,hb7⟩
     have hz7:=hb7.size
     have HB7:=qq (HB6.out.trans (hb7.mono HB6.out.size))
     have HA7:=qq (HA6.out.below hb7 (by omega))
     clear hb7 HSh HB6 HA6
     go_wp2_with (refine wpList_store_arr rfl 23 (.tmp 4) (.tmp 55) rfl w.heap.size rfl Z rfl _ _ HA7.out (by rw[HZl.out];rfl) (by rw[size32,HZl.out]) b8_one' ?_;intro w9 hx9 hg9)
     refine bodyPost_ret (v:= .agg (Z.map b8).toArray) (results_arr (g:=w.heap.size) rfl _ _ _ _ _ rfl hx9 Tryz.underlying23 rfl (by rw[size32,HZl.out])) rfl ?_
     exact⟨by rw[arrV_mk,HZe.out],HB7.out.grown hg9 HB7.out.size (fun k e=>by cases e;exact Nat.le_refl _)⟩
theorem refTag_any(w:World)(B c n Bt d m:Nat)(A C:Option Addr)(key xs:List (BitVec 8))(hk:Rd b8 w B A key)(hB:B≤w.heap.size)(hn:n=key.length)(hnb:n≤40000000)(hx:Rd b8 w Bt C xs)(hBt:Bt≤w.heap.size)(hm:m=xs.length)(hbig:m≤40000000):
 Calls Tryz.prog 129 #[.slice A n c,.slice C m d] w fun e w'=>e= .returned (arrV b8 (tagV key xs))∧Below w.heap.size w w':=by
 by_cases h:n≤64
 ·exact refTag_small w B c n Bt d m A C key xs hk hB hn h hx hBt hm hbig
 ·exact refTag_big w B c n Bt d m A C key xs hk hB hn h hnb hx hBt hm hbig
def tagI(key inf:List (BitVec 8)):Nat→List (BitVec 8)
 |0=> []
 |i+1=>tagV key (tagI key inf i++inf++ [BitVec.ofInt 8 ((i:Int)+1)])
def exA(key inf:List (BitVec 8)):Nat→List (BitVec 8)
 |0=> []
 |i+1=>exA key inf i++tagI key inf (i+1)
theorem tagI_len(key inf:List (BitVec 8))(i:Nat):(tagI key inf (i+1)).length=32:=tagV_len _ _
theorem tagI_le(key inf:List (BitVec 8))(i:Nat):(tagI key inf i).length≤32:=by
 cases i with
 |zero=>simp[tagI]
 |succ i=>rw[tagI_len];exact Nat.le_refl _
theorem exA_len(key inf:List (BitVec 8))(i:Nat):(exA key inf i).length=32*i:=by
 induction i with
 |zero=>rfl
 |succ i ih=>simp only[exA,List.length_append,ih,tagI_len];omega
theorem exA_take(key inf:List (BitVec 8))(i j n:Nat)(hij:i≤j)(hn:n≤32*i):(exA key inf j).take n=(exA key inf i).take n:=by
 induction j with
 |zero=>have:i=0:=by omega
        subst this;rfl
 |succ j ih=>
  rcases Nat.lt_or_ge i (j+1)with h|h
  ·simp only[exA]
   rw[List.take_append_of_le_length (by rw[exA_len];omega)]
   exact ih (by omega)
  ·have:i=j+1:=by omega
   subst this;rfl
def expV(key inf:List (BitVec 8))(n:Nat):List (BitVec 8):=(exA key inf 255).take n
theorem expV_len(key inf:List (BitVec 8))(n:Nat)(h:n≤8160):(expV key inf n).length=n:=by
 unfold expV;rw[List.length_take,exA_len];omega
theorem expV_of(key inf:List (BitVec 8))(i n:Nat)(hi:i≤255)(hn:n≤32*i):expV key inf n=(exA key inf i).take n:=exA_take key inf i 255 n hi hn
def exL(key inf:List (BitVec 8))(l:List Nat):List (BitVec 8):=l.flatMap (tagI key inf)
theorem exL_snoc(key inf:List (BitVec 8))(l:List Nat)(i:Nat):exL key inf (l++ [i])=exL key inf l++tagI key inf i:=by unfold exL;rw[List.flatMap_append];simp
theorem exL_len(key inf:List (BitVec 8))(l:List Nat)(h:∀i∈l,1≤i):(exL key inf l).length=32*l.length:=by
 induction l with
 |nil=>rfl
 |cons i l ih=>
  have h1:(tagI key inf i).length=32:=by
   obtain⟨j,rfl⟩:∃j,i=j+1:=⟨i-1,by have:=h i (by simp);omega⟩
   exact tagI_len _ _ _
  have h2:=ih (fun j hj=>h j (by simp[hj]))
  unfold exL at h2 ⊢
  rw[List.flatMap_cons,List.length_append,h1,h2,List.length_cons];omega
theorem exL_range(key inf:List (BitVec 8))(k:Nat):exL key inf (List.range' 1 k)=exA key inf k:=by
 induction k with
 |zero=>rfl
 |succ k ih=>rw[List.range'_concat,exL_snoc,ih,show 1+1*k=k+1 by omega];rfl
end Go.Proofs.YtelgjaiknaalkaaGreatDoor
