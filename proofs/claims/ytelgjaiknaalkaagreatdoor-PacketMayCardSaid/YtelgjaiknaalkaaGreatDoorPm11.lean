/- Lemmas, joined and made smaller by a program. -/
import Derived.Test.YtelgjaiknaalkaaGreatDoorPm10
import Derived.Test.YtelgjaiknaalkaaGreatDoorPm05
import Derived.Test.YtelgjaiknaalkaaGreatDoorPm02
import Derived.Deep.RegionHeld3
open Go.Lib renaming hid → qq
set_option linter.unusedVariables false
set_option linter.unusedSimpArgs false
namespace Go.Proofs.YtelgjaiknaalkaaGreatDoor
open Go.RowKit
set_option maxRecDepth 100000 in
set_option maxHeartbeats 4000000 in
theorem refExpand_own(w:World)(B1 n1 c1 B2 n2 c2 N:Nat)(A1 A2:Option Addr)(key inf:List (BitVec 8))(hr1:Rd b8 w B1 A1 key)(hB1:B1≤w.heap.size)(hn1:n1=key.length)(hr2:Rd b8 w B2 A2 inf)(hB2:B2≤w.heap.size)(hn2:n2=inf.length)(hk:n1≤100000)(hi:n2≤100000)(hN:N≤8160):
 Calls Tryz.prog 108 #[.slice A1 n1 c1,.slice A2 n2 c2,.int .i64 (N:Int)] w fun e w'=>∃A c,e= .returned (.tuple #[.slice A N c,.bool true])∧Own b8 w' w.heap.size 5 (.slice A N c) (expV key inf N)∧Below w.heap.size w w':=by
 obtain⟨i0,hi0,hz0,hz1,hz2⟩:=info_parts infoU8
 have H1:=qq hn1
 have H2:=qq hn2
 have R1:=qq (hr1.more hB1)
 have R2:=qq (hr2.more hB2)
 have lN:(N:Int)≤8160:=by omega
 clear hn1 hn2 hr1 hr2 hB1 hB2
 go_enter Tryz.func108,Tryz.ntmps108
 go_wp2_with fail
 go_loopw [8,9,10] (fun vo vl iv wr=>∃k:Nat,k≤255∧32*k<N+32∧iv= .int .i64 ((k:Int)+1)∧Own b8 wr w.heap.size 5 vo (exA key inf k)∧Own b8 wr w.heap.size 5 vl (tagI key inf k)∧Below w.heap.size w wr) (fun vo _ _ _=>N-(lenIn vo).toNat)
 case atStart=>exact⟨0,by omega,by omega,rfl,Own.nil_ _ _ _ _,Own.nil_ _ _ _ _,Below.refl _ _⟩
 case round=>
  obtain⟨k,hk255,hkN,rfl,ho,hl,hb⟩:=hrel
  obtain⟨L,hL⟩:∃L,L=32*k:=⟨_,rfl⟩
  obtain⟨T,hT⟩:∃T,T=(tagI key inf k).length:=⟨_,rfl⟩
  have hTb:T≤32:=by rw[hT];exact tagI_le _ _ _
  obtain⟨Ao,co,rfl,-,-,hLc,-⟩:=ho.shape' (n:=L) (by rw[exA_len,hL])
  obtain⟨Al,cl,rfl,-,-,-,-⟩:=hl.shape' hT.symm
  have HO:=qq ho
  have HL:=qq hl
  have HB:=qq hb
  have HLe:=qq hL
  have HTe:=qq hT
  have hz:=hb.size
  have hLb:L≤8160:=by omega
  clear ho hl hb hL hT
  by_cases hlt:L<N
  ·have hk254:k≤254:=by have:=HLe.out;omega
   obtain⟨S,hS⟩:∃S,S=tagI key inf (k+1):=⟨_,rfl⟩
   have HSe:=qq hS
   have HSl:=qq (show S.length=32 by rw[hS];exact tagI_len _ _ _)
   clear hS
   have HE:=qq (own_empty wr)
   have HBe:=qq (HB.out.alloc hz (.cells #[] 5))
   have HOl:=qq (show∀b,(Value.slice Ao L co).ownBlock=some b→b<wr.heap.size from fun b e=>(HO.out.lt b e).2)
   have hx:b8 (BitVec.ofInt 8 ((k:Int)+1))= .int .u8 ((k:Int)+1):=by unfold b8 bv;rw[BitVec.toNat_ofInt];congr 1;omega
   obtain⟨x,hxe⟩:∃x,x=BitVec.ofInt 8 ((k:Int)+1):=⟨_,rfl⟩
   rw[←hxe]at hx
   have HRx:=qq (show∀W':World,Rd b8 (W'.alloc (.cells #[.int .u8 ((k:Int)+1)] 5)) (W'.heap.size+1) (some ⟨W'.heap.size,0,none⟩) [x]from fun W'=>by have h:=Rd.new b8 W' 5 [x];simp only[List.map_cons,List.map_nil,hx]at h;exact h)
   have HXe:=qq hxe
   have ht2:=H2.out
   have hn3:T+n2+1≤101000:=by omega
   clear hx hxe ht2
   go_wp2_with (first
    |(at_builtin;(refine wpList_append_rd rfl (.tmp 25) (.tmp 26) 28 rfl b8_one wr.heap.size 5 i0 _ 1 Tryz.underlying28 hi0 hz0 hz1 hz2 rfl _ _ rfl HE.out wr.heap.size Al T cl (tagI key inf k) rfl HTe.out (HL.out.rd.alloc (Nat.le_refl _) _) (by have:=HTe.out;simp[maxLen];omega) (by have:=HTe.out;simp;omega) (by simp) ?_;intro v1 w1 hown1 hg1 hbb1;obtain⟨Av1,cv1,rfl,-,-,-,-⟩:=hown1.shape' (n:=T) (by simp[HTe.out]);have HV1:=qq (hown1.cast (List.nil_append _));have HB1:=qq (hbb1 _ _ hz HBe.out);have HO1:=qq ((HO.out.alloc (.cells #[] 5)).kept' hg1.by_ (fun b e hv=>absurd (HOl.out b hv) (Nat.not_lt.2 (HE.out.lt b e).1)));have hs1:wr.heap.size<w1.heap.size:=(by have:=hg1.size;rw[World.size_alloc]at this;exact this);clear hown1 hg1 hbb1))
    |(at_builtin;(refine wpList_append_rd rfl (.tmp 27) (.tmp 28) 28 rfl b8_one wr.heap.size 5 i0 _ 1 Tryz.underlying28 hi0 hz0 hz1 hz2 rfl _ _ rfl HV1.out w.heap.size A2 n2 c2 inf rfl H2.out (R2.out.below HB1.out) (by have:=HTe.out;have:=H2.out;simp[maxLen];omega) (by have:=HTe.out;have:=H2.out;simp;omega) (by omega) ?_;intro v2 w2 hown2 hg2 hbb2;obtain⟨Av2,cv2,rfl,-,-,-,-⟩:=hown2.shape' (n:=T+n2) (by rw[List.length_append,←HTe.out,←H2.out]);have HV2:=qq hown2;have HB2:=qq (hbb2 _ _ hz HB1.out);have HO2:=qq (HO1.out.kept' hg2.by_ (fun b e hv=>absurd (HOl.out b hv) (Nat.not_lt.2 (HV1.out.lt b e).1)));have hs2:w1.heap.size≤w2.heap.size:=hg2.size;clear hown2 hg2 hbb2))
    |(at_builtin;(refine wpList_append_rd rfl (.tmp 29) (.tmp 32) 28 rfl b8_one wr.heap.size 5 i0 _ 1 Tryz.underlying28 hi0 hz0 hz1 hz2 rfl _ _ rfl (HV2.out.alloc (.cells #[.int .u8 ((k:Int)+1)] 5)) (w2.heap.size+1) (some ⟨w2.heap.size,0,none⟩) 1 1 [x] rfl rfl (HRx.out w2) (by have:=HTe.out;have:=H2.out;simp[maxLen];omega) (by have:=HTe.out;have:=H2.out;simp;omega) (by simp;omega) ?_;intro v3 w3 hown3 hg3 hbb3;obtain⟨Av3,cv3,rfl,-,-,-,-⟩:=hown3.shape' (n:=T+n2+1) (by rw[List.length_append,List.length_append,←HTe.out,←H2.out];rfl);have HV3:=qq hown3;have HB3:=qq (hbb3 _ _ hz (HB2.out.alloc HB2.out.size _));have HO3:=qq ((HO2.out.alloc (.cells #[.int .u8 ((k:Int)+1)] 5)).kept' hg3.by_ (fun b e hv=>absurd (HOl.out b hv) (Nat.not_lt.2 (HV2.out.lt b e).1)));have hs3:w2.heap.size≤w3.heap.size:=(by have:=hg3.size;rw[World.size_alloc]at this;omega);clear hown3 hg3 hbb3)))
   have hs:=refTag_any w3 w.heap.size c1 n1 w3.heap.size cv3 (T+n2+1) A1 Av3 key _ (R1.out.below HB3.out) HB3.out.size H1.out (by omega) HV3.out.rd (Nat.le_refl _) (by rw[List.length_append,List.length_append,←HTe.out,←H2.out];rfl) (by omega)
   rw[arrV_mk,HXe.out,show tagV key (tagI key inf k++inf++ [BitVec.ofInt 8 ((k:Int)+1)])=tagI key inf (k+1)from rfl,←HSe.out]at hs
   have HSh:=qq hs
   clear hs
   refine HSh.out.mono ?_
   rintro e w4 ⟨rfl,hb4⟩
   have hs4:=hb4.size
   have HB4:=qq (HB3.out.trans (hb4.mono HB3.out.size))
   have HO4:=qq (HO3.out.below hb4 (Nat.le_refl _))
   have HT4:=qq (Arr.new b8 w4 23 (List.replicate 32 0#8))
   clear hb4 HSh HB3 HO3 HV3 HV2 HV1 HO2 HO1 HB2 HB1
   go_wp2_with (first
    |(refine wpList_store_arr rfl 23 (.tmp 11) (.tmp 34) rfl w4.heap.size rfl S rfl _ _ HT4.out (by rw[HSl.out];rfl) (by rw[size32,HSl.out]) b8_one' ?_;intro w5 hx5 hg5;have hs5:w4.heap.size<w5.heap.size:=hx5.lt;have HS5:=qq hx5;have HO5:=qq ((HO4.out.alloc (.cells ((List.replicate 32 0#8).map b8).toArray 23)).kept' hg5 (fun b e hv=>by cases e;exact absurd (HOl.out _ hv) (by omega)));have HB5:=qq ((HB4.out.alloc HB4.out.size (.cells ((List.replicate 32 0#8).map b8).toArray 23)).grown hg5 (by have:=HB4.out.size;simp;omega) (fun k e=>by cases e;exact HB4.out.size));have HE5:=qq (own_empty w5);clear hx5 hg5)
    |(at_builtin;(refine wpList_append_rd rfl (.tmp 35) (.tmp 36) 28 rfl b8_one w5.heap.size 5 i0 _ 1 Tryz.underlying28 hi0 hz0 hz1 hz2 rfl _ _ rfl HE5.out (w4.heap.size+1) (some ⟨w4.heap.size,0,none⟩) 32 32 S rfl HSl.out.symm ((HS5.out.alloc _).rd 0) (by have:=HSl.out;simp[maxLen];omega) (by have:=HSl.out;simp;omega) (by simp) ?_;intro v6 w6 hown6 hg6 hbb6;obtain⟨A6,c6,rfl,-,-,-,-⟩:=hown6.shape' (n:=32) (by simp[HSl.out]);have HV6:=qq (hown6.cast (List.nil_append _));have HB6:=qq (hbb6 _ _ HB5.out.size (HB5.out.alloc HB5.out.size _));have HO6:=qq ((HO5.out.alloc (.cells #[] 5)).kept' hg6.by_ (fun b e hv=>absurd (HOl.out b hv) (Nat.not_lt.2 (Nat.le_trans (by omega) (HE5.out.lt b e).1))));have hs6:w5.heap.size<w6.heap.size:=(by have:=hg6.size;rw[World.size_alloc]at this;exact this);clear hown6 hg6 hbb6))
    |(at_builtin;(refine wpList_append_rd rfl (.tmp 38) (.tmp 39) 28 rfl b8_one w.heap.size 5 i0 _ 1 Tryz.underlying28 hi0 hz0 hz1 hz2 rfl _ _ rfl HO6.out w6.heap.size A6 32 c6 S rfl HSl.out.symm HV6.out.rd (by have:=HSl.out;rw[exA_len];unfold maxLen;omega) (by have:=HSl.out;rw[exA_len];omega) (by omega) ?_;intro v7 w7 hown7 hg7 hbb7;obtain⟨A7,c7,rfl,-,-,-,-⟩:=hown7.shape' (n:=L+32) (by rw[List.length_append,exA_len,HSl.out,HLe.out]);have HO7:=qq (show Own b8 w7 w.heap.size 5 (.slice A7 (L+32) c7) (exA key inf (k+1))from hown7.cast (by rw[HSe.out];rfl));have HB7:=qq (hbb7 _ _ (Nat.le_refl _) HB6.out);have HV7:=qq ((HV6.out.kept' hg7.by_ (fun b e hv=>absurd (HOl.out b e) (Nat.not_lt.2 (Nat.le_trans (by omega) (HV6.out.lt b hv).1)))).cast HSe.out);clear hown7 hg7 hbb7)))
   go_roundw
   case rel=>exact⟨k+1,by omega,by have:=HLe.out;omega,by simp,HO7.out,HV7.out.less (by omega),HB7.out⟩
   case measure=>simp[lenIn];omega
  ·have hlt':¬((L:Int)<(N:Int)):=by omega
   have hNL:(N:Int)≤(L:Int):=by omega
   have hNL':N≤L:=by omega
   have hNc:(N:Int)≤(co:Int):=by omega
   have hN0:(0:Int)≤(N:Int):=by omega
   have HFin:=qq (show(exA key inf k).take N=expV key inf N from(expV_of key inf k N hk255 (by have:=HLe.out;omega)).symm)
   go_wp2_with fail
   have hRd:Own b8 wr w.heap.size 5 (.slice Ao N co) (expV key inf N):=by have h:=HO.out.short N hNL';rw[HFin.out]at h;exact h
   go_ret2
   first|exact⟨Ao,co,rfl,hRd,HB.out⟩|exact⟨Ao,co,⟨rfl,rfl⟩,hRd,HB.out⟩
theorem tags_any(A1 A2:Option Addr)(n1 c1 n2 c2:Nat)(w:World):
 Calls Tryz.prog 137 #[.slice A1 n1 c1,.slice A2 n2 c2] w fun e w'=>e= .returned (.func (.func 141) #[] #[.pointer (some ⟨w.heap.size,0,none⟩),.pointer (some ⟨w.heap.size+1,0,none⟩)])∧
  w'=(w.alloc (.cells #[.slice A1 n1 c1] 28)).alloc (.cells #[.slice A2 n2 c2] 28):=by
 go_enter Tryz.func137,Tryz.ntmps137
 go_wp2_with fail
 go_ret
 exact⟨rfl,rfl⟩
abbrev Ti:={i:Nat//1≤i∧i≤255}
def encT(key inf:List (BitVec 8))(x:Ti):Array Value:= #[arrV b8 (tagI key inf x.1)]
def KpT(n₀ e1 e2:Nat)(A B:World):Prop:=Below n₀ A B∧∀g o,A.heap[g]?=some o→o.isCells=true→g≠e1→g≠e2→B.heap[g]?=some o
theorem KpT.t{n₀ e1 e2:Nat}{A B C:World}(h:KpT n₀ e1 e2 A B)(k:KpT n₀ e1 e2 B C):KpT n₀ e1 e2 A C:=
 ⟨h.1.trans k.1,fun g o hg hc h1 h2=>k.2 g o (h.2 g o hg hc h1 h2) hc h1 h2⟩
theorem KpT.of_below{n₀ e1 e2:Nat}{A B:World}(h:Below A.heap.size A B)(hn:n₀≤A.heap.size):KpT n₀ e1 e2 A B:=⟨h.mono hn,fun g o hg _ _ _=>(h.block g (Array.getElem?_eq_some_iff.1 hg).1).trans hg⟩
theorem KpT.put{n₀ e1 e2 W0 l:Nat}{W:World}{o o':Obj}(hl:W0≤l)(hn:n₀≤W0)(ho:W.heap[l]?=some o)(hc:o.isCells=false):KpT n₀ e1 e2 W (W.putObj l o'):=
 ⟨(Below.refl _ W).grown (grownBy_putObj' W l o') (by have:=(Array.getElem?_eq_some_iff.1 ho).1;omega) (fun k e=>by cases e;omega),fun g u hg hu _ _=>by
   have hne:g≠l:=fun e=>by subst e;rw[hg]at ho;cases ho;rw[hu]at hc;cases hc
   rw[World.putObj_heap_other hne];exact hg⟩
theorem KpT.arr{α:Type}{f:α→Value}{T:TypeId}{xs:List α}{n₀ e1 e2 g:Nat}{A B:World}(h:KpT n₀ e1 e2 A B)(ha:Arr f A g T xs)(h1:g≠e1)(h2:g≠e2):Arr f B g T xs:=h.2 g _ ha rfl h1 h2
theorem KpT.box{n₀ e1 e2 g:Nat}{t:TypeId}{v:Value}{A B:World}(h:KpT n₀ e1 e2 A B)(ha:Boxed A g t v)(h1:g≠e1)(h2:g≠e2):Boxed B g t v:=h.2 g _ ha rfl h1 h2
def LastT(W0:Nat)(w:World)(v:Value)(key inf:List (BitVec 8))(k:Nat):Prop:=
 (k=0∧v= .slice none 0 0)∨∃g,v= .slice (some ⟨g,0,none⟩) 32 32∧0<k∧W0≤g∧Arr b8 w g 23 (tagI key inf k)
theorem LastT.rd{W0:Nat}{w:World}{v:Value}{key inf:List (BitVec 8)}{k:Nat}(h:LastT W0 w v key inf k):∃A T,v= .slice A T T∧T=(tagI key inf k).length∧Rd b8 w w.heap.size A (tagI key inf k):=by
 rcases h with⟨rfl,rfl⟩|⟨g,rfl,hk,-,ha⟩
 ·exact⟨none,0,rfl,rfl,Rd.nil_ _ _ _ _⟩
 ·obtain⟨j,rfl⟩:∃j,k=j+1:=⟨k-1,by omega⟩
  exact⟨_,32,rfl,(tagI_len _ _ _).symm,(ha.rd 0).more ha.lt⟩
set_option maxRecDepth 100000 in
set_option maxHeartbeats 2000000 in
theorem tags1_in(m:Nat)(hm:3≤m)(l b1 b2 e1 e2 n₀ n1 c1 n2 c2:Nat)(A1 A2:Option Addr)(key inf:List (BitVec 8))(hn1:n1=key.length)(hn2:n2=inf.length)(hq1:n1≤100000)(hq2:n2≤100000)(J Jx:List Ti→World→Prop)(W:World)(hJ:AbidesFrom W.heap.size J)
 (hY:∀pre y W1,J pre W1→pre.length<255→YieldAt Fence.wide (m-1) Tryz.prog l (encT key inf y) W1 fun e W'=>
  (e= .returned (.bool true)∧J (pre++ [y]) W'∧KpT n₀ e1 e2 W1 W')∨(e= .returned (.bool false)∧Jx (pre++ [y]) W'))
 (hb1:Boxed W b1 28 (.slice A1 n1 c1))(hb2:Boxed W b2 28 (.slice A2 n2 c2))(hr1:Rd b8 W n₀ A1 key)(hr2:Rd b8 W n₀ A2 inf)(hn₀:n₀≤W.heap.size)
 (he1:n₀≤e1∧e1<W.heap.size)(he2:n₀≤e2∧e2<W.heap.size)(hbe:b1≠e1∧b1≠e2∧b2≠e1∧b2≠e2)(h0:J [] W):
 CallsIn Fence.wide m Tryz.prog 141 #[.func (.yield l) #[] #[],.pointer (some ⟨b1,0,none⟩),.pointer (some ⟨b2,0,none⟩)] W fun e W'=>(∃v,e= .returned v)∧
  ((∃ys:List Ti,ys.map Subtype.val=List.range' 1 255∧J ys W')∨(∃pre:List Ti,(∃k,pre.map Subtype.val=List.range' 1 k)∧Jx pre W')):=by
 refine callsIn_of_wp Tryz.func141 rfl trivial ?_ rfl
 simp only[Tryz.ntmps141,List.size_toArray,List.length_cons,List.length_nil,Nat.reduceAdd,Nat.reduceSub,Array.replicate_succ,Array.replicate_zero,List.push_toArray,List.append_toArray,List.nil_append,List.cons_append]
 have HJ:=qq hJ
 have HY:=qq hY
 have H0:=qq h0
 have HB1:=qq hb1
 have HB2:=qq hb2
 have R1:=qq hr1
 have R2:=qq hr2
 have H1:=qq hn1
 have H2:=qq hn2
 have HBe:=qq hbe
 have hm1:1≤m:=by omega
 have hm2:1≤m-1:=by omega
 clear hJ hY h0 hb1 hb2 hr1 hr2 hn1 hn2 hbe
 gi_wp2_with fail
 gi_loopw [4,5] (fun vl vi wr=>∃(k:Nat) (pre:List Ti),k≤254∧vi= .int .u8 ((k:Int)+1)∧pre.map Subtype.val=List.range' 1 k∧J pre wr∧LastT W.heap.size wr vl key inf k∧Boxed wr b1 28 (.slice A1 n1 c1)∧Boxed wr b2 28 (.slice A2 n2 c2)∧Rd b8 wr n₀ A1 key∧Rd b8 wr n₀ A2 inf∧W.heap.size≤wr.heap.size) (fun _ vi _=>(256-intOf vi).toNat)
 case atStart=>exact⟨0,[],by omega,by simp,rfl,H0.out,.inl ⟨rfl,rfl⟩,HB1.out,HB2.out,R1.out,R2.out,Nat.le_refl _⟩
 case round=>
  obtain⟨k,pre,hk,rfl,hpre,hJs,hla,hb1,hb2,hr1,hr2,hz⟩:=hrel
  obtain⟨Al,T,rfl,hT,hrl⟩:=hla.rd
  have hTb:T≤32:=by rw[hT];exact tagI_le _ _ _
  obtain⟨S,hS⟩:∃S,S=tagI key inf (k+1):=⟨_,rfl⟩
  have HSl:=qq (show S.length=32 by rw[hS];exact tagI_len _ _ _)
  have hx:b8 (BitVec.ofInt 8 ((k:Int)+1))= .int .u8 ((k:Int)+1):=by unfold b8 bv;rw[BitVec.toNat_ofInt];congr 1;omega
  have hRx:Rd b8 (wr.alloc (.cells #[.int .u8 ((k:Int)+1)] 5)) (wr.heap.size+1) (some ⟨wr.heap.size,0,none⟩) [BitVec.ofInt 8 ((k:Int)+1)]:=by have h:=Rd.new b8 wr 5 [BitVec.ofInt 8 ((k:Int)+1)];simp only[List.map_cons,List.map_nil,hx]at h;exact h
  have hn0r:n₀≤wr.heap.size:=by omega
  have hc:=tag_three (wr.alloc (.cells #[.int .u8 ((k:Int)+1)] 5)) n₀ n1 c1 (wr.heap.size+1) T T n2 c2 1 1 A1 Al A2 (some ⟨wr.heap.size,0,none⟩) key (tagI key inf k) inf _ (hr1.alloc hn0r _) (by simp;omega) H1.out (by rw[←H1.out];omega) ((hrl.alloc (Nat.le_refl _) _).more (by simp)) ((hr2.alloc hn0r _).more (by omega)) hRx (by simp) hT H2.out rfl (by rw[←hT,←H2.out];simp;omega)
  rw[arrV_mk,World.size_alloc,show tagV key (tagI key inf k++inf++ [BitVec.ofInt 8 ((k:Int)+1)])=tagI key inf (k+1)from rfl,←hS]at hc
  have HC:=qq hc
  have c1':=hb1.cell
  have c2':=hb2.cell
  have HBx:=qq hb1
  have HBy:=qq hb2
  have HR1:=qq hr1
  have HR2:=qq hr2
  have HLa:=qq hla
  have HJs:=qq hJs
  have Hpre:=qq hpre
  have HSe:=qq hS
  clear hb1 hb2 hr1 hr2 hla hJs hpre hS hx hRx hc hT hrl
  gi_wp2_with fail
  refine⟨trivial,?_⟩
  refine(callsIn_wide.2 HC.out).mono ?_
  rintro e w1 ⟨rfl,hb1⟩
  have hs1:wr.heap.size+1≤w1.heap.size:=by have:=hb1.size;rw[World.size_alloc]at this;exact this
  have HW1:=qq (show Below wr.heap.size wr w1 from((Below.refl _ wr).alloc (Nat.le_refl _) _).trans (hb1.mono (by omega)))
  have HZ1:=qq (Arr.new b8 w1 23 (List.replicate 32 0#8))
  clear hb1 HC c1' c2'
  gi_wp2_with (first
   |(refine wpListIn_store_arr rfl 23 (.tmp 6) (.tmp 15) rfl w1.heap.size rfl S rfl _ _ HZ1.out (by rw[HSl.out];rfl) (by rw[size32,HSl.out]) b8_one' ?_;intro w2 hp2 hg2;have HP2:=qq hp2;have HW2:=qq (show Below wr.heap.size wr w2 from(HW1.out.alloc (by omega) _).grown hg2 (by simp;omega) (fun k e=>by cases e;omega));clear hp2 hg2;obtain⟨fn,tmps,assign,body,hy,hR⟩:=HY.out pre ⟨k+1,by omega,by omega⟩ w2 (HJ.out _ _ _ none HJs.out (grown_none2 HW2.out) (fun r e=>by cases e)) (by have:=congrArg List.length Hpre.out;rw[List.length_map,List.length_range']at this;omega);dsimp only[encT]at hy;rw[←HSe.out,arrV_mk]at hy;have HRn:=qq hR;clear hR)
   |refine wpListIn_load_arr rfl 23 (.tmp 6) rfl w1.heap.size rfl _ S HP2.out _ Tryz.underlying23 rfl (by rw[size32,HSl.out]) ?_)
  have hz2:w1.heap.size<w2.heap.size:=HP2.out.lt
  have HLs:=qq (show(pre++ [(⟨k+1,by omega,by omega⟩:Ti)]).map Subtype.val=List.range' 1 (k+1) by rw[List.map_append,Hpre.out,List.range'_concat];simp;omega)
  refine HRn.out.mono ?_
  rintro e w3 (⟨rfl,hJ3,hk3⟩|⟨rfl,hJx3⟩)
  ·have hz3:=hk3.1.size
   have HJ3:=qq hJ3
   have HA3:=qq (hk3.arr HP2.out (by omega) (by omega))
   have HX3:=qq (hk3.box (boxed_bl HBx.out HW2.out) HBe.out.1 HBe.out.2.1)
   have HY3:=qq (hk3.box (boxed_bl HBy.out HW2.out) HBe.out.2.2.1 HBe.out.2.2.2)
   have hbw:Below n₀ w2 w3:=hk3.1
   have HR13:=qq ((HR1.out.below (HW2.out.mono hn0r)).below hbw)
   have HR23:=qq ((HR2.out.below (HW2.out.mono hn0r)).below hbw)
   clear hJ3 hk3 hbw HJs HBx HBy HR1 HR2 HW2 HP2 HRn HZ1 HW1
   by_cases hk254:k=254
   ·subst hk254
    gi_wp2_with fail
    refine bodyPost_ret (results_none rfl _ _ _) rfl ?_
    exact⟨⟨_,rfl⟩,.inl ⟨_,HLs.out,HJ3.out⟩⟩
   ·have hk255:¬((k:Int)+1=255):=by omega
    have hk3:(k:Int)+1≤254:=by omega
    gi_wp2_with fail
    go_roundw
    case rel=>
     exact⟨k+1,pre++ [⟨k+1,by omega,by omega⟩],by omega,by simp,HLs.out,HJ3.out,.inr ⟨w1.heap.size,rfl,by omega,by omega,HA3.out.cast HSe.out⟩,HX3.out,HY3.out,HR13.out,HR23.out,by omega⟩
    case measure=>simp[intOf];omega
  ·gi_wp2_with fail
   refine bodyPost_ret (results_none rfl _ _ _) rfl ?_
   exact⟨⟨_,rfl⟩,.inr ⟨_,⟨k+1,HLs.out⟩,hJx3⟩⟩
theorem tags_stops(m:Nat)(hm:3≤m)(b1 b2 e1 e2 n₀ n1 c1 n2 c2:Nat)(A1 A2:Option Addr)(key inf:List (BitVec 8))(hn1:n1=key.length)(hn2:n2=inf.length)(hq1:n1≤100000)(hq2:n2≤100000)(w:World)
 (hb1:Boxed w b1 28 (.slice A1 n1 c1))(hb2:Boxed w b2 28 (.slice A2 n2 c2))(hr1:Rd b8 w n₀ A1 key)(hr2:Rd b8 w n₀ A2 inf)(hn₀:n₀≤w.heap.size)
 (he1:n₀≤e1∧e1<w.heap.size)(he2:n₀≤e2∧e2<w.heap.size)(hbe:b1≠e1∧b1≠e2∧b2≠e1∧b2≠e2):
 SeqStopsK Fence.wide m Tryz.prog 141 #[.pointer (some ⟨b1,0,none⟩),.pointer (some ⟨b2,0,none⟩)] (fun x:Ti=>encT key inf x) (KpT n₀ e1 e2) (fun ys=>ys.map Subtype.val=List.range' 1 255) (fun pre=>∃k,pre.map Subtype.val=List.range' 1 k) 255 w:=fun l J Jx W hW hJ _ hY h0=>
 tags1_in m hm l b1 b2 e1 e2 n₀ n1 c1 n2 c2 A1 A2 key inf hn1 hn2 hq1 hq2 J Jx W hJ hY (boxed_bl hb1 hW) (boxed_bl hb2 hW) (hr1.below (hW.mono hn₀)) (hr2.below (hW.mono hn₀)) (Nat.le_trans hn₀ hW.size) ⟨he1.1,Nat.lt_of_lt_of_le he1.2 hW.size⟩ ⟨he2.1,Nat.lt_of_lt_of_le he2.2 hW.size⟩ hbe h0
theorem run_append_fit{P:Program}{w:World}(base:Nat)(t ty e:TypeId)(i:TypeInfo)(ht:P.underlying t=some (.slice e))(hi:P.info? e=some i)(hsize:i.size=1)
 (g L cap:Nat)(xs:List (BitVec 8))(hL:xs.length=L)(hown:Own b8 w base e (.slice (some ⟨g,0,none⟩) L cap) xs)(B:Nat)(ad:Addr)(c:Nat)(ys:List (BitVec 8))(hr:Rd b8 w B (some ad) ys)(hfit:L+ys.length≤cap):
 ∃w',(Builtin.append_ #[t,t] ty #[.slice (some ⟨g,0,none⟩) L cap,.slice (some ad) ys.length c]).run P w= .ok (.slice (some ⟨g,0,none⟩) (L+ys.length) cap) w'∧Own b8 w' base e (.slice (some ⟨g,0,none⟩) (L+ys.length) cap) (xs++ys)∧w.grownBy w' (some g):=by
 subst hL
 have hcells:=hr.cells rfl
 have h1:∀u∈ys.map b8,u.oneCell'=true:=by intro u hu;obtain⟨x,_,rfl⟩:=List.mem_map.1 hu;exact b8_one x
 obtain⟨w',hrun,ho,hgr⟩:=run_append_fits (P:=P) w base t ty e i 1 ht hi hsize g xs.length cap (xs.map b8) hown ad ys.length c (ys.map b8) (by simp) hcells h1 hfit
 exact⟨w',hrun,by unfold Own;rw[List.length_append,List.map_append];exact ho,hgr⟩
theorem step_append_fit{P:Program}{w:World}{ops:Array Oper}{o:Oper}{a:Act}{K:Act→World→Prop}{Q:Exit→Act→World→Prop}{F:Prop}(hgd:o.guard=none)(s x:Operand)(t:TypeId)
 (ho:o.op= .call {callee:= .builtin .append,args:= #[s,x],argTypes:= #[t,t]})
 (base:Nat)(e:TypeId)(i:TypeInfo)(ht:P.underlying t=some (.slice e))(hi:P.info? e=some i)(hsize:i.size=1)
 (g L cap:Nat)(xs:List (BitVec 8))(hL:xs.length=L)(hs:a.eval s= .slice (some ⟨g,0,none⟩) L cap)(hown:Own b8 w base e (.slice (some ⟨g,0,none⟩) L cap) xs)
 (B:Nat)(ad:Addr)(m c:Nat)(ys:List (BitVec 8))(hx:a.eval x= .slice (some ad) m c)(hm:m=ys.length)(hr:Rd b8 w B (some ad) ys)(hfit:L+m≤cap)
 (h:∀w',Own b8 w' base e (.slice (some ⟨g,0,none⟩) (L+m) cap) (xs++ys)→w.grownBy w' (some g)→K (a.put o.dst (.slice (some ⟨g,0,none⟩) (L+m) cap)) w'):
 if Region.wanted o (yielded ops a.tmps)=true then Oper.wp P o a w K Q else F:=by
 have hw:Region.wanted o (yielded ops a.tmps)=true:=by simp[Region.wanted,hgd]
 rw[if_pos hw]
 subst hm
 obtain⟨w',hrun,h2,h3⟩:=run_append_fit (P:=P) base t o.type e i ht hi hsize g L cap xs hL hown B ad c ys hr hfit
 unfold Oper.wp execOp
 simp only[ho,resolve,invoke,builtin,Sem.run_bind,Sem.run_pure,Result.andThen_ok,List.map_toArray,List.map_cons,List.map_nil,hs,hx,hrun]
 exact h w' h2 h3
def stillB(md:Region.Mode)(ops:Array Oper):Nat→List Nat→Array Bool→Bool
 |0,R,_=>R.isEmpty
 |f+1,R,L=>R.isEmpty||(decide (Region.ready md ops L=R)&&R.all fun j=>stillB md ops f (R.erase j) (L.setIfInBounds j true))
def asideB(ops:Array Oper)(R:List Nat):Bool:=R.all fun i=>R.all fun j=>i==j||match ops[i]?,ops[j]? with
 |some x,some y=>x.apart ops y
 |_,_=>false
def putR(ops:Array Oper)(V:Nat→Value)(R:List Nat)(a:Act):Act:=R.foldl (fun a j=>match ops[j]? with|some o=>a.put o.dst (V j)|none=>a) a
def listR(R:List Nat)(L:Array Bool):Array Bool:=R.foldl (fun L j=>L.setIfInBounds j true) L
section
variable{P:Program}{ops:Array Oper}{md:Region.Mode}{Q:Exit→Act→World→Prop}{S:World→Prop}
theorem asideB_spec{R:List Nat}(h:asideB ops R=true){i j:Nat}(hi:i∈R)(hj:j∈R)(hne:i≠j){x y:Oper}(hx:ops[i]?=some x)(hy:ops[j]?=some y):x.apart ops y=true:=by
 have:=List.all_eq_true.1 (List.all_eq_true.1 h i hi) j hj
 rw[hx,hy]at this
 simpa[hne]using this
theorem putR_cons{V:Nat→Value}{R:List Nat}(h:asideB ops R=true){j:Nat}(hj:j∈R){o:Oper}(ho:ops[j]?=some o)(a:Act):putR ops V (R.erase j) (a.put o.dst (V j))=putR ops V R a:=by
 unfold putR
 rw[List.Perm.foldl_eq' (List.perm_cons_erase hj) (fun x hx y hy z=>?_) a,List.foldl_cons,ho]
 by_cases hxy:x=y
 ·subst hxy;rfl
 ·cases ex:ops[x]? with
  |none=>rfl
  |some ox=>
   cases ey:ops[y]? with
   |none=>rfl
   |some oy=>
    have h1:=(Oper.apart_spec (asideB_spec h hx hy hxy ex ey)).2.1
    exact Act.put_comm z (V x) (V y) h1
theorem listR_cons{R:List Nat}{j:Nat}(hj:j∈R)(L:Array Bool):listR (R.erase j) (L.setIfInBounds j true)=listR R L:=by
 unfold listR
 rw[List.Perm.foldl_eq' (List.perm_cons_erase hj) (fun x _ y _ z=>?_) L,List.foldl_cons]
 by_cases hxy:x=y
 ·subst hxy;rfl
 ·exact(Array.setIfInBounds_comm _ _ hxy).symm▸rfl
theorem wpAnyH_still(V:Nat→Value){n:Nat}{w:World}(hS:S w)(hsel:Region.noSelect ops=true):∀(f:Nat) (R:List Nat) (L:Array Bool) (a:Act),R.Nodup→stillB md ops f R L=true→asideB ops R=true→
 (∀j∈R,∃o,ops[j]?=some o∧YieldsIf P ops (fun w'=>w'=w) o (V j) a)→wpAnyH P md ops Q S n (listR R L) (putR ops V R a) w→wpAnyH P md ops Q S (n+R.length) L a w
 |0,R,L,a,_,hb,_,_,h=>by
  obtain rfl:R=[]:=List.isEmpty_iff.1 hb
  exact h
 |f+1,R,L,a,hnd,hb,hap,hy,h=>by
  by_cases hR:R=[]
  ·subst hR;exact h
  ·have hb':R.isEmpty=false:=by cases R with
    |nil=>exact absurd rfl hR
    |cons _ _=>rfl
   unfold stillB at hb
   rw[hb',Bool.false_or,Bool.and_eq_true,decide_eq_true_eq]at hb
   obtain⟨hr,hall⟩:=hb
   obtain⟨m,hm⟩:∃m,R.length=m+1:=⟨R.length-1,by have:=List.length_pos_iff.2 hR;omega⟩
   rw[hm]
   show wpAnyH P md ops Q S ((n+m)+1) L a w
   refine wpAnyH_all hr hR fun j hj=>?_
   obtain⟨o,ho,hyj⟩:=hy j hj
   refine hyj.wpOp ho rfl ⟨hS,?_⟩
   have hlen:(R.erase j).length=m:=by rw[List.length_erase_of_mem hj,hm];rfl
   rw[←hlen]
   refine wpAnyH_still V hS hsel f (R.erase j) _ _ (hnd.erase j) (List.all_eq_true.1 hall j hj) ?_ ?_ ?_
   ·refine List.all_eq_true.2 fun x hx=>List.all_eq_true.2 fun y hy'=>?_
    exact List.all_eq_true.1 (List.all_eq_true.1 hap x (List.mem_of_mem_erase hx)) y (List.mem_of_mem_erase hy')
   ·intro k hk
    obtain⟨hkj,hkR⟩:=hnd.mem_erase_iff.1 hk
    obtain⟨ok,hok,hyk⟩:=hy k hkR
    have h3:=(Oper.apart_spec (asideB_spec hap hkR hj hkj hok ho)).2.2
    exact⟨ok,hok,hyk.of_same (execOp_put ok (fun cs b=>Region.noSelect_spec hsel k ok cs b hok) a o.dst (V j) h3) (wanted_put ok a o.dst (V j) h3)⟩
   ·rw[listR_cons hj,putR_cons hap hj ho];exact h
theorem wpAnyH_still4{i j k l n:Nat}{oi oj ok ol:Oper}{vi vj vk vl:Value}{L:Array Bool}{a:Act}{w:World}(hoi:ops[i]?=some oi)(hoj:ops[j]?=some oj)(hok:ops[k]?=some ok)(hol:ops[l]?=some ol)(hsel:Region.noSelect ops=true)
 (hnd:decide ([i,j,k,l].Nodup)=true)(hb:stillB md ops 4 [i,j,k,l] L=true)(hap:asideB ops [i,j,k,l]=true)(hS:S w)
 (yi:YieldsIf P ops (fun w'=>w'=w) oi vi a)(yj:YieldsIf P ops (fun w'=>w'=w) oj vj a)(yk:YieldsIf P ops (fun w'=>w'=w) ok vk a)(yl:YieldsIf P ops (fun w'=>w'=w) ol vl a)
 (h:wpAnyH P md ops Q S n ((((L.setIfInBounds i true).setIfInBounds j true).setIfInBounds k true).setIfInBounds l true) ((((a.put oi.dst vi).put oj.dst vj).put ok.dst vk).put ol.dst vl) w):wpAnyH P md ops Q S (n+4) L a w:=by
 have hnd':=of_decide_eq_true hnd
 simp only[List.nodup_cons,List.mem_cons,List.not_mem_nil,or_false,not_or,not_false_eq_true,List.nodup_nil,and_true]at hnd'
 obtain⟨⟨n1,n2,n3⟩,⟨n4,n5⟩,n6⟩:=hnd'
 refine wpAnyH_still (fun x=>if x=i then vi else if x=j then vj else if x=k then vk else vl) hS hsel 4 [i,j,k,l] L a (of_decide_eq_true hnd) hb hap ?_ ?_
 ·intro x hx
  simp only[List.mem_cons,List.not_mem_nil,or_false]at hx
  rcases hx with rfl|rfl|rfl|rfl
  ·exact⟨oi,hoi,by rw[if_pos rfl];exact yi⟩
  ·exact⟨oj,hoj,by rw[if_neg (Ne.symm n1),if_pos rfl];exact yj⟩
  ·exact⟨ok,hok,by rw[if_neg (Ne.symm n2),if_neg (Ne.symm n4),if_pos rfl];exact yk⟩
  ·exact⟨ol,hol,by rw[if_neg (Ne.symm n3),if_neg (Ne.symm n5),if_neg (Ne.symm n6)];exact yl⟩
 ·simp only[listR,putR,List.foldl_cons,List.foldl_nil,hoi,hoj,hok,hol]
  rw[if_pos trivial,if_neg (Ne.symm n1),if_pos trivial,if_neg (Ne.symm n2),if_neg (Ne.symm n4),if_pos trivial,if_neg (Ne.symm n3),if_neg (Ne.symm n5),if_neg (Ne.symm n6)]
  exact h
end
end Go.Proofs.YtelgjaiknaalkaaGreatDoor
