/- Lemmas, joined and made smaller by a program. -/
import Derived.Test.YtelgjaiknaalkaaDoorPo26
import Derived.Test.YtelgjaiknaalkaaDoorPo06
import Derived.RangeFuncNested
import Derived.RangeFuncBound
import Derived.RangeFuncLeaves
import Derived.RangeFuncBox
import Derived.Shelf.Abstract
import Derived.Shelf.RegionOpen
import Derived.OwnWalkIn
import Derived.TacticsInMore
import Derived.LoopNIn
import Derived.LoopIn
open Go.Lib renaming hid → qq
set_option linter.unusedVariables false
set_option linter.unusedSimpArgs false
namespace Go.Proofs.YtelgjaiknaalkaaDoor
open Go.RowKit
attribute [local go_sem] Oper.semAt_some
theorem pieces_any(key:List (BitVec 8))(A:Option Addr)(n c:Nat)(number:Int)(w:World):
 Calls Tryd.prog 42 #[arrV b8 key,.slice A n c,.int .i64 number] w fun e w'=>e= .returned (.func (.func 59) #[] #[.pointer (some ⟨w.heap.size+2,0,none⟩),.pointer (some ⟨w.heap.size,0,none⟩),.pointer (some ⟨w.heap.size+1,0,none⟩)])∧
  w'=((w.alloc (.cells (key.map b8).toArray 54)).alloc (.cells #[.slice A n c] 33)).alloc (.cells #[.int .i64 number] 3):=by
 rw[arrV_mk]
 go_enter Tryd.func42,Tryd.ntmps42
 go_wp2_with fail
 go_ret
 exact⟨rfl,rfl⟩
abbrev Pc:={x:Int×List (BitVec 8)//0≤x.1∧x.1≤4294967295∧x.2.length=64}
def encP(x:Pc):Array Value:= #[.int .i64 x.1.1,.agg (x.1.2.map b8).toArray]
def itemP(key nonce:List (BitVec 8))(number:Int)(i:Nat):Int×List (BitVec 8):=(number+i,pieceL key nonce (BitVec.ofInt 32 (number+i)))
def itemsTo(key nonce:List (BitVec 8))(number:Int)(k:Nat):List (Int×List (BitVec 8)):=(List.range k).map (itemP key nonce number)
theorem itemsTo_succ(key nonce:List (BitVec 8))(number:Int)(k:Nat):itemsTo key nonce number (k+1)=itemsTo key nonce number k++ [itemP key nonce number k]:=by simp[itemsTo,List.range_succ]
theorem itemsTo_len(key nonce:List (BitVec 8))(number:Int)(k:Nat):(itemsTo key nonce number k).length=k:=by simp[itemsTo]
def countP(n:Nat)(number:Int):Nat:=if badP n number=0 then(4294967296-number).toNat else 0
def KpQ(n₀ bk bn:Nat)(A B:World):Prop:=Below n₀ A B∧B.heap[bk]?=A.heap[bk]?∧B.heap[bn]?=A.heap[bn]?
theorem KpQ.t{n₀ bk bn:Nat}{A B C:World}(h:KpQ n₀ bk bn A B)(k:KpQ n₀ bk bn B C):KpQ n₀ bk bn A C:=⟨h.1.trans k.1,k.2.1.trans h.2.1,k.2.2.trans h.2.2⟩
theorem grown_none'{w w':World}(hb:Below w.heap.size w w'):w.grownBy w' none:=⟨hb.os,hb.tape,hb.output,hb.size,fun k hk _=>hb.block k hk⟩
theorem boxed_b{w w':World}{B:Nat}{t:TypeId}{v:Value}(h:Boxed w B t v)(hb:Below w.heap.size w w'):Boxed w' B t v:=(hb.block B h.lt).trans h
theorem badP_at{n:Nat}{number:Int}{k:Nat}(hz:badP n number=0):badP n (number+k)=if number+k≤4294967295 then 0 else 8:=by
 obtain⟨h12,h0,h1⟩:=badP_zero hz
 split
 ·exact badP_ok h12 (by omega)
 ·exact badP_num h12 (.inr (by omega))
theorem info64''{xs:List (BitVec 8)}(h:xs.length=64):(Tryd.prog.info? 99).map (·.size)=some xs.length:=by rw[h];kernel_rfl
theorem infoKey'{xs:List (BitVec 8)}(h:xs.length=32):(Tryd.prog.info? 54).map (·.size)=some xs.length:=by rw[h];kernel_rfl
set_option maxRecDepth 100000 in
set_option maxHeartbeats 1000000 in
theorem pieces1_in(m:Nat)(hm:3≤m)(key:List (BitVec 8))(A:Option Addr)(n c:Nat)(nonce:List (BitVec 8))(number:Int)(l bi bk bn n₀:Nat)(hk:key.length=32)(hn:nonce.length=n)(hnc:n≤c)(hq1: -9223372036854775808≤number)(hq2:number<9223372036854775808)(J Jx:List Pc→World→Prop)(W:World)(hJ:AbidesFrom W.heap.size J)
 (hY:∀pre y W1,J pre W1→pre.length<countP n number→YieldAt Fence.wide (m-1) Tryd.prog l (encP y) W1 fun e W'=>
  (e= .returned (.bool true)∧J (pre++ [y]) W'∧KpQ n₀ bk bn W1 W')∨(e= .returned (.bool false)∧Jx (pre++ [y]) W'))
 (hbi:W.cell? ⟨bi,0,none⟩=some (.int .i64 number))(hbk:Arr b8 W bk 54 key)(hbn:Boxed W bn 33 (.slice A n c))(hr:Rd b8 W n₀ A nonce)(hn₀:n₀≤W.heap.size)(h0:J [] W):
 CallsIn Fence.wide m Tryd.prog 59 #[.func (.yield l) #[] #[],.pointer (some ⟨bi,0,none⟩),.pointer (some ⟨bk,0,none⟩),.pointer (some ⟨bn,0,none⟩)] W fun e W'=>(∃v,e= .returned v)∧
  ((∃ys:List Pc,ys.map Subtype.val=itemsTo key nonce number (countP n number)∧J ys W')∨(∃pre:List Pc,(∃k,k≤countP n number∧pre.map Subtype.val=itemsTo key nonce number k)∧Jx pre W')):=by
 refine callsIn_of_wp Tryd.func59 rfl trivial ?_ rfl
 simp only[Tryd.ntmps59,List.size_toArray,List.length_cons,List.length_nil,Nat.reduceAdd,Nat.reduceSub,Array.replicate_succ,Array.replicate_zero,List.push_toArray,List.append_toArray,List.nil_append,List.cons_append]
 have HK:=qq hk
 have HN:=qq hn
 have HJ:=qq hJ
 have HY:=qq hY
 have H0:=qq h0
 have HBk:=qq hbk
 have HBn:=qq hbn
 have HR:=qq hr
 have hm1:1≤m:=by omega
 have hm2:1≤m-1:=by omega
 clear hk hn hJ hY h0 hbk hbn hr
 gi_wp2_with fail
 gi_loopw [5] (fun v wr=>∃(k:Nat) (pre:List Pc),v= .int .i64 (number+k)∧k≤countP n number∧pre.map Subtype.val=itemsTo key nonce number k∧J pre wr∧Arr b8 wr bk 54 key∧Boxed wr bn 33 (.slice A n c)∧Rd b8 wr n₀ A nonce∧n₀≤wr.heap.size) (fun v _=>(4294967297-intOf v).toNat)
 case atStart=>exact⟨0,[],by simp,by omega,rfl,H0.out,HBk.out,HBn.out,HR.out,hn₀⟩
 case round=>
  obtain⟨k,pre,rfl,hkc,hpre,hJs,hbk,hbn,hr,hz⟩:=hrel
  obtain⟨N,hN⟩:∃N,N=number+(k:Int):=⟨_,rfl⟩
  rw[←hN]
  obtain⟨bad,hbad⟩:∃bad,bad=badP n N:=⟨_,rfl⟩
  obtain⟨P,hP⟩:∃P,P=pieceV key nonce N:=⟨_,rfl⟩
  have HPl:=qq (show P.length=64 by rw[hP];exact pieceV_len _ _ _)
  have hc:=cpiece_any key A n c n₀ nonce N wr HK.out hr hz HN.out hnc
  rw[←hbad,←hP]at hc
  have cn:=hbn.cell
  have HBk2:=qq hbk
  have HBn2:=qq hbn
  have HR2:=qq hr
  have HJs:=qq hJs
  have Hpre:=qq hpre
  have HNn:=qq hN
  have Hbad:=qq hbad
  have HP:=qq hP
  clear hbk hbn hr hJs hpre hN hbad hP
  by_cases hb0:bad=0
  ·subst hb0
   have hz0:=badP_zero Hbad.out.symm
   obtain⟨h12,g0,g1⟩:=hz0
   subst h12
   have hzn:badP 12 number=0:=by
    by_cases hzn:badP 12 number=0
    ·exact hzn
    ·exfalso
     have hc0:countP 12 number=0:=if_neg hzn
     have hk0:k=0:=by omega
     have e1:=HNn.out
     rw[hk0]at e1
     have e2:=Hbad.out
     rw[e1]at e2
     exact hzn (by simpa using e2.symm)
   have hcount:countP 12 number=(4294967296-number).toNat:=if_pos hzn
   have hkl:k<countP 12 number:=by rw[hcount];have:=HNn.out;omega
   have Hit:=qq (show(N,P)=itemP key nonce number k by
    unfold itemP
    rw[←HNn.out,HP.out]
    unfold pieceV
    rw[HN.out,if_pos Hbad.out.symm])
   have Hkl:=qq hkl
   rw[errV_zero]at hc
   have HC:=qq hc
   clear hc hzn hcount hkl
   gi_wp2_with (refine wpListIn_load_arr rfl 54 _ rfl bk rfl _ key HBk2.out _ Tryd.underlying54 rfl (infoKey' HK.out) ?_)
   refine⟨trivial,?_⟩
   refine(callsIn_wide.2 HC.out).mono ?_
   rintro e w1 ⟨rfl,hb1⟩
   rw[arrV_mk]
   have HZ1:=qq (Arr.new b8 w1 99 (List.replicate 64 0#8))
   have HB1:=qq hb1
   have hs1:=hb1.size
   clear hb1
   gi_wp2_with (first
    |(refine wpListIn_store_arr rfl 99 _ _ rfl w1.heap.size rfl P rfl _ _ HZ1.out (by rw[HPl.out];rfl) (info64'' HPl.out) b8_one' ?_;intro w2 hp2 hg2;have HP2:=qq hp2;have HB2:=qq (show Below wr.heap.size wr w2 from(HB1.out.alloc hs1 _).grown hg2 (by simp;omega) (fun k e=>by cases e;exact hs1));clear hp2 hg2;obtain⟨fn,tmps,assign,body,hy,hR⟩:=HY.out pre ⟨(N,P),g0,g1,HPl.out⟩ w2 (HJ.out _ _ _ none HJs.out (grown_none' HB2.out) (fun r e=>by cases e)) (by have:=congrArg List.length Hpre.out;rw[List.length_map,itemsTo_len]at this;rw[this];exact Hkl.out);dsimp only[encP]at hy;have HRn:=qq hR;clear hR)
    |refine wpListIn_load_arr rfl 99 _ rfl w1.heap.size rfl _ P HP2.out _ Tryd.underlying99 rfl (info64'' HPl.out) ?_)
   refine HRn.out.mono ?_
   rintro e w3 (⟨rfl,hJ3,hk3,hkk,hkn⟩|⟨rfl,hJx3⟩)
   ·have hz3:n₀≤w3.heap.size:=by have:=hk3.size;have:=HB2.out.size;omega
    have hN1:N+1≤4294967296:=by omega
    gi_wp2_with fail
    go_roundw
    case rel=>
     refine⟨k+1,pre++ [⟨(N,P),g0,g1,HPl.out⟩],by rw[HNn.out];congr 1;omega,Hkl.out,?_,hJ3,hkk.trans (HBk2.out.below HB2.out HBk2.out.lt),hkn.trans (boxed_b HBn2.out HB2.out),(HR2.out.below (HB2.out.mono hz)).below hk3,hz3⟩
     rw[itemsTo_succ,List.map_append,Hpre.out,←Hit.out];rfl
    case measure=>simp[intOf];omega
   ·gi_wp2_with fail
    refine bodyPost_ret (results_none rfl _ _ _) rfl ?_
    exact⟨⟨_,rfl⟩,.inr ⟨_,⟨k+1,Hkl.out,by rw[itemsTo_succ,List.map_append,Hpre.out,←Hit.out];rfl⟩,hJx3⟩⟩
  ·have hcount:k=countP n number:=by
    unfold countP at hkc ⊢
    by_cases hzn:badP n number=0
    ·rw[if_pos hzn]at hkc ⊢
     have h1:=Hbad.out
     rw[HNn.out,badP_at hzn]at h1
     obtain⟨-,g0,g1⟩:=badP_zero hzn
     split at h1
     ·exact absurd h1 hb0
     ·omega
    ·rw[if_neg hzn]at hkc ⊢;omega
   have Hcount:=qq hcount
   rw[errV_pos hb0]at hc
   have HC:=qq hc
   clear hc hcount
   gi_wp2_with (refine wpListIn_load_arr rfl 54 _ rfl bk rfl _ key HBk2.out _ Tryd.underlying54 rfl (infoKey' HK.out) ?_)
   refine⟨trivial,?_⟩
   refine(callsIn_wide.2 HC.out).mono ?_
   rintro e w1 ⟨rfl,hb1⟩
   rw[arrV_mk]
   have HZ1:=qq (Arr.new b8 w1 99 (List.replicate 64 0#8))
   have HB1:=qq hb1
   have hs1:=hb1.size
   clear hb1
   gi_wp2_with (refine wpListIn_store_arr rfl 99 _ _ rfl w1.heap.size rfl P rfl _ _ HZ1.out (by rw[HPl.out];rfl) (info64'' HPl.out) b8_one' ?_;intro w2 hp2 hg2;have HP2:=qq hp2;have HB2:=qq (show Below wr.heap.size wr w2 from(HB1.out.alloc hs1 _).grown hg2 (by simp;omega) (fun k e=>by cases e;exact hs1));clear hp2 hg2)
   refine⟨fun _ h=>(by cases h),?_⟩
   gi_wp2_with fail
   refine bodyPost_ret (results_none rfl _ _ _) rfl ?_
   refine⟨⟨_,rfl⟩,.inl ⟨pre,by rw[Hpre.out,←Hcount.out],HJ.out _ _ _ none HJs.out (grown_none' HB2.out) (fun r e=>by cases e)⟩⟩
theorem pieces_stops(m:Nat)(hm:3≤m)(key:List (BitVec 8))(A:Option Addr)(n c:Nat)(nonce:List (BitVec 8))(number:Int)(bi bk bn n₀:Nat)(hk:key.length=32)(hn:nonce.length=n)(hnc:n≤c)(hq1: -9223372036854775808≤number)(hq2:number<9223372036854775808)(w:World)
 (hbi:Boxed w bi 3 (.int .i64 number))(hbk:Arr b8 w bk 54 key)(hbn:Boxed w bn 33 (.slice A n c))(hr:Rd b8 w n₀ A nonce)(hn₀:n₀≤w.heap.size):
 SeqStopsK Fence.wide m Tryd.prog 59 #[.pointer (some ⟨bi,0,none⟩),.pointer (some ⟨bk,0,none⟩),.pointer (some ⟨bn,0,none⟩)] encP (KpQ n₀ bk bn) (fun ys=>ys.map Subtype.val=itemsTo key nonce number (countP n number)) (fun pre=>∃k,k≤countP n number∧pre.map Subtype.val=itemsTo key nonce number k) (countP n number) w:=fun l J Jx W hW hJ _ hY h0=>
 pieces1_in m hm key A n c nonce number l bi bk bn n₀ hk hn hnc hq1 hq2 J Jx W hJ hY ((boxed_b hbi hW).cell) (hbk.below hW hbk.lt) (boxed_b hbn hW) (hr.below (hW.mono hn₀)) (Nat.le_trans hn₀ hW.size) h0
end Go.Proofs.YtelgjaiknaalkaaDoor
