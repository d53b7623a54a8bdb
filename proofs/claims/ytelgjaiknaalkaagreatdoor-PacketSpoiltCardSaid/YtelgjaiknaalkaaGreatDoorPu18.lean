/- Lemmas. -/
import Derived.Test.YtelgjaiknaalkaaGreatDoorPu17
import Derived.Deep.CutBlock
import Derived.Lib.LaidTab
import Derived.Stop.LaidErr
open Go.Proofs.Tryz
open List renaming setIfInBounds_toArray → qj
open List renaming set_cons_zero → qz
open List renaming set_cons_succ → qv
open List renaming replicate → QL, set_append → JR, length_map → QN, length_nil → JE, nil_append → Ji, length_set → Jy
open Nat renaming le_refl → QI
open Go.RowKit.Below renaming refl → QK
set_option linter.unusedVariables false
set_option linter.unusedSimpArgs false
namespace Go.Proofs.YtelgjaiknaalkaaGreatDoor
section
open Go.RowKit
set_option maxRecDepth 100000
theorem qh1(v:BitVec 8):prog.built 23 [(0,b8 v),(1,.int .u8 8)]=some ((v::8#8::QL 30 0#8).map b8).toArray:=by kernel_rfl
theorem qjf{k:Nat}(hk:k<2):prog.built 23 [(0,.int .u8 (k:Int)),(1,.int .u8 8)]=some ((QC k).map b8).toArray:=by
 obtain rfl|rfl:k=0∨k=1:=by omega
 ·exact qh1 0#8
 ·exact qh1 1#8
theorem qo7(a:Int):∃i:Nat,i<5∧wrap64 ((IntKind.u64.wrap a).tmod 5)=(i:Int):=by
 have e:IntKind.u64.wrap a=a % 18446744073709551616:=rfl;rw[e];have h0:0≤a % 18446744073709551616:=Int.emod_nonneg _ (by decide);rw[Int.tmod_eq_emod_of_nonneg h0];generalize a % 18446744073709551616=b at h0;refine⟨(b % 5).toNat,by omega,?_⟩;unfold wrap64;omega
theorem qnb{grp:qf}(h:grp.length=32)(ep fr nu z:Int)(A:Option Addr)(n c:Nat):(qq grp ep fr nu A n c).set 32 (.int .i64 z)=qq grp z fr nu A n c:=by
 unfold qq;rw[JR,if_neg (by simp[h])];simp[h]
theorem qnc{grp:qf}(h:grp.length=32)(ep fr nu z:Int)(A:Option Addr)(n c:Nat):(qq grp ep fr nu A n c).set 33 (.int .i64 z)=qq grp ep z nu A n c:=by
 unfold qq;rw[JR,if_neg (by simp[h])];simp[h]
theorem qnd{grp:qf}(h:grp.length=32)(ep fr nu z:Int)(A:Option Addr)(n c:Nat):(qq grp ep fr nu A n c).set 34 (.int .i64 z)=qq grp ep fr z A n c:=by
 unfold qq;rw[JR,if_neg (by simp[h])];simp[h]
theorem qn6{grp:qf}(h:grp.length=32)(ep fr nu:Int)(A:Option Addr)(n c:Nat)(u:BitVec 8):(qq grp ep fr nu A n c).set 5 (b8 u)=qq (grp.set 5 u) ep fr nu A n c:=by
 unfold qq;rw[JR,if_pos (by simp[h]),List.map_set]
theorem qne{w:World}{B E n:Nat}{v:Value}{xs:qf}(h:Own b8 w B E v xs)(hn:xs.length=n)(h0:0<n):∃g c,v= .slice (some ⟨g,0,none⟩) n c∧n≤c:=by
 rcases h.2 with⟨-,h1⟩|⟨g',cap,cur,h1,-⟩
 ·omega
 ·rw[hn]at h1
  obtain⟨_,c,e,-,-,h2,-⟩:=h.shape' hn;rw[h1]at e;injection e with _ _ e;exact⟨g',cap,h1,by omega⟩
def QAt(wx:World)(gQ:Nat)(q:PM)(N g8 c8:Nat):Prop:=
 q.grp.length=32∧((0≤q.ep∧q.ep≤1)∧(0≤q.fr∧q.fr≤1)∧0≤q.nu∧q.nu≤3)∧q.sl.length=N∧N≤c8∧Blk wx gQ 41 (qq q.grp q.ep q.fr q.nu (some ⟨g8,0,none⟩) N c8)∧Own b8 wx gQ 5 (.slice (some ⟨g8,0,none⟩) N c8) q.sl
theorem QAt.put{w w':World}{gQ N g8 c8:Nat}{q q':PM}(h:QAt w gQ q N g8 c8)(hg:w.grownBy w' (some gQ))(hb:Blk w' gQ 41 (qq q'.grp q'.ep q'.fr q'.nu (some ⟨g8,0,none⟩) N c8))(hgl:q'.grp.length=32)(hbd:(0≤q'.ep∧q'.ep≤1)∧(0≤q'.fr∧q'.fr≤1)∧0≤q'.nu∧q'.nu≤3)(hs:q'.sl=q.sl):QAt w' gQ q' N g8 c8:=by
 obtain⟨-,-,h3,h4,h5,h6⟩:=h;refine⟨hgl,hbd,by rw[hs];exact h3,h4,hb,?_⟩;rw[hs];exact h6.kept hg (.inr (fun e=>h5.not_row (by decide) h6 e.symm))
theorem qoU(a:Int)(N:Nat)(hN:0<N)(hN':N<1000):∃i:Nat,i<N∧wrap64 ((IntKind.u64.wrap a).tmod (N:Int))=(i:Int):=by
 have e:IntKind.u64.wrap a=a % 18446744073709551616:=rfl;rw[e];have h0:0≤a % 18446744073709551616:=Int.emod_nonneg _ (by decide);rw[Int.tmod_eq_emod_of_nonneg h0];generalize a % 18446744073709551616=b at h0;have h1:0≤b % (N:Int):=Int.emod_nonneg _ (by omega);have h2:b % (N:Int)<(N:Int):=Int.emod_lt_of_pos _ (by omega);refine⟨(b % (N:Int)).toNat,by omega,?_⟩;generalize b % (N:Int)=q at h1 h2;unfold wrap64
 omega
theorem qlx(M:BM)(p:PM):(uf M p).es.length=M.es.length:=by
 unfold uf;split
 ·rfl
 ·split
  ·unfold zD
   dsimp only;split
   ·rfl
   ·simp
  ·rfl
theorem qgl{b:BX}{M:BM}(h:b.m=M):b.es.length=M.es.length:=by rw[←h];simp[BX.m]
theorem qn7{x:RX}{M:BM}(h:x.m=M):x.es.length=M.es.length:=by rw[←h];simp[RX.m]
set_option maxHeartbeats 16000000 in
theorem qcp(wi:Int)(at_:Int)(A:Option Addr)(n c:Nat)(text:qf)(w:World)(hr:Rd b8 w w.heap.size A text)(hn:text.length=n)(hnc:n≤c)(hT:Tab w):
 Calls prog 4 #[.int .i64 wi,.int .i64 at_,.slice A n c] w fun e w'=>e= .returned (.bool true)∧Below w.heap.size w w':=by
 have HR:=qe hr;have HN:=qe hn;have HAl:=qe (qhO w hT);have HTb:=qe (show∀W,Below w.heap.size w W→Tab W from fun W hb=>hT.below hb);have hbase:=hT.lt;clear hr hn hT;by_cases hbig:500<n
 ·have hb':(n:Int)>500:=by omega
  clear hbig;go_enter func4,ntmps4
  go_wp2_with fail
  refine HAl.1.mono ?_;rintro e w2 ⟨rfl,hb2⟩;have HB2:=qe hb2;clear hb2;go_wp2_with fail
  go_ret;exact⟨rfl,HB2.1⟩
 have hb':¬((n:Int)>500):=by omega
 have hn5:n≤500:=by omega
 go_enter func4,ntmps4
 go_wp2_with fail
 refine HAl.1.mono ?_;rintro e w1 ⟨rfl,hb1⟩;have HB1:=qe hb1;have hz1:=hb1.size;clear hb1 HAl;go_wp2_with fail
 refine(qaI _).mono ?_;rintro e w2 ⟨rfl,hA,hk1⟩;have HA:=qe hA;have HK1:=qe hk1;have hz2:=hA.gB_lt;clear hA hk1;go_wp2_with fail
 refine(qaI _).mono ?_;rintro e w3 ⟨rfl,hB,hk2⟩;have hz3:=hB.gB_lt;obtain⟨gA,hgA⟩:∃g,g=w1.heap.size:=⟨_,rfl⟩;obtain⟨gB,hgB⟩:∃g,g=w2.heap.size:=⟨_,rfl⟩;have HT3:=qe (show vH w3 w.heap.size gA gB _ _ from by rw[hgA,hgB];exact vH.fresh HA.1 hB (QI _) (by omega) hk2);have HK3:=qe ((HB1.1.trans (HK1.1.mono HB1.1.size)).trans (hk2.mono (by have:=HK1.1.size;omega)));rw[←hgA,←hgB]
 clear hB hk2 HA HK1 hgA hgB;have hb2:∀w:World,(Instr.build 34 #[]).run prog w= .ok (.agg jd.toArray) w:=fun w=>run_build w _ _ _ (by kernel_rfl)
 go_upto_region 7 with(first
  |(refine jh rfl 34 [] rfl jd.toArray [] rfl qgh ?_)
  |(refine qi rfl 34 (.tmp 9) (.tmp 28) rfl w3.heap.size 0 rfl jd rfl 34 _ [] jd [] (Blk.new w3 _ jd) (by simp) rfl rfl qt (zI rfl) ?_;intro w4 hx4 hg4))
 try simp only[Act.put,qj,qz,qv]
 obtain⟨gX,hgX⟩:∃gX,gX=w3.heap.size:=⟨_,rfl⟩;have hB34:Below w3.heap.size w3 w4:=((QK _ w3).alloc (QI _) (.cells jd.toArray 34)).grown hg4 (by simp) (fun k e=>by cases e;exact QI _);have HS4:=qe (show yv w w4 gA gB gX _ _ yn from⟨HT3.1.below hB34,by rw[hgX];exact hx4.cast (by simp;rfl),qi8 _,(fun j hj=>by simp[RX.foot,j7,yn]at hj),⟨by simp[RX.foot,j7,yn],by have:=HK3.1.size;omega⟩,HK3.1.trans (hB34.mono HK3.1.size)⟩)
 rw[←hgX];clear hgX hB34 hx4 hg4 HT3 HK3 HB1 hb2;go_upto_region 8 with fail
 go_loopw [29] (fun iv wr=>∃(k:Nat) (a b:BX) (x:RX),iv= .int .i64 (k:Int)∧k≤2∧yv w wr gA gB gX a b x∧a.m=bSp 0 k∧b.m=bSp 2 k∧x.m=bSp 2 k) (fun iv _=>2-(intOf iv).toNat)
 case atStart=>exact⟨0,_,_,yn,rfl,by omega,HS4.1,rfl,rfl,rfl⟩
 case round=>
  clear HS4;obtain⟨k,a,b,x,rfl,hk,hS,hma,hmb,hmx⟩:=hrel;have HS:=qe hS;have HMa:=qe hma;have HMb:=qe hmb;have HMx:=qe hmx;clear hS hma hmb hmx;by_cases hlt:k<2
  ·
   have lk:(k:Int)<2:=by omega
   have k8:IntKind.u8.wrap (k:Int)=(k:Int):=by show(k:Int) % 256=k;omega
   have hb6:∀w:World,(Instr.build 23 #[(0,Value.int .u8 6)]).run prog w= .ok (.agg ((exG 6#8).map b8).toArray) w:=fun w=>run_build w _ _ _ (by kernel_rfl)
   obtain⟨S,hS⟩:∃S,S=QC k:=⟨_,rfl⟩;have HBs:=qe (qjf hlt);rw[←hS]at HBs;have HSe:=qe hS;have HSn:=qe (show S.length=32 by rw[hS];exact qhR k);have HZs:=qe (Arr.new b8 wr 23 (QL 32 0#8));clear hS;go_upto_region 11 with(first
    |(refine jh rfl 23 [(0,.tmp 33),(1,.const (.int .u8 8))] rfl (S.map b8).toArray [(0,.int .u8 (k:Int)),(1,.int .u8 8)] rfl HBs.1 ?_)
    |(refine qk rfl 23 (.tmp 11) (.tmp 34) rfl wr.heap.size rfl S rfl _ _ HZs.1 (by rw[HSn.1];rfl) (by rw[qR,HSn.1]) qU ?_;intro w5 hx5 hg5))
   have HK5:=qe (show Below wr.heap.size wr w5 from((QK _ wr).alloc (QI _) (.cells ((QL 32 0#8).map b8).toArray 23)).grown hg5 (by simp) (fun k e=>by cases e;exact QI _));have HS5:=qe (HS.1.below HK5.1);have HA5:=qe hx5;clear hx5 hg5 HZs;obtain⟨gs,hgs⟩:∃g,g=wr.heap.size:=⟨_,rfl⟩;rw[←hgs]at HA5 ⊢;have HGs:=qe hgs;clear hgs;have e1:=qaN HS5.1.two.l (by rw[qgl HMa.1];have:=qdw (lf:=0) (E:=k) (by omega);omega) (HTb.1 _ HS5.1.bl) hbase (exG 6#8) S (zl _) HSn.1 (k:Int) 4 0 (by decide) (by decide)
   have m1:=qfi (lf:=0) hlt (by decide);rw[HMa.1]at e1;rw[show((0:Nat):Int)=0 from rfl,←HSe.1]at m1;rw[m1.1,m1.2,qW,qn,qn]at e1;have HE1:=qe e1;clear e1 m1;go_wp2_with (refine qm rfl 23 (.tmp 11) rfl gs rfl _ S HA5.1 _ underlying23 rfl (by rw[qR,HSn.1]) ?_)
   refine HE1.1.mono ?_;rintro e w6 ⟨rfl,a6,hm6,hs6⟩;have HS6:=qe (HS5.1.left hs6);have HMa6:=qe hm6;have HA6:=qe (show Arr b8 w6 gs 23 S from(hs6.frm.block gs HA5.1.lt (fun hm=>by have:=(HS.1.two.l.foot_lt _ hm).2;have:=HGs.1;omega)).trans HA5.1);clear hm6 hs6 HE1;have e1:=qaN HS6.1.two.r (by rw[qgl HMb.1];have:=qdw (lf:=2) (E:=k) (by omega);omega) (HTb.1 _ HS6.1.bl) hbase (exG 6#8) S (zl _) HSn.1 (k:Int) 4 2 (by decide) (by decide)
   have m1:=qfi (lf:=2) hlt (by decide);rw[HMb.1]at e1;rw[show((2:Nat):Int)=2 from rfl,←HSe.1]at m1;rw[m1.1,m1.2,qW,qn,qn]at e1;have HE2:=qe e1;have Hm1:=qe m1;clear e1 m1;go_wp2_with (refine jA (by first|rfl|go_simp) 23 (.tmp 11) rfl gs 0 rfl (S.map b8) _ HA6.1.whole underlying23 rfl (by rw[QN,HSn.1];exact qR) ?_)
   refine HE2.1.mono ?_;rintro e w7 ⟨rfl,b7,hm7,hs7⟩;have HS7:=qe (HS6.1.right hs7);have HMb7:=qe hm7;have HA7:=qe (show Arr b8 w7 gs 23 S from(hs7.frm.block gs HA6.1.lt (fun hm=>by have:=(HS.1.two.r.foot_lt _ hm).2;have:=HGs.1;omega)).trans HA6.1);clear hm7 hs7 HE2;obtain⟨Cx,hCx⟩:∃Cx,Cx=x.cells:=⟨_,rfl⟩;have HCx:=qe hCx;have HCl:=qe (show Cx.length=34 by rw[hCx];exact j8 HS.1.rx.glen)
   have HRb7:=qe (show Blk w7 gX 34 Cx by rw[hCx];exact HS7.1.rb);have re:=qgj w7 x HS7.1.rx (by rw[qn7 HMx.1];have:=qdw (lf:=2) (E:=k) (by omega);omega) (exG 6#8) S (zl _) HSn.1 (k:Int) 4 2;rw[qn,qn,HMx.1,Hm1.1.1,Hm1.1.2,←hCx]at re;have HRe:=qe re;clear re hCx;go_wp2_with (first
    |(refine wpList_load_mid rfl 34 (.tmp 9) rfl gX 0 rfl Cx _ HRb7.1.whole underlying34 rfl (by rw[HCl.1];exact qt) ?_)
    |(refine qm rfl 23 (.tmp 11) rfl gs rfl _ S HA7.1 _ underlying23 rfl (by rw[qR,HSn.1]) ?_))
   refine HRe.1.mono ?_;rintro e w8 ⟨y,rfl,hym,hyA,hyf,hb8⟩;obtain⟨Cy,hCy⟩:∃Cy,Cy=y.cells:=⟨_,rfl⟩;have HCy:=qe hCy;have HCyl:=qe (show Cy.length=34 by rw[hCy];exact j8 hyA.glen);have HCy1:=qe (show∀u∈Cy,u.oneCell'=true by rw[hCy];exact zI rfl);rw[←hCy];have HYm:=qe hym;have HYA:=qe hyA;have HYf:=qe hyf;have HB8:=qe hb8;have HRb8:=qe (HRb7.1.below hb8 HRb7.1.lt)
   clear hCy hym hyA hyf hb8 HRe;go_wp2_with (refine qi rfl 34 (.tmp 9) (.tmp 55) rfl gX 0 rfl Cy rfl 34 _ [] Cx [] HRb8.1 (by simp) rfl (by rw[HCyl.1,HCl.1]) (by rw[HCyl.1];exact qt) HCy1.1 ?_;intro w9 hx9 hg9)
   have HS9:=qe (HS7.1.ref HYA.1 HYf.1 HB8.1 hg9 (by rw[←HCy.1];exact hx9.cast (by simp)));clear hx9 hg9;go_roundw
   case rel=>exact⟨k+1,a6,b7,y,by go_num,by omega,HS9.1,HMa6.1,HMb7.1,HYm.1⟩
   case measure=>simp[intOf]<;>omega
  ·obtain rfl:k=2:=by omega
   have lk:¬(((2:Nat):Int)<2):=by decide
   rw[show(((2:Nat)):Int)=2 from rfl];obtain⟨P,hP⟩:∃P,P=pSp text:=⟨_,rfl⟩;obtain⟨N,hN⟩:∃N,N=n+16:=⟨_,rfl⟩;have htl:text.length≤500:=by rw[HN.1];exact hn5
   have HPl:=qe (show P.sl.length=N by rw[hP,hN,←HN.1];exact qgi htl);have HPg:=qe (show P.grp.length=32 by rw[hP];exact zl _);have HPe:=qe (show P.grp=exG 6#8∧P.ep=1∧P.fr=0∧P.nu=0 by rw[hP];exact⟨rfl,rfl,rfl,rfl⟩);have s1:=qfh (w:=wr) HS.1.two.l A n c w.heap.size text (HR.1.below HS.1.bl) HS.1.bl.size (fun hne bt off e hm=>by
    obtain⟨b9,o9,e9,h9,-⟩:=HR.1 (List.length_pos_iff.2 hne);rw[e]at e9;injection e9 with e9;injection e9 with e9 _ _
    have:=(HS.1.two.l.foot_lt _ (BX.efoot_sub _ _ _ hm)).1;omega) HN.1 (P:=P) (by rw[HMa.1,hP];exact(qhS htl).2.symm)
   rw[HMa.1,show ud (bSp 0 2) n=0 from by rw[←HN.1];exact(qhS htl).1,qW]at s1;have HS1:=qe s1;have HP:=qe hP;have hN0:0<N:=by omega
   have hN6:N≤516:=by omega
   have hzr:=HS.1.bl.size;clear s1 hP hN htl;go_wp2_with fail
   refine HS1.1.mono ?_;rintro e w5 ⟨A',n',c',rfl,hOw,a5,-,hs5,hn5'⟩;obtain⟨A5,c5,e5,hr5,-,hc5,-⟩:=hOw.shape' HPl.1;injection e5 with e4 e5 e6;subst e4;subst e5;have HS5:=qe (HS.1.left hs5);have hcc:n'≤c':=by rw[e6];exact hc5
   have HR5:=qe hOw.rd;have HAb:=qe (show∀bt o,A'=some ⟨bt,o,none⟩→bt<w5.heap.size∧bt∉BX.foot gB b∧wr.heap.size≤bt from fun bt o e=>⟨(hOw.lt bt (by rw[e];rfl)).2,fun hm=>by have:=(HS.1.two.r.foot_lt _ hm).2;have:=(hOw.lt bt (by rw[e];rfl)).1;omega,(hOw.lt bt (by rw[e];rfl)).1⟩);have hz5:=hs5.frm.size;obtain⟨C,hC⟩:∃C,C=qq P.grp P.ep P.fr P.nu A' n' c':=⟨_,rfl⟩;have HCl:=qe (show C.length=36 by rw[hC];exact j1 HPg.1 _ _ _ _ _ _)
   have HC1:=qe (show∀u∈C,u.oneCell'=true by rw[hC];exact yg _ _ _ _ _ _ _);have HC:=qe hC;rw[←hC];have HZ5:=qe (show Blk (w5.alloc (.cells pkZ.toArray 41)) w5.heap.size 41 pkZ from Blk.new _ _ _);clear hOw hr5 e6 hc5 hs5 hn5' hC HS1;go_upto_region 16 with(refine qi rfl 41 (.tmp 12) (.tmp 62) rfl w5.heap.size 0 rfl C rfl 41 _ [] pkZ [] HZ5.1 (by simp) rfl (by rw[HCl.1];rfl) (by rw[HCl.1];exact jC) HC1.1 ?_;intro w6 hx6 hg6)
   have hb6:Below w5.heap.size w5 w6:=((QK _ w5).alloc (QI _) (.cells pkZ.toArray 41)).grown hg6 (by simp) (fun k e=>by cases e;exact QI _);obtain⟨gP,hgP⟩:∃g,g=w5.heap.size:=⟨_,rfl⟩;have HP6:=qe (show Blk w6 gP 41 C from by rw[hgP];exact hx6.cast (by simp));have HB6:=qe hb6;have hz6:=hb6.size;have HZ6:=qe (show Blk (w6.alloc (.cells pkZ.toArray 41)) w6.heap.size 41 pkZ from Blk.new _ _ _)
   rw[←hgP];have hgP6:gP<w6.heap.size:=HP6.1.lt;have hgP5:w5.heap.size≤gP:=by omega
   clear hx6 hg6 hb6 HZ5 hgP;go_upto_region 19 with(first
    |(refine wpList_load_mid rfl 41 (.tmp 12) rfl gP 0 rfl C _ HP6.1.whole underlying41 rfl (by rw[HCl.1];exact jC) ?_)
    |(refine qi rfl 41 (.tmp 14) (.tmp 66) rfl w6.heap.size 0 rfl C rfl 41 _ [] pkZ [] HZ6.1 (by simp) rfl (by rw[HCl.1];rfl) (by rw[HCl.1];exact jC) HC1.1 ?_;intro w7 hx7 hg7))
   have hb7:Below w6.heap.size w6 w7:=((QK _ w6).alloc (QI _) (.cells pkZ.toArray 41)).grown hg7 (by simp) (fun k e=>by cases e;exact QI _);obtain⟨gQ,hgQ⟩:∃g,g=w6.heap.size:=⟨_,rfl⟩;have HQ7:=qe (show Blk w7 gQ 41 C from by rw[hgQ];exact hx7.cast (by simp));have HP7:=qe (HP6.1.below hb7 HP6.1.lt);have HB7:=qe (HB6.1.trans (hb7.mono (by omega)));have hz7:=hb7.size
   have hgPQ:gP<gQ:=by omega
   rw[←hgQ];have hgQ7:gQ<w7.heap.size:=HQ7.1.lt;have hgQ6:w6.heap.size≤gQ:=by omega
   clear hgQ hx7 hg7 hb7 HZ6 HP6 HB6;obtain⟨i0,hi0,hz0,hz1',hz2'⟩:=info_parts jN;obtain⟨w8,hw8⟩:∃w8,w8=w7.alloc (.cells #[] 5):=⟨_,rfl⟩;have hb8:Below w7.heap.size w7 w8:=by rw[hw8];exact(QK _ w7).alloc (QI _) _
   have HO8:=qe (show Own b8 w8 w7.heap.size 5 (.slice (some ⟨w7.heap.size,0,none⟩) 0 0) [] by
    rw[hw8];have:=Own.lit b8 w7 w7.heap.size 5 [] (QI _) (by simp[maxLen]);simpa using this)
   have HP8:=qe (HP7.1.below hb8 HP7.1.lt);have HQ8:=qe (HQ7.1.below hb8 HQ7.1.lt);have HB8:=qe (HB7.1.trans (hb8.mono (by omega)));have hz8:=hb8.size;have HR8:=qe (show Rd b8 w8 w5.heap.size A' P.sl from HR5.1.below HB8.1);have c35:w8.cell? ⟨gP,35,none⟩=some (.slice A' n' c'):=qZ.c35 (show qZ w8 gP P.grp P.ep P.fr P.nu A' n' c' from HP8.1.cast HC.1) HPg.1;have c35a:(w7.alloc (.cells #[] 5)).cell? ⟨gP,35,none⟩=some (.slice A' n' c'):=by rw[←hw8];exact c35
   have HW8:=qe hw8;clear hw8 hb8 HP7 HQ7 HB7;go_upto_region 20 with(at_builtin;rw[←HW8.1];refine qh rfl _ _ 28 rfl qH w7.heap.size 5 i0 _ 1 underlying28 hi0 hz0 hz1' hz2' rfl _ [] rfl HO8.1 w5.heap.size A' n' c' P.sl rfl HPl.1.symm HR8.1 (by rw[HPl.1];simp only[maxLen,JE];omega) (by rw[HPl.1];simp only[JE];omega) (by omega) ?_;intro v9 w9 hown9 hg9 hbb9;obtain⟨g8,c8,rfl,hnc8⟩:=qne hown9 (by rw[Ji];exact HPl.1) hN0;obtain⟨f9,q9⟩:w9.frozen? ⟨gQ,35,none⟩=false∧w9.cell? ⟨gQ,35,none⟩=some (.slice A' n' c'):=⟨(HQ8.1.below (hbb9 w7.heap.size w8 (QI _) (QK _ _)) hgQ7).frozen 35,qZ.c35 (show qZ w9 gQ P.grp P.ep P.fr P.nu A' n' c' from(HQ8.1.below (hbb9 w7.heap.size w8 (QI _) (QK _ _)) hgQ7).cast HC.1) HPg.1⟩)
   have hbw:=hbb9 w7.heap.size w8 (QI _) (QK _ _);have hO9:Own b8 w9 w7.heap.size 5 (.slice (some ⟨g8,0,none⟩) n' c8) P.sl:=by have h:=hown9;rwa[Ji]at h
   have hg8:=hO9.lt g8 rfl;have HB9:=qe (HB8.1.trans (hbw.mono (by omega)));have HP9:=qe (HP8.1.below hbw (by omega));have HQ9:=qe (HQ8.1.below hbw (by omega));have hz9:=hbw.size;have HO9:=qe hO9;clear hown9 hg9 hbb9 hbw hO9 HP8 HQ8 HB8 HR8 HO8 HW8 c35 c35a f9 q9;obtain⟨w10,hw10⟩:∃w10,w10=w9.setCell ⟨gQ,35,none⟩ (.slice (some ⟨g8,0,none⟩) n' c8):=⟨_,rfl⟩;have hg10:w9.grownBy w10 (some gQ):=by rw[hw10];exact qM _ _ _ _
   have HQ10:=qe (show QAt w10 gQ P n' g8 c8 from⟨HPg.1,by rw[HPe.1.2.1,HPe.1.2.2.1,HPe.1.2.2.2];decide,HPl.1,hnc8,by rw[hw10];exact(HQ9.1.set_ 35 _).cast (by rw[HC.1];exact qfd HPg.1 _ _ _ _ _ _ _ _ _),(HO9.1.kept hg10 (.inr (fun e=>by injection e with e;have:g8=gQ:=e;omega))).less (by omega)⟩);have HP10:=qe (HP9.1.grown hg10 (fun e=>by injection e with e;omega));have HB10:=qe (HB9.1.grown hg10 (by omega) (fun k e=>by cases e;omega))
   have hz10:=hg10.size;have hgQ5:w5.heap.size<gQ:=by omega
   have hg8Q:gQ<g8:=by omega
   have hg8w:g8<w10.heap.size:=by omega
   rw[←hw10];clear hw10 hg10 HP9 HQ9 HB9 HO9;obtain⟨i5,hi5,hw5i⟩:=qo7 wi;have HI5:=qe hw5i;clear hw5i
   go_upto_block 2 with fail
   rw[HI5.1];go_cut [6]from 76 to 106 (fun v6 wx=>∃q:PM,QAt wx gQ q n' g8 c8∧Below w5.heap.size w5 wx∧Blk wx gP 41 C∧w10.heap.size≤wx.heap.size)
   case first=>
    obtain⟨gl,bd,sl,nc,blk,ow⟩:=HQ10.1;have fr:=fun k=>blk.frozen k
    obtain⟨k32,k33,k34,k35,-⟩:=qZ.all5 (show qZ w10 gQ P.grp P.ep P.fr P.nu (some ⟨g8,0,none⟩) n' c8 from blk) gl;have HBk:=qe blk;have HOw:=qe ow;clear blk ow;obtain rfl|rfl|rfl|rfl|rfl:i5=0∨i5=1∨i5=2∨i5=3∨i5=4:=by omega
    ·have f0:=fr 32
     clear fr;go_wp2_with fail
     go_meet
     case rel=>
      have hg:=qM w10 gQ 32 (.int .i64 0);exact⟨⟨P.grp,0,P.fr,P.nu,P.sl⟩,HQ10.1.put hg ((HBk.1.set_ 32 _).cast (qnb gl _ _ _ _ _ _ _)) gl ⟨(by decide:(0:Int)≤0∧(0:Int)≤1),bd.2.1,bd.2.2⟩ rfl,HB10.1.grown hg (by omega) (fun k e=>by cases e;omega),HP10.1.grown hg (fun e=>by injection e with e;omega),hg.size⟩
    ·have f0:=fr 33
     clear fr;go_wp2_with fail
     go_meet
     case rel=>
      have hg:=qM w10 gQ 33 (.int .i64 1);exact⟨⟨P.grp,P.ep,1,P.nu,P.sl⟩,HQ10.1.put hg ((HBk.1.set_ 33 _).cast (qnc gl _ _ _ _ _ _ _)) gl ⟨bd.1,(by decide:(0:Int)≤1∧(1:Int)≤1),bd.2.2⟩ rfl,HB10.1.grown hg (by omega) (fun k e=>by cases e;omega),HP10.1.grown hg (fun e=>by injection e with e;omega),hg.size⟩
    ·have f0:=fr 34
     clear fr;go_wp2_with fail
     go_meet
     case rel=>
      have hg:=qM w10 gQ 34 (.int .i64 3);exact⟨⟨P.grp,P.ep,P.fr,3,P.sl⟩,HQ10.1.put hg ((HBk.1.set_ 34 _).cast (qnd gl _ _ _ _ _ _ _)) gl ⟨bd.1,bd.2.1,(by decide:(0:Int)≤3∧(3:Int)≤3)⟩ rfl,HB10.1.grown hg (by omega) (fun k e=>by cases e;omega),HP10.1.grown hg (fun e=>by injection e with e;omega),hg.size⟩
    ·have f0:=fr 5
     have c5':w10.cell? ⟨gQ,5,none⟩=some (.int .u8 (bv 0#8)):=HBk.1.cell 5 (by
      have h:P.grp[5]?=some 0#8:=by rw[HPe.1.1];rfl
      unfold qq;rw[List.getElem?_append_left (by rw[QN,gl];decide),List.getElem?_map,h];rfl)
     clear fr;go_wp2_with fail
     go_meet
     case rel=>
      have hg:=qM w10 gQ 5 (b8 (0#8^^^1#8));exact⟨⟨P.grp.set 5 (0#8^^^1#8),P.ep,P.fr,P.nu,P.sl⟩,HQ10.1.put hg ((HBk.1.set_ 5 _).cast (qn6 gl _ _ _ _ _ _ _)) (by rw[Jy];exact gl) bd rfl,HB10.1.grown hg (by omega) (fun k e=>by cases e;omega),HP10.1.grown hg (fun e=>by injection e with e;omega),hg.size⟩
    ·clear fr
     obtain⟨j,hj,hji⟩:=qoU at_ n' hN0 (by omega);obtain⟨u,hu⟩:∃u,P.sl[j]?=some u:=⟨P.sl[j]'(by rw[HPl.1];exact hj),List.getElem?_eq_getElem _⟩;have hcu:=(HOw.1.at_ (k:=j) (by rw[HPl.1];exact hj));have hju:P.sl[j]'(by rw[HPl.1];exact hj)=u:=(List.getElem?_eq_some_iff.1 hu).2;rw[hju]at hcu;have hwN:IntKind.u64.wrap (n':Int)=(n':Int):=by show(n':Int) % 18446744073709551616=n';omega
     have lj:(j:Int)<(n':Int):=by omega
     have Hcu2:=qe hcu.2;have Hs:=qe (HOw.1.set_ j (u^^^1#8));go_upto_region 21 with fail
     have hjw:IntKind.i64.wrap ((IntKind.u64.wrap at_).tmod (n':Int))=(j:Int):=by have h:=hji;unfold wrap64 at h;rw[IntKind.wrap_i64];exact h
     have hnz:¬n'=0:=by omega
     have hS:w10.drew.cell? ⟨gQ,35,none⟩=some (.slice (some ⟨g8,0,none⟩) n' c8)∧w10.drew.cell? ⟨g8,j,none⟩=some (.int .u8 (bv u)):=⟨k35,hcu.1⟩;have cw:w10.drew.cell? ⟨g8,j,none⟩=some (.int .u8 (bv u)):=hcu.1;have fw:w10.drew.frozen? ⟨g8,j,none⟩=false:=hcu.2;refine wp_region_noPanic ?_;refine jr (by kernel_rfl) (fun W=>W.cell? ⟨gQ,35,none⟩=some (.slice (some ⟨g8,0,none⟩) n' c8)∧W.cell? ⟨g8,j,none⟩=some (.int .u8 (bv u))) 14 ?_
     clear k32 k33 k34 k35 hcu;refine puB 0 (.pointer (some ⟨gQ,35,none⟩)) hS ?_;refine tkB 1 (.slice (some ⟨g8,0,none⟩) n' c8) hS ?_;refine puB 2 (.int .i64 at_) hS ?_;try simp only[Act.put,qj,qz,qv]
     refine puB 3 (.int .u64 (IntKind.u64.wrap at_)) hS ?_;refine puB 4 (.pointer (some ⟨gQ,35,none⟩)) hS ?_;refine tkB 5 (.slice (some ⟨g8,0,none⟩) n' c8) hS ?_;try simp only[Act.put,qj,qz,qv]
     refine puB 6 (.int .i64 (n':Int)) hS ?_;refine puB 7 (.int .u64 (n':Int)) hS ?_;refine puB 8 (.int .u64 ((IntKind.u64.wrap at_).tmod (n':Int))) hS ?_;try simp only[Act.put,qj,qz,qv]
     refine puB 9 (.int .i64 (j:Int)) hS ?_;refine puB 10 (.pointer (some ⟨g8,j,none⟩)) hS ?_;refine tkB 11 (.int .u8 (bv u)) hS ?_;try simp only[Act.put,qj,qz,qv]
     refine puB 12 (.int .u8 (bv (u^^^1#8))) hS ?_;refine puB 13 (.pointer (some ⟨g8,j,none⟩)) hS ?_;try simp only[Act.put,qj,qz,qv]
     refine onY 14 (fun K' hK=>?_);go_simp;refine hK _ _ (fun h=>absurd rfl h) (jq (by kernel_rfl) ?_ _);clear hK K' hS cw fw;refine NoPanic.normal ?_;go_wp2_with fail
     go_meet
     case rel=>
      have hg0:=qM w10.drew g8 j (b8 (u^^^1#8));have hg:w10.grownBy (w10.drew.setCell ⟨g8,j,none⟩ (b8 (u^^^1#8))) (some g8):=⟨hg0.os,hg0.tape,hg0.output,hg0.size,hg0.block⟩;have hQ:QAt w10 gQ P n' g8 c8:=HQ10.1;obtain⟨q1,q2,q3,q4,q5,q6⟩:=hQ;exact⟨⟨P.grp,P.ep,P.fr,P.nu,P.sl.set j (u^^^1#8)⟩,⟨q1,q2,by rw[Jy];exact q3,q4,q5.grown hg (fun e=>by injection e with e;omega),(q6.drew.set_ j (u^^^1#8)).1⟩,HB10.1.grown hg (by omega) (fun k e=>by cases e;omega),HP10.1.grown hg (fun e=>by injection e with e;omega),hg.size⟩
   case rest=>
    obtain⟨q,hq,hbx,hp,hzx⟩:=hcut;obtain⟨gl,bd,sl,nc,blk,ow⟩:=hq;obtain⟨⟨be0,be1⟩,⟨bf0,bf1⟩,bn0,bn1⟩:=bd;have HSc:=qe (HS5.1.below hbx);obtain⟨D,hD⟩:∃D,D=qq q.grp q.ep q.fr q.nu (some ⟨g8,0,none⟩) n' c8:=⟨_,rfl⟩;have HDl:=qe (show D.length=36 by rw[hD];exact j1 gl _ _ _ _ _ _);have HQc:=qe (show Blk wc gQ 41 D by rw[hD];exact blk);have HPc:=qe hp;have HRq:=qe (show Rd b8 wc wc.heap.size (some ⟨g8,0,none⟩) q.sl from ow.rd)
    have HRp:=qe (show Rd b8 wc w5.heap.size A' P.sl from HR5.1.below hbx);have hz5c:=hbx.size;have HDe:=qe hD;have hg8b:g8∉BX.foot gB b:=fun hm=>by have:=(HS5.1.two.r.foot_lt _ hm).2;omega
    have HG8:=qe hg8b;have HXb:=qe (show x.m=b.m by rw[HMx.1,HMb.1]);obtain⟨E,hE⟩:∃E,E=jI b.m q:=⟨_,rfl⟩;have op:=qbp HSc.1.two.r q gl (some ⟨g8,0,none⟩) n' c8 wc.heap.size HRq.1 (QI _) sl nc (by omega) (by omega) (by omega) (by omega) (by omega) (by omega) (by omega);rw[←hD,←hE]at op;have HOp:=qe op;have HE:=qe hE;have HSl:=qe sl;have HGl:=qe gl;clear hp hbx blk ow op hE hD sl gl hg8b
    go_wp2_with (refine wpList_load_mid rfl 41 (.tmp 14) rfl gQ 0 rfl D _ HQc.1.whole underlying41 rfl (by rw[HDl.1];exact jC) ?_)
    refine HOp.1.mono ?_;rintro ex w11 ⟨v11,rfl,-,b11,hm11,hs11,-⟩;have HS11:=qe (HSc.1.right hs11);have HM11:=qe hm11;have HQ11:=qe (show Blk w11 gQ 41 D from(hs11.frm.block _ HQc.1.lt (HSc.1.two.r.typed_out HQc.1 (by decide) (by decide) (by decide) (by decide) (by decide))).trans HQc.1);have HP11:=qe (show Blk w11 gP 41 C from(hs11.frm.block _ HPc.1.lt (HSc.1.two.r.typed_out HPc.1 (by decide) (by decide) (by decide) (by decide) (by decide))).trans HPc.1)
    have HRq11:=qe (show Rd b8 w11 wc.heap.size (some ⟨g8,0,none⟩) q.sl from Qb HRq.1 (QI _) hs11.frm (fun bt o e hm=>by injection e with e;injection e with e _ _;subst e;exact HG8.1 hm));have HRp11:=qe (show Rd b8 w11 w5.heap.size A' P.sl from Qb HRp.1 hz5c hs11.frm (fun bt o e hm=>(HAb.1 bt o e).2.1 hm));have HF11:=qe hs11.foot;have hz11:=hs11.frm.size;clear hm11 hs11 HOp
    obtain⟨Cx,hCx⟩:∃Cx,Cx=x.cells:=⟨_,rfl⟩;have HCxl:=qe (show Cx.length=34 by rw[hCx];exact j8 HS11.1.rx.glen);have HRb11:=qe (show Blk w11 gX 34 Cx by rw[hCx];exact HS11.1.rb);obtain⟨hx4,hxb⟩:=qox HMx.1;have ro:=qeI w11 x HS11.1.rx hx4 (qnZ HSc.1.two.r HXb.1) hxb q HGl.1 (some ⟨g8,0,none⟩) n' c8 wc.heap.size HRq11.1 hz11 HSl.1 nc (by omega) (by omega) (by omega) (by omega) (by omega) (by omega) (by omega)
    rw[←HDe.1,←hCx]at ro;have HRo:=qe ro;clear ro hCx hx4 hxb;go_wp2_with (first
     |(refine wpList_load_mid rfl 34 (.tmp 9) rfl gX 0 rfl Cx _ HRb11.1.whole underlying34 rfl (by rw[HCxl.1];exact qt) ?_)
     |(refine wpList_load_mid rfl 41 (.tmp 14) rfl gQ 0 rfl D _ HQ11.1.whole underlying41 rfl (by rw[HDl.1];exact jC) ?_))
    refine HRo.1.mono ?_;rintro ex w12 ⟨v12,y,rfl,-,hym,hyA,hyf,hb12⟩;rw[show jI x.m q=E by rw[HXb.1,HE.1]];obtain⟨Cy,hCy⟩:∃Cy,Cy=y.cells:=⟨_,rfl⟩;have HCy:=qe hCy;have HCyl:=qe (show Cy.length=34 by rw[hCy];exact j8 hyA.glen);have HCy1:=qe (show∀u∈Cy,u.oneCell'=true by rw[hCy];exact zI rfl);rw[←hCy];have HYm:=qe (show y.m=b11.m by rw[hym,HXb.1,HM11.1]);have HYA:=qe hyA
    have HYf:=qe hyf;have HB12:=qe hb12;have HRb12:=qe (HRb11.1.below hb12 HRb11.1.lt);have HP12:=qe (HP11.1.below hb12 HP11.1.lt);have HRp12:=qe (HRp11.1.below (hb12.mono (by omega)));have hz12:=hb12.size;clear hCy hym hyA hyf hb12 HRo;go_upto_region 32 with(refine qi rfl 34 (.tmp 9) (.tmp 118) rfl gX 0 rfl Cy rfl 34 _ [] Cx [] HRb12.1 (by simp) rfl (by rw[HCyl.1,HCxl.1]) (by rw[HCyl.1];exact qt) HCy1.1 ?_;intro w13 hx13 hg13)
    have HS13:=qe (HS11.1.ref HYA.1 HYf.1 HB12.1 hg13 (by rw[←HCy.1];exact hx13.cast (by simp)));have HRb13:=qe (show Blk w13 gX 34 Cy by rw[HCy.1];exact HS13.1.rb);have hgXP:gX≠gP:=fun e=>by
     have h1:=HRb12.1;have h2:=HP12.1;unfold Blk at h1 h2;rw[e,h2]at h1;injection h1 with h1;injection h1 with _ hT _;exact absurd hT (by decide)
    have HP13:=qe (HP12.1.grown hg13 (fun e=>by injection e with e;exact hgXP e.symm));have hgXw:gX<wr.heap.size:=HS.1.rb.lt;have HRp13:=qe (show Rd b8 w13 w5.heap.size A' P.sl from Qb HRp12.1 (by omega) (show Frm w12 w13 [gX]from⟨hg13.os,hg13.tape,hg13.output,hg13.size,fun k hk hn=>hg13.block k hk (fun e=>hn (by injection e with e;simp[e]))⟩) (fun bt o e hm=>by
     have h1:=(HAb.1 bt o e).2.2;have h2:bt=gX:=by simpa using hm
     omega))
    have hb4:b11.es.length≤4:=by rw[qgl HM11.1,qlx,HMb.1];have:=qdw (lf:=2) (E:=2) (by omega);omega
    have HSt:=qe (qje HS13.1.two.r HS13.1.rx HYm.1 hb4);have hz13:=hg13.size;clear hx13 hg13;go_wp2_with fail
    refine(qjw E w13).mono ?_;rintro ex w13' ⟨rfl,rfl⟩;go_wp2_with (refine jA (by rfl) 34 (.tmp 9) rfl gX 0 rfl Cy _ HRb13.1.whole underlying34 rfl (by rw[HCyl.1];exact qt) ?_)
    rw[HCy.1];refine HSt.1.mono ?_;rintro ex w14 ⟨rfl,hb14⟩;have HS14:=qe (HS13.1.below hb14);have HP14:=qe (HP13.1.below hb14 HP13.1.lt);have HRp14:=qe (HRp13.1.below (hb14.mono (by omega)));have hz14:=hb14.size;clear hb14;by_cases hE0:E=0
    ·have hEi:(E:Int)=0:=by omega
     go_wp2_with fail
     go_ret;exact⟨rfl,HS14.1.bl⟩
    have hEi:¬((E:Int)=0):=by omega
    have htl:text.length≤500:=by rw[HN.1];exact hn5
    have hMb:b11.m=bSp 2 2:=by rw[HM11.1,zK (by rw[←HE.1];exact hE0)];exact HMb.1
    obtain⟨o0,oT⟩:=qm3 htl;have op:=qbp HS14.1.two.r P HPg.1 A' n' c' w5.heap.size HRp14.1 (by omega) HPl.1 hcc (by omega) (by rw[HPe.1.2.1];decide) (by rw[HPe.1.2.1];decide) (by rw[HPe.1.2.2.1];decide) (by rw[HPe.1.2.2.1];decide) (by rw[HPe.1.2.2.2];decide) (by rw[HPe.1.2.2.2];decide);rw[←HC.1,hMb,show jI (bSp 2 2) P=0 by rw[HP.1];exact o0,show ue (bSp 2 2) P=text by rw[HP.1];exact oT,qW]at op
    have HOp:=qe op;clear op o0 oT hMb htl;go_wp2_with (refine wpList_load_mid rfl 41 (.tmp 12) rfl gP 0 rfl C _ HP14.1.whole underlying41 rfl (by rw[HCl.1];exact jC) ?_)
    refine HOp.1.mono ?_;rintro ex w15 ⟨v15,rfl,ho15,b15,-,hs15,-⟩;have HB15:=qe (hs15.toBelow HS14.1.two.r HS14.1.bl);obtain⟨A15,c15,rfl,hr15,-,-,-⟩:=ho15.shape' HN.1;have HSm:=qe (qlO c15 c hr15 (HR.1.below HB15.1) HN.1 HN.1);clear ho15 hs15 hr15;go_wp2_with fail
    refine HSm.1.mono ?_;rintro ex w16 ⟨rfl,rfl⟩;rw[show(text==text)=true by simp];go_wp2_with fail
    go_ret;exact⟨rfl,HB15.1⟩
end
section
open Go.RowKit
theorem qoV:prog.globalNamed "math/bits.deBruijn64tab" =some 1:=by kernel_rfl
theorem qnf:(prog.globals[1]?).map (·.type)=some 157:=by kernel_rfl
theorem qng:prog.cellsOf 157=64:=by kernel_rfl
theorem qly:prog.cellsOf 5=1:=by kernel_rfl
def qcq:List Int:=Lib.deBruijn64tab.map Int.ofNat
def qh2:List (String×DataW Unit):=[("math/bits.deBruijn32tab",Rows.laid_math_bits_deBruijn32tab),("math/bits.deBruijn64tab",Rows.laid_math_bits_deBruijn64tab)]
theorem qoA:(Rows.laid_math_bits_deBruijn64tab:DataW Unit)=Lib.tabData .u8 qcq:=rfl
theorem qoB:∀j,j<64→qcq.getD j 0=((Lib.deBruijn64tab.getD j 0:Nat):Int):=by decide+kernel
theorem qjg{W:World}(h:laidMetH prog qh2 W):Tab W:=by
 have h1:laidMet prog qh2 W:=h;have h2:laidMet prog [("math/bits.deBruijn64tab",Lib.tabData .u8 qcq)] W:=by
  rw[←qoA];exact h1.tail
 have h3:Lib.TabIs prog W "math/bits.deBruijn64tab" .u8 qcq:=Lib.tabIs_of_head (rest:=[]) qoV qnf underlying157 underlying5 qly qng h2;intro j hj;have hj64:j<64:=hj;have:=h3.cell qoV j (by simpa[qcq,Lib.deBruijn64tab]using hj64);rw[qoB j hj64]at this;exact this
def qh3(vs:Array Value):Obj→Obj
 | .cells _ t frozen=> .cells vs t frozen
 |o=>o
noncomputable def qcR(os:Os):World:=
 {World.holding prog os ⟨#[],#[],[]⟩with heap:=((World.holding prog os ⟨#[],#[],[]⟩).heap.modify 0 (qh3 (Lib.deBruijn32tab.map fun n=>Value.int .u8 (Int.ofNat n)).toArray)).modify 1 (qh3 (Lib.deBruijn64tab.map fun n=>Value.int .u8 (Int.ofNat n)).toArray)}
end
end Go.Proofs.YtelgjaiknaalkaaGreatDoor
