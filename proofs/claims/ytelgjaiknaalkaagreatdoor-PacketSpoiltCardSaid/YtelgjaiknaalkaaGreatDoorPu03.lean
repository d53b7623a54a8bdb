/- Lemmas. -/
import Derived.Test.YtelgjaiknaalkaaGreatDoorPu02
open Go.Proofs.Tryz
open BitVec renaming ofNat → QP, getLsbD_shiftLeft → ZF
open List renaming length_append → QO, replicate → QL, getD → QR, getElem?_eq_getElem → QT
open Go.Value renaming ownBlock → JF
open Nat renaming le_refl → QI
open Go.World.grownBy renaming refl → J8
open Go.IntWalk renaming i64_in → Jc
set_option linter.unusedVariables false
set_option linter.unusedSimpArgs false
namespace Go.Proofs.YtelgjaiknaalkaaGreatDoor
section
open Go.RowKit
theorem qfE{n:Nat}(y:BitVec n)(k:Nat):y*QP n (2^k)=y<<<k:=by
 apply BitVec.eq_of_toNat_eq;simp only[BitVec.toNat_mul,BitVec.toNat_ofNat,BitVec.toNat_shiftLeft,Nat.shiftLeft_eq];rw[Nat.mul_mod_mod]
theorem qik{n:Nat}(x y:BitVec n)(k:Nat)(hx:∀i,i<k→x.getLsbD i=false)(hy:∀i,k≤i→y.getLsbD i=false):x+y=x|||y:=by
 rw[BitVec.add_eq_or_of_and_eq_zero];apply BitVec.eq_of_getLsbD_eq;intro i hi;rw[BitVec.getLsbD_and,BitVec.getLsbD_zero];by_cases h:i<k
 ·rw[hx i h,Bool.false_and]
 ·rw[hy i (by omega),Bool.and_false]
theorem qeW{n:Nat}(a:BitVec 8)(i:Nat)(h:8≤i):(a.setWidth n).getLsbD i=false:=by
 rw[BitVec.getLsbD_setWidth,BitVec.getLsbD_of_ge a i h,Bool.and_false]
theorem yF{n:Nat}(x:BitVec n)(k i:Nat)(h:i<k):(x<<<k).getLsbD i=false:=by
 rw[ZF];simp[h]
theorem qjs{n:Nat}(a:BitVec 8)(k i:Nat)(h:k+8≤i):((a.setWidth n)<<<k).getLsbD i=false:=by
 rw[ZF,qeW a (i-k) (by omega),Bool.and_false]
theorem qky(a b c d:BitVec 8):a.setWidth 32*16777216#32+b.setWidth 32*65536#32+c.setWidth 32*256#32+d.setWidth 32=qdB a b c d:=by
 rw[show(16777216#32)=QP 32 (2^24)from rfl,show(65536#32)=QP 32 (2^16)from rfl,show(256#32)=QP 32 (2^8)from rfl,qfE,qfE,qfE];rw[qik _ (b.setWidth 32<<<16) 24 (fun i h=>yF _ _ _ h) (fun i h=>qjs b 16 i (by omega))];rw[qik _ (c.setWidth 32<<<8) 16 (fun i h=>by rw[BitVec.getLsbD_or,yF _ _ _ (by omega),yF _ _ _ h];rfl) (fun i h=>qjs c 8 i (by omega))]
 rw[qik _ (d.setWidth 32) 8 (fun i h=>by rw[BitVec.getLsbD_or,BitVec.getLsbD_or,yF _ _ _ (by omega),yF _ _ _ (by omega),yF _ _ _ h];rfl) (fun i h=>qeW d i h)];rfl
theorem qkz(x:BitVec 32):4294967295#32-x= ~~~x:=by
 rw[show(4294967295#32)=BitVec.allOnes 32 from rfl,BitVec.allOnes_sub_eq_not]
def yG{α:Type}(l:List α)(j:Nat):List α:=l.take (j+1)++(l.drop j).take (7-j)
theorem qkA{n:Nat}(s:S8 n)(j:Nat)(hj:j<7):(yG s.list (j+1)).set (j+1) (s.list.getD j 0#n)=yG s.list j:=by
 match j,hj with
 |0,_=>rfl
 |1,_=>rfl
 |2,_=>rfl
 |3,_=>rfl
 |4,_=>rfl
 |5,_=>rfl
 |6,_=>rfl
theorem qlW{n:Nat}(s:S8 n)(j:Nat)(hj:j<7):(yG s.list (j+1)).getD j 0#n=s.list.getD j 0#n:=by
 match j,hj with
 |0,_=>rfl
 |1,_=>rfl
 |2,_=>rfl
 |3,_=>rfl
 |4,_=>rfl
 |5,_=>rfl
 |6,_=>rfl
theorem qeX{n:Nat}(s:S8 n)(j:Nat)(hj:j≤7):(yG s.list j).length=8:=by
 match j,hj with
 |0,_=>rfl
 |1,_=>rfl
 |2,_=>rfl
 |3,_=>rfl
 |4,_=>rfl
 |5,_=>rfl
 |6,_=>rfl
 |7,_=>rfl
theorem qil{w w':World}(h:Below w.heap.size w w'):w.grownBy w' none:=⟨h.os,h.tape,h.output,h.size,fun k hk _=>h.block k hk⟩
theorem qo0(x:BitVec 32)(w:World):Calls prog 146 #[.int .u32 (bv x),.int .u64 17] w fun e w'=>e= .returned (.int .u32 (bv (vz x 15)))∧w=w':=qaz x 17 (by omega) w
theorem qo1(x:BitVec 32)(w:World):Calls prog 146 #[.int .u32 (bv x),.int .u64 19] w fun e w'=>e= .returned (.int .u32 (bv (vz x 13)))∧w=w':=qaz x 19 (by omega) w
theorem rt7(x:BitVec 32)(w:World):Calls prog 146 #[.int .u32 (bv x),.int .u64 7] w fun e w'=>e= .returned (.int .u32 (bv (vz x 25)))∧w=w':=qaz x 7 (by omega) w
theorem qo2(x:BitVec 32)(w:World):Calls prog 146 #[.int .u32 (bv x),.int .u64 18] w fun e w'=>e= .returned (.int .u32 (bv (vz x 14)))∧w=w':=qaz x 18 (by omega) w
theorem qeY(x:BitVec 32)(m:Nat)(w:World)(hm:m≤32):Calls prog 146 #[.int .u32 (bv x),.int .u64 (no_index (@OfNat.ofNat Int m instOfNat))] w fun e w'=>e= .returned (.int .u32 (bv (vz x (32-m))))∧w=w':=qaz x m hm w
theorem kU.keepCell{α:Type}{f:α→Value}{w w':World}{v v':Value}{B E g n c t:Nat}{xs ys:List α}(h:kU w w' v v')(ho:Own f w B E v xs)(ho':Own f w' B E v' (xs++ys))(hv:v= .slice (some ⟨g,0,none⟩) n c)(ht:t<xs.length):w'.cell? ⟨g,t,none⟩=w.cell? ⟨g,t,none⟩:=by
 subst hv;rcases h with⟨_,rfl⟩|⟨g',n',n2,c',e1,rfl,hg⟩|⟨_,hg⟩
 ·rfl
 ·cases e1
  have h2:t<(xs++ys).length:=by rw[QO];omega
  rw[(ho.at_ ht).1,(ho'.at_ h2).1,List.getElem_append_left ht]
 ·exact World.cell?_of_block (hg.block g (ho.lt g rfl).2 (by simp))
theorem qai{α β:Type}{f:α→Value}{f':β→Value}{w:World}{g T B e:Nat}{ys:List β}{v:Value}{xs:List α}(h:Arr f' w g T ys)(hte:T≠e)(hr:Own f w B e v xs):v.ownBlock≠some g:=by
 rcases hr.2 with⟨rfl,_⟩|⟨g',cap,cur,rfl,_,hgb,_⟩
 ·simp[JF]
 ·intro e'
  obtain rfl:g'=g:=by simpa[JF]using e'
  have:w.heap[g']?=some (.cells (ys.map f').toArray T (0,0)):=h;rw[this]at hgb;cases hgb;exact hte rfl
set_option maxRecDepth 100000 in
set_option maxHeartbeats 8000000 in
theorem qaf(w:World)(B c m:Nat)(A:Option Addr)(xs:qf)(hr:Rd b8 w B A xs)(hB:B≤w.heap.size)(hm:m=xs.length)(hbig:m≤50000000):
 Calls prog 138 #[.slice A m c] w fun e w'=>e= .returned (jL b8 (zt xs))∧Below w.heap.size w w':=by
 obtain⟨i0,hi0,hz0,hz1,hz2⟩:=info_parts qgE;have HM:=qe hm;have HR:=qe hr;have HO0:=qe (Arr.new b8 w 23 (QL 32 0#8));clear hm hr;go_enter func138,ntmps138
 go_wp2_with fail
 refine(qij _).mono ?_;rintro e w1 ⟨rfl,hown1,hb1⟩;have hz1':=hb1.size;rw[World.size_alloc]at hown1 hb1 hz1';have hob1:=(hown1.lt _ rfl).2;have HBo:=qe hown1;have HO1:=qe (HO0.1.below hb1 (by omega));have HB1:=qe (Below.trans ((Below.refl _ w).alloc (QI _) _) (hb1.mono (Nat.le_succ _)));have HH1:=qe (show Arr w32 (w1.alloc (.cells ((QL 8 0#32).map w32).toArray 229)) w1.heap.size 229 (Qe 0)from(Arr.new w32 w1 _ (QL 8 0#32)).cast (by decide))
 have HG1:=qe (World.grownBy_alloc w1 (.cells ((QL 8 0#32).map w32).toArray 229) none);clear hown1 hb1 HO0;go_wp2_with fail
 go_loopw [5] (fun i wr=>∃k:Nat,k≤8∧i= .int .i64 k∧Arr w32 wr w1.heap.size 229 (Qe k)∧w1.grownBy wr none) (fun i _=>8-(intOf i).toNat)
 case atStart=>exact⟨0,by omega,rfl,HH1.1,HG1.1⟩
 case round=>
  clear HH1 HG1;obtain⟨k,hk,rfl,hh,hg⟩:=hrel;have HH:=qe hh;have HG:=qe hg;clear hh hg;by_cases hlt:k<8
  ·skip
   have c1:wr.cell? ⟨w.heap.size+1,k,none⟩=some (w64 (kH.list.getD k 0#64)):=by
    have h1:=((HBo.1.kept HG.1 (.inr (by simp[JF]))).at_ (k:=k) (by rw[S8.list_len];exact hlt)).1;rw[h1];simp[QR,QT (show k<kH.list.length by rw[S8.list_len];exact hlt)]
   have c2:=HH.1.cellD (k:=k) (by rw[qkn k hk];exact hlt) 0#32;have f2:=HH.1.frozen k;have hs:=qeN k hlt;generalize kH.list.getD k 0#64=x at c1 hs;simp only[w64]at c1;have Hs:=qe hs;have lk:(k:Int)<8:=by omega
   clear hs;go_wp2_with fail
   go_roundw
   case rel=>exact⟨k+1,by omega,by go_num,(HH.1.set_ k ((x>>>32).setWidth 32)).cast Hs.1,jJ HG.1 (.inr (QI _)) _⟩
   case measure=>simp[intOf];omega
  ·obtain rfl:k=8:=by omega
   rw[show(((8:Nat)):Int)=8 from rfl];have hgw:=HG.1.size;have hhl:=HH.1.lt;have HH2:=qe (show Arr w32 wr w1.heap.size 229 jZ.list from HH.1.cast (by decide));have HO2:=qe (HO1.1.grown HG.1 (by simp));have HB2:=qe (HB1.1.grown HG.1 HB1.1.size (fun k e=>by cases e));clear HH HG hk hlt;obtain⟨wa,rfl⟩:∃wa:World,wa=wr:=⟨_,rfl⟩;go_wp2_with fail
   refine(qgF _).mono ?_;rintro e w3 ⟨v3,rfl,hown3,hb3⟩;obtain⟨gk,ck,rfl,hgk,hgk2,-⟩:=hown3.form' j9 (by omega);have hz3:=hb3.size;have hpd:=qlV xs m 64 8 (.inl ⟨rfl,rfl⟩) w3 B A c (HR.1.below ((HB2.1.trans (hb3.mono HB2.1.size)).mono hB)) (by have:=HB2.1.size;omega) HM.1 (by omega);have HPd:=qe (show Calls prog 145 #[.slice A m c,.int .i64 64,.int .i64 8] w3 _ from hpd);have HK3:=qe hown3
   have HH3:=qe (HH2.1.below hb3 (by omega));have HO3:=qe (HO2.1.below hb3 HO2.1.lt);have HB3:=qe (HB2.1.trans (hb3.mono HB2.1.size));clear hown3 hb3 hpd HH2 HO2 HB2;go_wp2_with fail
   refine HPd.1.mono ?_;rintro e W0 ⟨v4,rfl,hown4,hb4⟩;obtain⟨P,hP⟩:∃P,P=zb xs m 64 8:=⟨_,rfl⟩;obtain⟨NP,hNP⟩:∃NP,NP=P.length/64:=⟨_,rfl⟩;have hPl:P.length=64*NP∧0<NP∧NP≤1000000:=by
    have h1:=qbS m 64 8 (.inl ⟨rfl,rfl⟩);have h2:=qdl m 64 8 (.inl ⟨rfl,rfl⟩);have h3:P.length=m+1+yu m 64 8+8:=by
     rw[hP];unfold zb;rw[←HM.1,QO,List.length_cons,QO,List.length_replicate,qdj,←HM.1];omega
    rw[hNP,h3];omega
   rw[←hP]at hown4;obtain⟨gp,cp,e4,hgp,hgp2,-⟩:=hown4.form' hPl.1 (by omega);subst e4;have hz4:=hb4.size;have HP4:=qe hown4;have HK4:=qe (HK3.1.below hb4 (QI _));have HH4:=qe (show Arr w32 W0 w1.heap.size 229 (qJ.pieces 0 P jZ).list from HH3.1.below hb4 (by omega));have HO4:=qe (HO3.1.below hb4 HO3.1.lt);have HB4:=qe (HB3.1.trans (hb4.mono HB3.1.size));have HPe:=qe hP
   have HNP:=qe hNP;have HPl:=qe hPl.1;have hNP3:=hPl.2;have hg1k:w1.heap.size<gk:=by omega
   have hg1p:w1.heap.size<gp:=by omega
   have hgkW:gk<W0.heap.size:=by omega
   have hg1W:w1.heap.size<W0.heap.size:=by omega
   clear hown4 hb4 hP hNP hPl HK3 HH3 HO3 HB3 HPd;go_wp2_with fail
   obtain⟨LP,hLP⟩:∃LP,LP=64*NP:=⟨_,rfl⟩;rw[←hLP];have HLP:=qe hLP;have hLPb:LP≤64000000:=by omega
   clear hLP;go_loopw [8] (fun i wr=>∃j at_:Nat,at_=64*j∧j≤NP∧i= .int .i64 (at_:Int)∧Arr w32 wr w1.heap.size 229 (qJ.pieces j P jZ).list∧W0.grownBy wr (some w1.heap.size)) (fun i _=>LP-(intOf i).toNat)
   case atStart=>exact⟨0,0,rfl,by omega,rfl,HH4.1,J8 _ _⟩
   case round=>
    clear HH4;obtain⟨j,at_,hat,hjN,rfl,hh,hg⟩:=hrel;obtain⟨H,hH⟩:∃H,H=qJ.pieces j P jZ:=⟨_,rfl⟩;rw[←hH]at hh;have hgw:=hg.size;obtain⟨W1,rfl⟩:∃W1:World,W1=wr:=⟨_,rfl⟩;have HHa:=qe hh;have HGa:=qe hg;have HHe:=qe hH;have Hat:=qe hat;have HKw:=qe (HK4.1.kept hg (.inr (by simp[JF];omega)));have HPw:=qe (HP4.1.kept hg (.inr (by simp[JF];omega)));have hatb:at_≤LP:=by rw[hat,HLP.1];exact Nat.mul_le_mul_left 64 hjN
    clear hh hg hH;by_cases hlt:j<NP
    ·have hat64:at_+64≤LP:=by rw[HLP.1,hat];omega
     have hPlen:=HPl.1;obtain⟨q0,hq0⟩:∃q0,q0=(P.drop (64*j)).take 64:=⟨_,rfl⟩;have hq0l:q0.length=64:=by rw[hq0,List.length_take,List.length_drop];omega
     have hq0at:∀t,t<64→q0.getD t 0#8=P.getD (at_+t) 0#8:=fun t ht=>by
      rw[hq0,qan _ _ _ _ ht (by omega),hat,QR,QT (by omega)];rfl
     have hcp:∀t,t<64→W1.cell? ⟨gp,at_+t,none⟩=some (b8 (q0.getD t 0#8)):=fun t ht=>by
      rw[hq0at t ht];have h2:at_+t<P.length:=by rw[HPl.1,←HLP.1];omega
      rw[(HPw.1.at_ h2).1,QR,QT h2];rfl
     have HCp:=qe hcp;have HQ:=qe hq0;have HQl:=qe hq0l;have hgpW:gp<W1.heap.size:=by omega
     have hlt64:decide (at_<LP)=true:=by simp;omega
     clear hcp hq0 hq0l hq0at hPlen hat;go_wp2_with fail
     clear hlt64;go_loopw [9,10] (fun v i wr=>∃k:Nat,k≤16∧i= .int .i64 k∧Own w32 wr W1.heap.size 178 v (qJ.sched q0 k)∧Below W1.heap.size W1 wr) (fun _ i _=>16-(intOf i).toNat)
     case atStart=>exact⟨0,by omega,rfl,Own.nil_ _ _ _ _,Below.refl _ _⟩
     case round=>
      obtain⟨k,hk,rfl,hown,hb⟩:=hrel;have HO:=qe hown;have HB:=qe hb;have hzw:=hb.size;clear hown hb;by_cases hlt2:k<16
      ·skip
       obtain⟨t0,ht0⟩:∃t,t=at_+4*k:=⟨_,rfl⟩;have hc:∀t,t<64→wr.cell? ⟨gp,at_+t,none⟩=some (b8 (q0.getD t 0#8)):=fun t ht=>(HB.1.cell (p:=⟨gp,at_+t,none⟩) hgpW).trans (HCp.1 t ht)
       have c0:=hc (4*k) (by omega);have c1:=hc (4*k+1) (by omega);have c2:=hc (4*k+2) (by omega);have c3:=hc (4*k+3) (by omega);have hw:qJ.next q0 (qJ.sched q0 k)=qdB (q0.getD (4*k) 0#8) (q0.getD (4*k+1) 0#8) (q0.getD (4*k+2) 0#8) (q0.getD (4*k+3) 0#8):=by rw[qeO _ _ _ hlt2];rfl
       generalize q0.getD (4*k) 0#8=x0 at c0 hw;generalize q0.getD (4*k+1) 0#8=x1 at c1 hw;generalize q0.getD (4*k+2) 0#8=x2 at c2 hw;generalize q0.getD (4*k+3) 0#8=x3 at c3 hw;obtain⟨t1,ht1⟩:∃t,t=t0+1:=⟨_,rfl⟩;obtain⟨t2,ht2⟩:∃t,t=t0+2:=⟨_,rfl⟩;obtain⟨t3,ht3⟩:∃t,t=t0+3:=⟨_,rfl⟩;rw[show at_+4*k=t0 by omega]at c0;rw[show at_+(4*k+1)=t1 by omega]at c1;rw[show at_+(4*k+2)=t2 by omega]at c2;rw[show at_+(4*k+3)=t3 by omega]at c3
       simp only[b8]at c0 c1 c2 c3;have eq:(at_:Int)+4*(k:Int)=(t0:Int):=by omega
       have e1:IntKind.i64.wrap ((t0:Int)+1)=(t1:Int):=by rw[Jc _ (by omega)];omega
       have e2:IntKind.i64.wrap ((t0:Int)+2)=(t2:Int):=by rw[Jc _ (by omega)];omega
       have e3:IntKind.i64.wrap ((t0:Int)+3)=(t3:Int):=by rw[Jc _ (by omega)];omega
       have l0:(t0:Int)<(LP:Int):=by omega
       have l1:(t1:Int)<(LP:Int):=by omega
       have l2:(t2:Int)<(LP:Int):=by omega
       have l3:(t3:Int)<(LP:Int):=by omega
       have Q0:=qe (show W1.cell? ⟨gp,t0,none⟩=some (.int .u8 (bv x0))from(HB.1.cell (p:=⟨gp,t0,none⟩) hgpW).symm.trans c0);have Q1:=qe (show W1.cell? ⟨gp,t1,none⟩=some (.int .u8 (bv x1))from(HB.1.cell (p:=⟨gp,t1,none⟩) hgpW).symm.trans c1);have Q2:=qe (show W1.cell? ⟨gp,t2,none⟩=some (.int .u8 (bv x2))from(HB.1.cell (p:=⟨gp,t2,none⟩) hgpW).symm.trans c2);have Q3:=qe (show W1.cell? ⟨gp,t3,none⟩=some (.int .u8 (bv x3))from(HB.1.cell (p:=⟨gp,t3,none⟩) hgpW).symm.trans c3)
       have Hw:=qe hw;have hsl:=Sha.sched_len qJ q0 k;have Hsl:=qe hsl;clear hw hc ht0 ht1 ht2 ht3 hsl;go_wp2_with fail
       go_region_held3 (fun w'=>w'.cell? ⟨gp,t0,none⟩=some (.int .u8 (bv x0))∧w'.cell? ⟨gp,t1,none⟩=some (.int .u8 (bv x1))∧w'.cell? ⟨gp,t2,none⟩=some (.int .u8 (bv x2))∧w'.cell? ⟨gp,t3,none⟩=some (.int .u8 (bv x3)))
        (first
         |(have hq:=hbb7 W1.heap.size W1 (QI _) (HB.1.drew.alloc hzw _);exact⟨(hq.cell (p:=⟨gp,t0,none⟩) hgpW).trans Q0.out,(hq.cell (p:=⟨gp,t1,none⟩) hgpW).trans Q1.out,(hq.cell (p:=⟨gp,t2,none⟩) hgpW).trans Q2.out,(hq.cell (p:=⟨gp,t3,none⟩) hgpW).trans Q3.out⟩)
         |go_keep)
        ((refine jc rfl _ _ 197 (by rfl) ug W1.heap.size 178 i0 _ 4 underlying197 hi0 hz0 hz1 hz2 rfl _ _ (by rfl) (HO.1.drew.alloc _) (wr.heap.size+1) _ 1 1 [qdB x0 x1 x2 x3] (by rfl) rfl (by rw[←qky];exact Rd.new w32 _ _ [_]) (by rw[Hsl.1];simp[maxLen];omega) (by rw[Hsl.1];simp;omega) (by simp;omega) ?_;intro v7 w7 hown7 hg7 hbb7))
       clear eq e1 e2 e3 c0 c1 c2 c3;go_wp2_with fail
       go_roundw
       case rel=>exact⟨k+1,by omega,by go_num,(by rw[show qJ.sched q0 (k+1)=qJ.sched q0 k++ [qJ.next q0 (qJ.sched q0 k)]from rfl,Hw.1];exact hown7),hbb7 _ _ (QI _) (HB.1.drew.alloc hzw _)⟩
       case measure=>simp[intOf];omega
      ·obtain rfl:k=16:=by omega
       rw[show(((16:Nat)):Int)=16 from rfl];clear hlt2 hk;go_wp2_with fail
       go_loopw [9,12] (fun v i wr=>∃k:Nat,16≤k∧k≤64∧i= .int .i64 k∧Own w32 wr W1.heap.size 178 v (qJ.sched q0 k)∧Below W1.heap.size W1 wr) (fun _ i _=>64-(intOf i).toNat)
       case atStart=>exact⟨16,by omega,by omega,rfl,HO.1,HB.1⟩
       case round=>
        clear HO HB;obtain⟨k,hk16,hk,rfl,hown,hb⟩:=hrel;obtain⟨gw,cw,rfl,hgw1,hgw2,-⟩:=hown.form' (Sha.sched_len qJ q0 k) (by omega);have HO:=qe hown;have HB:=qe hb;have hzw:=hb.size;clear hown hb;by_cases hlt2:k<64
        ·skip
         obtain⟨k2,hk2⟩:∃m,k=m+2:=⟨k-2,by omega⟩;obtain⟨k7,hk7⟩:∃m,k=m+7:=⟨k-7,by omega⟩;obtain⟨k15,hk15⟩:∃m,k=m+15:=⟨k-15,by omega⟩;obtain⟨k16,hk16'⟩:∃m,k=m+16:=⟨k-16,by omega⟩;have hca:∀t,t<k→wr.cell? ⟨gw,t,none⟩=some (w32 ((qJ.sched q0 k).getD t 0#32)):=fun t ht=>by
          have h2:t<(qJ.sched q0 k).length:=by rw[Sha.sched_len];exact ht
          rw[(HO.1.at_ h2).1,QR,QT h2];rfl
         have c2:=hca k2 (by omega);have c7:=hca k7 (by omega);have c15:=hca k15 (by omega);have c16:=hca k16 (by omega);have hw:=qgt qJ q0 k k2 k7 k15 k16 hk16 hk2 hk7 hk15 hk16';generalize(qJ.sched q0 k).getD k2 0#32=x2 at c2 hw;generalize(qJ.sched q0 k).getD k7 0#32=x7 at c7 hw;generalize(qJ.sched q0 k).getD k15 0#32=x15 at c15 hw;generalize(qJ.sched q0 k).getD k16 0#32=x16 at c16 hw
         simp only[w32]at c2 c7 c15 c16;have d2:(k:Int)-2=(k2:Int):=by omega
         have d15:(k:Int)-15=(k15:Int):=by omega
         have e7:IntKind.i64.wrap ((k:Int)-7)=(k7:Int):=by rw[Jc _ (by omega)];omega
         have e16:IntKind.i64.wrap ((k:Int)-16)=(k16:Int):=by rw[Jc _ (by omega)];omega
         have l2:k2<k:=by omega
         have l7:k7<k:=by omega
         have l15:k15<k:=by omega
         have l16:k16<k:=by omega
         have l2':(k2:Int)<(k:Int):=by omega
         have l7':(k7:Int)<(k:Int):=by omega
         have l15':(k15:Int)<(k:Int):=by omega
         have l16':(k16:Int)<(k:Int):=by omega
         have Q7:=qe c7;have Q16:=qe c16;have Hw:=qe hw;have Hsl:=qe (Sha.sched_len qJ q0 k);clear hw hk2 hk7 hk15 hk16' hca;go_wp2_with fail
         go_region_held3 (fun w'=>w'.cell? ⟨gw,k7,none⟩=some (.int .u32 (bv x7))∧w'.cell? ⟨gw,k16,none⟩=some (.int .u32 (bv x16)))
          (first
           |exact⟨(hg7.keepCell (HO.1.drew.alloc _) hown7 rfl (by rw[Hsl.1];exact l7)).trans ((World.cell?_alloc_lt _ _ ⟨gw,k7,none⟩ hgw2).trans Q7.out),(hg7.keepCell (HO.1.drew.alloc _) hown7 rfl (by rw[Hsl.1];exact l16)).trans ((World.cell?_alloc_lt _ _ ⟨gw,k16,none⟩ hgw2).trans Q16.out)⟩
           |go_keep)
          (first
           |(go_simp;(with_reducible refine(qo0 _ _).mono ?_);rintro e w' ⟨rfl,rfl⟩)
           |(go_simp;(with_reducible refine(qo1 _ _).mono ?_);rintro e w' ⟨rfl,rfl⟩)
           |(go_simp;(with_reducible refine(rt7 _ _).mono ?_);rintro e w' ⟨rfl,rfl⟩)
           |(go_simp;(with_reducible refine(qo2 _ _).mono ?_);rintro e w' ⟨rfl,rfl⟩)
           |(refine jc rfl _ _ 197 (by rfl) ug W1.heap.size 178 i0 _ 4 underlying197 hi0 hz0 hz1 hz2 rfl _ _ (by rfl) (HO.1.drew.alloc _) (wr.heap.size+1) _ 1 1 [qJ.s1 x2+x7+qJ.s0 x15+x16] (by rfl) rfl (Rd.new w32 _ _ [_]) (by rw[Hsl.1];simp[maxLen];omega) (by rw[Hsl.1];simp;omega) (by simp;omega) ?_;intro v7 w7 hown7 hg7 hbb7))
         obtain⟨gw7,cw7,rfl,-,-,-⟩:=hown7.form' (n:=k+1) (by rw[QO,Hsl.1];rfl) (by omega);clear e7 e16 d2 d15 c2 c7 c15 c16;go_wp2_with fail
         go_roundw
         case rel=>exact⟨k+1,by omega,by omega,by go_num,(by rw[show qJ.sched q0 (k+1)=qJ.sched q0 k++ [qJ.next q0 (qJ.sched q0 k)]from rfl,Hw.1];exact hown7),hbb7 _ _ (QI _) (HB.1.drew.alloc hzw _)⟩
         case measure=>simp[intOf];omega
        ·obtain rfl:k=64:=by omega
         rw[show(((64:Nat)):Int)=64 from rfl];clear hlt2 hk hk16;obtain⟨X,hX⟩:∃X,X=qJ.sched q0 64:=⟨_,rfl⟩;have HX:=qe (show Own w32 wr W1.heap.size 178 (.slice (some ⟨gw,0,none⟩) 64 cw) X by rw[hX];exact HO.1);have HXl:=qe (show X.length=64 by rw[hX,Sha.sched_len]);have HXe:=qe hX;have hhl:=HHa.1.lt;have HH5:=qe (HHa.1.below HB.1 hhl);obtain⟨gs,hgs⟩:∃gs,gs=wr.heap.size:=⟨_,rfl⟩;have HS0:=qe (show Arr w32 (wr.alloc (.cells ((QL 8 0#32).map w32).toArray 229)) gs 229 (QL 8 0#32)from hgs▸Arr.new w32 wr _ _)
         have HGs:=qe hgs;have hgsW:W1.heap.size≤gs:=by omega
         have hgsg:w1.heap.size<gs:=by omega
         have hgsw:gw<gs:=by omega
         clear HO hX hgs;go_wp2_with (first
          |refine qm rfl 229 (.tmp 4) rfl w1.heap.size rfl _ H.list HH5.1 _ underlying229 rfl (by rw[S8.list_len];exact Qs) ?_
          |(rw[←HGs.1];refine qk rfl 229 (.tmp 15) (.tmp 131) rfl gs rfl H.list rfl _ _ HS0.1 rfl Qs ug ?_;intro w5 hx5 hg5))
         have HS5:=qe hx5;have HX5:=qe ((HX.1.alloc (.cells ((QL 8 0#32).map w32).toArray 229)).kept hg5 (.inr (by simp[JF];omega)));have HG5:=qe (show W1.grownBy w5 none from qaZ (qaY (qil HB.1) _) hg5 hgsW);clear hx5 hg5 HS0 HX HB HH5;go_loopw [16] (fun i wr=>∃k:Nat,k≤64∧i= .int .i64 k∧Arr w32 wr gs 229 (qJ.rounds X H k).list∧Own w32 wr W1.heap.size 178 (.slice (some ⟨gw,0,none⟩) 64 cw) X∧W1.grownBy wr none) (fun i _=>64-(intOf i).toNat)
         case atStart=>exact⟨0,by omega,rfl,HS5.1,HX5.1,HG5.1⟩
         case round=>
          clear HS5 HX5 HG5;obtain⟨k,hk,rfl,hS,hX,hG⟩:=hrel;have HSr:=qe hS;have HX:=qe hX;have HG:=qe hG;clear hS hX hG;by_cases hlt2:k<64
          ·skip
           have hck:wr.cell? ⟨gk,k,none⟩=some (w32 (K32.getD k 0#32)):=by
            have h2:k<K32.length:=by rw[j9];exact hlt2
            rw[((HKw.1.kept HG.1 (.inr (by simp[JF]))).at_ h2).1,QR,QT h2];rfl
           have hcw:wr.cell? ⟨gw,k,none⟩=some (w32 (X.getD k 0#32)):=by
            have h2:k<X.length:=by rw[HXl.1];exact hlt2
            rw[(HX.1.at_ h2).1,QR,QT h2];rfl
           have hstep:qJ.rounds X H (k+1)=qJ.step (K32.getD k 0#32) (X.getD k 0#32) (qJ.rounds X H k):=rfl;have hSr:=HSr.1;generalize X.getD k 0#32=xw at hcw hstep;generalize K32.getD k 0#32=xk at hck hstep;clear HSr;generalize qJ.rounds X H k=R at hSr hstep;obtain⟨y0,y1,y2,y3,y4,y5,y6,y7⟩:=R;have s0:=hSr.at_ (k:=0) (u:=y0) rfl;have s1:=hSr.at_ (k:=1) (u:=y1) rfl;have s2:=hSr.at_ (k:=2) (u:=y2) rfl
           have s4:=hSr.at_ (k:=4) (u:=y4) rfl;have s5:=hSr.at_ (k:=5) (u:=y5) rfl;have s6:=hSr.at_ (k:=6) (u:=y6) rfl;have s7:=hSr.at_ (k:=7) (u:=y7) rfl;simp only[w32]at hck hcw s0 s1 s2 s4 s5 s6 s7;have lk:(k:Int)<64:=by omega
           have hdec:decide ((k:Int)<64)=true:=by simp;omega
           have Hst:=qe hstep;have HSr:=qe hSr;clear hstep hSr;go_wp2_with fail
           go_quiet ((go_at_call 146;exact qa0 (qeY _ _ _ (by decide))))
           generalize hT1:y7+(vz y4 26^^^vz y4 21^^^vz y4 7)+(y4&&&y5^^^4294967295#32-y4&&&y6)+xk+xw=T1;have HT1:=qe hT1;have HX2:=qe (show Own w32 (wr.drewN nq) W1.heap.size 178 (.slice (some ⟨gw,0,none⟩) 64 cw) X from HX.1);have HG2:=qe (zg HG.1 nq);have HSr2:=qe (HSr.1.drewN nq);have D:=qe (show(wr.drewN nq).cell? ⟨gs,0,none⟩=some (.int .u32 (bv y0))∧(wr.drewN nq).cell? ⟨gs,1,none⟩=some (.int .u32 (bv y1))∧(wr.drewN nq).cell? ⟨gs,2,none⟩=some (.int .u32 (bv y2))from⟨s0,s1,s2⟩)
           clear hT1 HX HG HSr hcw hck s0 s1 s2 s4 s5 s6 s7;generalize wr.drewN nq=wv at HX2 HG2 HSr2 D ⊢;obtain⟨s0,s1,s2⟩:=D.1;clear D;go_wp2_with fail
           go_quiet ((go_at_call 146;exact qa0 (qeY _ _ _ (by decide))))
           generalize hT2:(vz y0 30^^^vz y0 19^^^vz y0 10)+(y0&&&y1^^^y0&&&y2^^^y1&&&y2)=T2;have HT2:=qe hT2;have HX3:=qe (show Own w32 (wv.drewN nq) W1.heap.size 178 (.slice (some ⟨gw,0,none⟩) 64 cw) X from HX2.1);have HG3:=qe (zg HG2.1 nq);have HSr3:=qe (show Arr w32 (wv.drewN nq) gs 229 (yG (S8.list ⟨y0,y1,y2,y3,y4,y5,y6,y7⟩) 7)from HSr2.1.drewN nq);clear hT2 HX2 HG2 HSr2 s0 s1 s2
           generalize wv.drewN nq=wu at HX3 HG3 HSr3 ⊢;go_wp2_with fail
           go_loopw [19] (fun i wr=>∃j:Nat,j≤7∧i= .int .i64 j∧Arr w32 wr gs 229 (yG (S8.list ⟨y0,y1,y2,y3,y4,y5,y6,y7⟩) j)∧Own w32 wr W1.heap.size 178 (.slice (some ⟨gw,0,none⟩) 64 cw) X∧W1.grownBy wr none) (fun i _=>(intOf i).toNat)
           case atStart=>exact⟨7,by omega,rfl,HSr3.1,HX3.1,HG3.1⟩
           case round=>
            clear HSr3 HX3 HG3;obtain⟨j,hj,rfl,hS,hX,hG⟩:=hrel;have HSr:=qe hS;have HX:=qe hX;have HG:=qe hG;clear hS hX hG;cases j with
            |succ j=>
             have c1:=HSr.1.cellD (k:=j) (by rw[qeX _ _ hj];omega) 0#32;have c2:=HSr.1.cellD (k:=j+1) (by rw[qeX _ _ hj];omega) 0#32;have f2:=HSr.1.frozen (j+1);have hs:=qkA (⟨y0,y1,y2,y3,y4,y5,y6,y7⟩:S8 32) j (by omega);rw[qlW _ _ (by omega)]at c1;generalize(S8.list ⟨y0,y1,y2,y3,y4,y5,y6,y7⟩).getD j 0#32=z at c1 hs;simp only[w32]at c1 c2;obtain⟨jj,hjj⟩:∃jj,jj=j+1:=⟨_,rfl⟩;rw[←hjj]at c2 f2 hs hj ⊢
             have d1:(jj:Int)-1=(j:Int):=by omega
             have lj:(jj:Int)<8:=by omega
             have lp:(0:Int)<(jj:Int):=by omega
             have lj2:(j:Int)<8:=by omega
             have Hs:=qe hs;have Hjj:=qe hjj;clear hs hjj;go_wp2_with fail
             go_roundw
             case rel=>exact⟨j,by omega,rfl,(HSr.1.set_ jj z).cast (by rw[Hjj.1]at Hs ⊢;exact Hs.1),HX.1.kept (jJ (J8 _ _) (.inl rfl) _) (.inr (qai HSr.1 (by decide) HX.1)),jJ HG.1 (.inr hgsW) _⟩
             case measure=>simp[intOf];omega
            |zero=>
             have s4:=HSr.1.at_ (k:=4) (u:=y3) rfl;have s0:=HSr.1.at_ (k:=0) (u:=y0) rfl;have f4:=HSr.1.frozen 4;have f0:=HSr.1.frozen 0;simp only[w32]at s4 s0;go_wp2_with fail
             go_roundw
             case rel=>
              refine⟨k+1,by omega,by go_num,?_,?_,?_⟩
              ·rw[Hst.1]
               have h2:=(HSr.1.set_ 4 (y3+T1)).set_ 0 (T1+T2);refine h2.cast ?_;rw[←HT1.1,←HT2.1,qkz];rfl
              ·exact(HX.1.kept (jJ (J8 _ _) (.inl rfl) _) (.inr (qai HSr.1 (by decide) HX.1))).kept (jJ (J8 _ _) (.inl rfl) _) (.inr (qai (HSr.1.set_ 4 (y3+T1)) (by decide) (HX.1.kept (jJ (J8 _ _) (.inl rfl) _) (.inr (qai HSr.1 (by decide) HX.1)))))
              ·exact jJ (jJ HG.1 (.inr hgsW) _) (.inr hgsW) _
             case measure=>simp[intOf];omega
          ·obtain rfl:k=64:=by omega
           rw[show(((64:Nat)):Int)=64 from rfl];obtain⟨R,hR⟩:∃R,R=qJ.rounds X H 64:=⟨_,rfl⟩;have hS2:=HSr.1;rw[←hR]at hS2;have HRe:=qe hR;have HSr2:=qe hS2;have hh:=HHa.1.grown HG.1 (by simp);have HA0:=qe (show Arr w32 wr w1.heap.size 229 (yY H R 0)from hh);have HG0:=qe (show W0.grownBy wr (some w1.heap.size)from⟨HG.1.os.trans HGa.1.os,HG.1.tape.trans HGa.1.tape,HG.1.output.trans HGa.1.output,Nat.le_trans HGa.1.size HG.1.size,fun i hi hne=>(HG.1.block i (Nat.lt_of_lt_of_le hi HGa.1.size) (by simp)).trans (HGa.1.block i hi hne)⟩)
           have HNe:=qe (show gs≠w1.heap.size by omega);clear hR hS2 hh HSr HX HG hlt2 hk;go_wp2_with fail
           go_loopw [20] (fun i wr=>∃k:Nat,k≤8∧i= .int .i64 k∧Arr w32 wr w1.heap.size 229 (yY H R k)∧Arr w32 wr gs 229 R.list∧W0.grownBy wr (some w1.heap.size)) (fun i _=>8-(intOf i).toNat)
           case atStart=>exact⟨0,by omega,rfl,HA0.1,HSr2.1,HG0.1⟩
           case round=>
            clear HA0 HSr2 HG0;obtain⟨k,hk,rfl,hd,hr,hG⟩:=hrel;have HD3:=qe hd;have HR3:=qe hr;have HG3:=qe hG;clear hd hr hG;by_cases hlt2:k<8
            ·have c1:=HD3.1.cellD (k:=k) (by rw[qko _ _ _ hk];exact hlt2) 0#32
             have f1:=HD3.1.frozen k;have c2:=HR3.1.cellD (k:=k) (by rw[S8.list_len];exact hlt2) 0#32;rw[qgu _ _ _ hlt2]at c1;have hs:=qeP H R k hlt2;generalize H.list.getD k 0#32=x1 at c1 hs;generalize R.list.getD k 0#32=x2 at c2 hs;simp only[w32]at c1 c2;have lk:(k:Int)<8:=by omega
             have Hs:=qe hs;clear hs;go_wp2_with fail
             go_still_tail 9,(by kernel_rfl)
             go_wp2_with fail
             go_roundw
             case rel=>
              refine⟨k+1,by omega,by go_num,?_,?_,?_⟩
              ·exact(HD3.1.drew.set_ k (x1+x2)).cast Hs.1
              ·exact HR3.1.drew.far (by exact HNe.1) _
              ·exact jJ (zg HG3.1 1) (.inl rfl) _
             case measure=>simp[intOf];omega
            ·obtain rfl:k=8:=by omega
             rw[show(((8:Nat)):Int)=8 from rfl];go_wp2_with fail
             go_roundw
             case rel=>
              refine⟨j+1,at_+64,by rw[Hat.1];omega,hlt,by go_num,?_,HG3.1⟩;rw[qa1,show qJ.size=64 from rfl,Nat.mul_comm j 64,←HQ.1,←HHe.1,qjm,←HXe.1,←HRe.1];exact HD3.1
             case measure=>simp[intOf];omega
    ·obtain rfl:j=NP:=by omega
     have hatL:at_=LP:=by rw[hat,HLP.1]
     subst hatL;have hgd:¬((at_:Int)<(at_:Int)):=by omega
     have HO5:=qe (HO4.1.grown HGa.1 (by simp;omega));have HB5:=qe (HB4.1.grown HGa.1 HB4.1.size (fun k e=>by cases e;omega));have hHl:=HHa.1.lt;obtain⟨O,hO⟩:∃O,O=H.list.flatMap qbR:=⟨_,rfl⟩;have hOl:O.length=32:=by rw[hO,qcu]
     have hOs:O=zt xs:=by rw[hO,HHe.1,HPe.1];unfold zt;rw[HNP.1,HPe.1,HM.1]
     have hat4:=fun t (ht:t<32)=>qgC H (t/4) (t % 4) (by omega) (by omega)
     rw[←hO]at hat4;have HAt:=qe hat4;have HOl:=qe hOl;have HOs:=qe hOs;have HA0:=qe (show Arr b8 (W1.alloc (.cells ((QL 32 0#8).map b8).toArray 23)) W1.heap.size 23 (ky O 0)from(Arr.new b8 W1 23 (QL 32 0#8)).cast (by rw[qgB,hOl]));have HH6:=qe (HHa.1.alloc (.cells ((QL 32 0#8).map b8).toArray 23));have HO6:=qe (HO5.1.alloc (.cells ((QL 32 0#8).map b8).toArray 23))
     have HB6:=qe (HB5.1.alloc HB5.1.size (.cells ((QL 32 0#8).map b8).toArray 23));have hgo:w.heap.size<W1.heap.size:=HO5.1.lt;clear hO hOl hOs hat4 HO5 HB5 hat;go_wp2_with fail
     go_loopw [22] (fun i wr=>∃t:Nat,t≤32∧i= .int .i64 t∧Arr b8 wr W1.heap.size 23 (ky O t)∧Arr w32 wr w1.heap.size 229 H.list∧Arr b8 wr w.heap.size 23 (QL 32 0#8)∧Below w.heap.size w wr) (fun i _=>32-(intOf i).toNat)
     case atStart=>exact⟨0,by omega,rfl,HA0.1,HH6.1,HO6.1,HB6.1⟩
     case round=>
      clear HA0 HH6 HO6 HB6;obtain⟨t,ht,rfl,ha,hh,ho,hb⟩:=hrel;have HA:=qe ha;have HH7:=qe hh;have HO7:=qe ho;have HB7:=qe hb;clear ha hh ho hb;by_cases hlt2:t<32
      ·have hv:=HAt.1 t hlt2
       rw[show 4*(t/4)+t % 4=t by omega]at hv;obtain⟨q,hq⟩:∃q,q=t/4:=⟨_,rfl⟩;obtain⟨r,hr⟩:∃r,r=t % 4:=⟨_,rfl⟩;have c1:=HH7.1.cellD (k:=q) (by rw[S8.list_len];omega) 0#32;have c2:=HA.1.cellD (k:=t) (by rw[qdF _ _ (by rw[HOl.1];omega),HOl.1];exact hlt2) 0#8;have f2:=HA.1.frozen t;rw[←hq,←hr]at hv;generalize H.list.getD q 0#32=x at c1 hv;simp only[w32]at c1;have d1:(t:Int).tdiv 4=(q:Int):=by rw[Int.tdiv_eq_ediv_of_nonneg (by omega)];omega
       have d2:(t:Int).tmod 4=(r:Int):=by rw[Int.tmod_eq_emod_of_nonneg (by omega)];omega
       have r4:r<4:=by omega
       have q8:(q:Int)<8:=by omega
       have t32:(t:Int)<32:=by omega
       obtain⟨sh,hsh⟩:∃sh,sh=24-8*r:=⟨_,rfl⟩;have e1:(24:Int)-8*(r:Int)=(sh:Int):=by omega
       have e2:IntKind.u64.wrap (sh:Int)=(sh:Int):=by rw[IntKind.wrap_u64];omega
       have Hv:=qe hv;have Hsh:=qe hsh;clear hv hq hr hsh;go_wp2_with fail
       go_roundw
       case rel=>
        refine⟨t+1,by omega,by go_num,?_,HH7.1.far (by simp;omega) _,HO7.1.far (by simp;omega) _,HB7.1.setCell (p:=⟨W1.heap.size,t,none⟩) (by simp;omega) _⟩;have h2:=HA.1.set_ t ((x>>>sh).setWidth 8);refine h2.cast ?_;rw[Hsh.1,←Hv.1];exact qdH _ _ (by rw[HOl.1];exact hlt2)
       case measure=>simp[intOf];omega
      ·obtain rfl:t=32:=by omega
       rw[show(((32:Nat)):Int)=32 from rfl];have HA2:=qe (show Arr b8 wr W1.heap.size 23 O from HA.1.cast (by have:=qdG O;rw[HOl.1]at this;exact this));clear HA;go_wp2_with (first
        |refine qm rfl 23 (.tmp 21) rfl W1.heap.size rfl _ O HA2.1 _ underlying23 rfl (by rw[qR,HOl.1]) ?_
        |(refine qk rfl 23 (.tmp 2) (.tmp 251) rfl w.heap.size rfl O rfl _ _ HO7.1 (by rw[HOl.1];rfl) (by rw[qR,HOl.1]) qU ?_;intro w9 hx9 hg9))
       refine bodyPost_ret (v:= .agg (O.map b8).toArray) (qY (g:=w.heap.size) rfl _ _ _ _ _ rfl hx9 underlying23 rfl (by rw[qR,HOl.1])) rfl ?_;exact⟨by rw[qn,HOs.1],HB7.1.grown hg9 HB7.1.size (fun k e=>by cases e;exact QI _)⟩
theorem qaA(w:World):Own b8 (w.alloc (.cells #[] 5)) w.heap.size 5 (.slice (some ⟨w.heap.size,0,none⟩) 0 0) []:=
 ⟨by simp,.inr ⟨w.heap.size,0,#[],rfl,QI _,heap_alloc_new w _,by simp,by simp[maxLen],by simp,by simp⟩⟩
end
end Go.Proofs.YtelgjaiknaalkaaGreatDoor
