/- Lemmas. -/
import Derived.Test.YtelgjaiknaalkaaGreatDoorPu01
import Derived.Stop.BytesEq
import Derived.TacticsIn
import Derived.RangeFuncCalls
import Derived.Lib.SlBytesConst
open Go.Proofs.Tryz
open List renaming setIfInBounds_toArray → qj
open List renaming set_cons_zero → qz
open List renaming set_cons_succ → qv
open Go.Oper renaming semAt_some → Ze
open List renaming length_append → QO, length_map → QN, mem_map → QW, length_drop → Jf, append_assoc → Jb, take_append_drop → JV, length_take → QV, nil_append → Ji, replicate → QL, length_replicate → Jz, take_length → Zh, set_append_right → Zp, take_succ_eq_append_getElem → Zd, getD → QR, getElem?_eq_getElem → QT, range → Q6, range_succ → JU, length_cons → Jr, cons_append → JL, foldl_cons → J4, map_append → Q9, map_cons → Jd, getElem_mem → Q5, take_of_length_le → Js, append_nil → Zb
open Go.Value renaming ownBlock → JF, int → QM
open Go.RowKit.Below renaming refl → QK
open Nat renaming le_refl → QI, min_eq_left → JJ
open Go.World renaming size_alloc → QQ, alloc → QY
open BitVec renaming ofNat → QP, toNat_ofNat → Q8
open Int renaming tmod_eq_emod_of_nonneg → Zs
set_option linter.unusedVariables false
set_option linter.unusedSimpArgs false
set_option maxRecDepth 100000
set_option maxHeartbeats 4000000
namespace Go.Proofs.YtelgjaiknaalkaaGreatDoor
section
open Go.RowKit
attribute [local go_sem] Ze
theorem qbT{P:Program}{ops:Array Oper}{rest:List Oper}{op:Oper}{a:Act}{w:World}{Q:Exit→Act→World→Prop}(hgd:op.guard=none)(ty:TypeId)(x y:Operand)(ho:op.op= .store ty x y)
 (g:Nat)(hx:a.eval x= .pointer (some ⟨g,0,none⟩))(cs:List Value)(hy:a.eval y= .agg cs.toArray)(T:TypeId)(old:List Value)(hA:Blk w g T old)(hl:old.length=cs.length)
 (hi:(P.info? ty).map (·.size)=some cs.length)(h1:∀u∈cs,u.oneCell'=true)
 (h:∀w',Blk w' g T cs→w.grownBy w' (some g)→wpList P ops Q rest (a.put op.dst undef) w'):wpList P ops Q (op::rest) a w:=by
 obtain⟨h2,h3⟩:=zA (f:=fun v:Value=>v) cs [] old w hl (by simpa using hA.arr);rw[List.map_id']at h2 h3;refine wpList_store_mid hgd ty x y ho g 0 cs.toArray hx hy ?_ ?_ ?_ ?_
 ·exact hA.arr.there (by simp[hl])
 ·rw[hi];simp
 ·exact all_oneCell_toArray (fun v hv=>h1 v hv)
 ·simp only
  exact h _ (qjk (by simpa using h2)) h3
def yZ(s:List (BitVec 32))(rv:Value)(n:Int):List Value:=s.map w32++ [rv,.int .i64 n]
theorem qeS(s:List (BitVec 32))(hs:s.length=8)(rv:Value)(n:Int):(yZ s rv n).length=10:=by
 unfold yZ;rw[QO,QN,hs];rfl
theorem qkq(s:List (BitVec 32))(A:Option Addr)(m c:Nat)(n:Int):∀u∈yZ s (.slice A m c) n,u.oneCell'=true:=by
 intro u hu;unfold yZ at hu;simp only[List.mem_append,QW,List.mem_cons,List.not_mem_nil,or_false]at hu;rcases hu with⟨x,_,rfl⟩|rfl|rfl<;>rfl
theorem qlM:(prog.info? 238).map (·.size)=some 10:=by kernel_rfl
theorem qkr(n h:Nat)(hh:64*h≤n):yu (n-64*h) 64 8=yu n 64 8:=by
 unfold yu;have:(n-64*h) % 64=n % 64:=by omega
 rw[this]
theorem qgA(t:qf)(h NP:Nat)(hh:64*h≤t.length)(hP:(zb (t.drop (64*h)) t.length 64 8).length=64*NP):
 qJ.pieces NP (zb (t.drop (64*h)) t.length 64 8) (qJ.pieces h t jZ)=qJ.pieces ((zb t t.length 64 8).length/64) (zb t t.length 64 8) jZ:=by
 have e1:zb t t.length 64 8=t.take (64*h)++zb (t.drop (64*h)) t.length 64 8:=by
  unfold zb;rw[Jf,qkr _ _ hh,←Jb,JV]
 have hl:(t.take (64*h)).length=64*h:=by rw[QV];omega
 have e2:(zb t t.length 64 8).length/64=h+NP:=by rw[e1,QO,hl,hP];omega
 have e3:(zb t t.length 64 8).drop (h*64)=zb (t.drop (64*h)) t.length 64 8:=by
  rw[e1,List.drop_append_of_le_length (by omega),List.drop_of_length_le (by omega),Ji]
 have e4:qJ.pieces h (zb t t.length 64 8) jZ=qJ.pieces h t jZ:=by
  unfold zb;exact Sha.pieces_app qJ h t _ jZ (by show h*64≤_;omega)
 rw[e2,Sha.pieces_add,show qJ.size=64 from rfl,e3,e4]
def ky(xs:qf)(k:Nat):qf:=xs.take k++QL (xs.length-k) 0#8
theorem qdF(xs:qf)(k:Nat)(hk:k≤xs.length):(ky xs k).length=xs.length:=by
 unfold ky;rw[QO,QV,Jz];omega
theorem qgB(xs:qf):ky xs 0=QL xs.length 0#8:=rfl
theorem qdG(xs:qf):ky xs xs.length=xs:=by
 unfold ky;rw[Nat.sub_self,Zh];simp
theorem qdH(xs:qf)(k:Nat)(hk:k<xs.length):(ky xs k).set k (xs.getD k 0#8)=ky xs (k+1):=by
 have e:xs.length-k=(xs.length-(k+1))+1:=by omega
 have hl:(xs.take k).length=k:=by rw[QV];omega
 unfold ky;rw[e,List.replicate_succ,Zp _ _ (by omega),hl,Nat.sub_self,qz,Zd hk,Jb];simp[QR,QT hk]
theorem qcu(R:S8 32):(R.list.flatMap qbR).length=32:=rfl
theorem qgC(R:S8 32)(i j:Nat)(hi:i<8)(hj:j<4):(R.list.flatMap qbR).getD (4*i+j) 0#8=((R.list.getD i 0#32)>>>(24-8*j)).setWidth 8:=by
 match i,hi,j,hj with
 |0,_,0,_=>rfl
 |0,_,1,_=>rfl
 |0,_,2,_=>rfl
 |0,_,3,_=>rfl
 |1,_,0,_=>rfl
 |1,_,1,_=>rfl
 |1,_,2,_=>rfl
 |1,_,3,_=>rfl
 |2,_,0,_=>rfl
 |2,_,1,_=>rfl
 |2,_,2,_=>rfl
 |2,_,3,_=>rfl
 |3,_,0,_=>rfl
 |3,_,1,_=>rfl
 |3,_,2,_=>rfl
 |3,_,3,_=>rfl
 |4,_,0,_=>rfl
 |4,_,1,_=>rfl
 |4,_,2,_=>rfl
 |4,_,3,_=>rfl
 |5,_,0,_=>rfl
 |5,_,1,_=>rfl
 |5,_,2,_=>rfl
 |5,_,3,_=>rfl
 |6,_,0,_=>rfl
 |6,_,1,_=>rfl
 |6,_,2,_=>rfl
 |6,_,3,_=>rfl
 |7,_,0,_=>rfl
 |7,_,1,_=>rfl
 |7,_,2,_=>rfl
 |7,_,3,_=>rfl
theorem qks{xs:List (BitVec 32)}{i:Nat}(hx:xs.length=8)(hi:i<8)(w:World):(Instr.index 229 (.agg (xs.map w32).toArray) (.int .i64 i)).run prog w= .ok (w32 (xs.getD i 0#32)) w:=by
 have hu:=underlying229;have h1:(xs.map w32).toArray[i]?=some (w32 (xs.getD i 0#32)):=by simp[QR,hx,hi]
 have h2:(0:Int)≤i∧(i:Int)<8:=by omega
 have h3:i<8:=hi;have h4:xs[i]?=some (xs.getD i 0#32):=by simp[QR,hx,hi]
 simp[Instr.index,run_underlying hu,asIntOf,h3,go_sem];rw[h4];simp[go_sem,QR]
theorem qR:(prog.info? 23).map (·.size)=some 32:=by kernel_rfl
def Qg{n:Nat}(c:Sha n)(P:qf)(s:S8 n)(l:List Nat):S8 n:=l.foldl (fun s i=>c.piece s ((P.drop (c.size*i)).take c.size)) s
theorem qdI{n:Nat}(c:Sha n)(P:qf)(s:S8 n)(l:List Nat)(i:Nat):Qg c P s (l++ [i])=c.piece (Qg c P s l) ((P.drop (c.size*i)).take c.size):=by
 unfold Qg;rw[List.foldl_append];rfl
theorem qcV{n:Nat}(c:Sha n)(P:qf)(s:S8 n):∀k,Qg c P s (Q6 k)=c.pieces k P s
 |0=>rfl
 |k+1=>by rw[JU,qdI,qcV c P s k,qa1,Nat.mul_comm]
section
variable{W W':World}{row:Option Nat}
theorem qoY{g:Nat}{T:TypeId}{cs:List Value}(h:Blk W g T cs)(hg:W.grownBy W' row)(hr:∀r,row=some r→∃o:Obj,W.heap[r]?=some o∧o.isCells=false):Blk W' g T cs:=
 h.grown hg (fun e=>by
  obtain⟨o,ho,hn⟩:=hr g e.symm;have:W.heap[g]?=some (.cells cs.toArray T (0,0)):=h;rw[this]at ho;cases ho;cases hn)
theorem qno{α:Type}{f:α→Value}{g:Nat}{T:TypeId}{xs:List α}(h:Arr f W g T xs)(hg:W.grownBy W' row)(hr:∀r,row=some r→∃o:Obj,W.heap[r]?=some o∧o.isCells=false):Arr f W' g T xs:=
 h.grown hg (fun e=>by
  obtain⟨o,ho,hn⟩:=hr g e.symm;have:W.heap[g]?=some (.cells (xs.map f).toArray T (0,0)):=h;rw[this]at ho;cases ho;cases hn)
theorem qnp{g:Nat}{T:TypeId}{v:Value}(h:Boxed W g T v)(hg:W.grownBy W' row)(hr:∀r,row=some r→∃o:Obj,W.heap[r]?=some o∧o.isCells=false):Boxed W' g T v:=
 h.kept hg (fun e=>by
  obtain⟨o,ho,hn⟩:=hr g e.symm;have:W.heap[g]?=some (.cells #[v] T (0,0)):=h;rw[this]at ho;cases ho;cases hn)
theorem qok{α:Type}{f:α→Value}{B E:Nat}{v:Value}{xs:List α}(h:Own f W B E v xs)(hg:W.grownBy W' row)(hr:∀r,row=some r→∃o:Obj,W.heap[r]?=some o∧o.isCells=false):Own f W' B E v xs:=
 h.kept' hg (fun g e hv=>by
  obtain⟨o,ho,hc⟩:=hr g e;rcases h.2 with⟨rfl,_⟩|⟨g',cap,cur,rfl,_,hg',_⟩
  ·cases hv
  ·obtain rfl:g'=g:=by simpa[JF]using hv
   rw[hg']at ho;cases ho;cases hc)
theorem qoZ{g:Nat}{s:List (BitVec 32)}{rv:Value}{n:Int}(h:Dig W g s rv n)(hg:W.grownBy W' row)(hr:∀r,row=some r→∃o:Obj,W.heap[r]?=some o∧o.isCells=false):Dig W' g s rv n:=⟨h.1,qoY h.2 hg hr⟩
end
structure SmI(ge gk go b c NP bs bn:Nat)(P:qf)(rv:Value)(n:Int)(s:S8 32)(W:World):Prop where
 e:Dig W ge s.list rv n
 k:Arr w32 W gk 241 K32
 o:Arr b8 W go 23 (QL 32 0#8)
 p:Own b8 W 0 5 (.slice (some ⟨b,0,none⟩) (64*NP) c) P
 s:Boxed W bs 28 (.slice (some ⟨b,0,none⟩) (64*NP) c)
 n:Boxed W bn 3 (.int .i64 64)
theorem SmI.own{ge gk go b c NP bs bn:Nat}{P:qf}{rv:Value}{n:Int}{s:S8 32}{W W':World}{row:Option Nat}(h:SmI ge gk go b c NP bs bn P rv n s W)(hg:W.grownBy W' row)(hr:∀r,row=some r→∃o:Obj,W.heap[r]?=some o∧o.isCells=false):SmI ge gk go b c NP bs bn P rv n s W':=
 ⟨qoZ h.e hg hr,qno h.k hg hr,qno h.o hg hr,qok h.p hg hr,qnp h.s hg hr,qnp h.n hg hr⟩
theorem qjp(w:World)(g B:Nat)(t:qf)(hd:uL w g B t)(hbig:t.length≤50000000):
 Calls prog 150 #[.pointer (some ⟨g,0,none⟩)] w fun e w'=>e= .returned (jL b8 (zt t))∧Below w.heap.size w w':=by
 obtain⟨rv,hd,hown⟩:=hd;obtain⟨h,hh⟩:∃h,h=t.length/64:=⟨_,rfl⟩;rw[←hh]at hd hown;obtain⟨nr,hnr⟩:∃nr,nr=(t.drop (64*h)).length:=⟨_,rfl⟩;obtain⟨Ar,cr,rfl,hrr,hAr,hcr,-⟩:=hown.shape' hnr.symm;obtain⟨S,hS⟩:∃S,S=qJ.pieces h t jZ:=⟨_,rfl⟩;obtain⟨N,hN⟩:∃N,N=t.length:=⟨_,rfl⟩;rw[←hS,←hN]at hd;have hgl:=hd.lt;have HD:=qe hd;have HO:=qe hown;have HRr:=qe hrr;have HNr:=qe hnr;have HAr:=qe hAr
 have HS:=qe hS;have HN:=qe hN;have Hh:=qe hh;have hnr2:nr≤64∧N≤50000000:=by rw[Jf]at hnr;omega
 clear hd hown hrr hnr hAr hS hN hh hbig;have HE0:=qe (show Blk ((w.alloc (.cells ((QL 32 0#8).map b8).toArray 23)).alloc (.cells (yZ (QL 8 0#32) (.slice none 0 0) 0).toArray 238)) (w.heap.size+1) 238 (yZ (QL 8 0#32) (.slice none 0 0) 0)from Blk.at_size _ _ (by simp));have HD0:=qe (HD.1.alloc (.cells ((QL 32 0#8).map b8).toArray 23));refine(callsIn_wide (n:=9)).1 ?_
 refine callsIn_of_wp_marks func150 rfl trivial ?_ rfl;simp only[ntmps150,List.size_toArray,Jr,List.length_nil,Nat.reduceAdd,Nat.reduceSub,Array.replicate_succ,Array.replicate_zero,List.push_toArray,List.append_toArray,Ji,JL];refine wpIn_wide.2 ?_;go_wp2_with (first
  |refine wpList_load_mid rfl 238 (.tmp 13) rfl g 0 rfl (yZ S.list (.slice Ar nr cr) N) _ HD0.1.2.whole underlying238 rfl (by rw[qeS _ (S8.list_len _)];exact qlM) ?_
  |(refine qbT rfl 238 (.tmp 3) (.tmp 14) rfl (w.heap.size+1) rfl (yZ S.list (.slice Ar nr cr) N) rfl _ _ HE0.1 rfl (by rw[qeS _ (S8.list_len _)];exact qlM) (qkq _ _ _ _ _) ?_;intro w3 he3 hg3))
 have hz3:w.heap.size+2≤w3.heap.size:=by have:=hg3.size;simpa using this
 have hR3:Arr b8 w3 w.heap.size 23 (QL 32 0#8):=((Arr.new b8 w 23 (QL 32 0#8)).alloc _).grown hg3 (by simp);have hb3:Below w.heap.size w w3:=(((QK _ w).alloc (QI _) _).alloc (by simp) _).grown hg3 (by simp;omega) (fun k e=>by cases e;omega);have HR3:=qe hR3;have HB3:=qe hb3;have HE3:=qe (show Dig w3 (w.heap.size+1) S.list (.slice Ar nr cr) N from⟨S8.list_len _,he3⟩)
 clear he3 hg3 hR3 hb3 HE0 HD0;refine(qdD _).mono ?_;rintro e w4 ⟨rfl,hb4⟩;have hz4:=hb4.size;have HK0:=qe (show Arr w32 (w4.alloc (.cells ((QL 64 0#32).map w32).toArray 241)) w4.heap.size 241 (QL 64 0#32)from Arr.new w32 w4 _ _);have HR4:=qe ((HR3.1.below hb4 (by omega)).alloc (.cells ((QL 64 0#32).map w32).toArray 241));have HE4:=qe ((HE3.1.below hb4 (by omega)).alloc (.cells ((QL 64 0#32).map w32).toArray 241))
 have HB4:=qe ((HB3.1.trans (hb4.mono (by omega))).alloc (by omega) (.cells ((QL 64 0#32).map w32).toArray 241));clear hb4 HR3 HE3 HB3;go_wp2_with (refine qk rfl 241 _ _ rfl w4.heap.size rfl K32 rfl _ _ HK0.1 (by kernel_rfl) (by rw[qdC,j9]) ug ?_;intro w5 hx5 hg5)
 have hz5:w4.heap.size+1≤w5.heap.size:=by have:=hg5.size;rw[QQ]at this;exact this
 have HK5:=qe hx5;have HR5:=qe (HR4.1.grown hg5 (by simp;omega));have HE5:=qe (HE4.1.grown hg5 (by simp;omega));have HB5:=qe (HB4.1.grown hg5 (by simp;omega) (fun k e=>by cases e;omega));clear hx5 hg5 HK0 HR4 HE4 HB4;have HD5:=qe (HD.1.below HB5.1 hgl);have c8:=HD5.1.rest;have c9:=HD5.1.count;have hpd:=qid (t.drop (64*h)) N nr 64 8 (.inl ⟨rfl,rfl⟩) (by omega) w5.drew w.heap.size Ar cr ((HRr.1.below HB5.1).drew) HB5.1.size HNr.1 (fun e=>by have:=HAr.1 e;omega) (by omega)
 have HPd:=qe (show Calls prog 156 #[.slice Ar nr cr,.int .i64 (N:Int),.int .i64 64,.int .i64 8] w5.drew _ from hpd);clear hpd
 go_frame
 go_still_tail 8,(by kernel_rfl)
 go_wp2_with fail
 refine HPd.1.mono ?_;rintro e w6 ⟨v6,rfl,hown6,hb6⟩;obtain⟨P,hP⟩:∃P,P=zb (t.drop (64*h)) N 64 8:=⟨_,rfl⟩;obtain⟨NP,hNP⟩:∃NP,NP=P.length/64:=⟨_,rfl⟩;have hPl:P.length=64*NP∧0<NP∧NP≤3:=by
  have h1:=qbS nr 64 8 (.inl ⟨rfl,rfl⟩);have h2:=qdl nr 64 8 (.inl ⟨rfl,rfl⟩);have h3:P.length=nr+1+yu nr 64 8+8:=by
   rw[hP];unfold zb;rw[←HNr.1,QO,Jr,QO,Jz,qdj,←HNr.1];omega
  rw[hNP,h3];omega
 rw[←hP]at hown6;obtain⟨b6,c6,e6,hb6g,hb6l,hc6⟩:=hown6.form' hPl.1 (by omega);subst e6;have hz6:=hb6.size;simp only[World.size_drew]at hz6 hb6g;have hb56:Below w5.heap.size w5 w6:=Below.trans ((QK _ w5).drew) hb6;have HO6:=qe hown6;have HK6:=qe (HK5.1.below hb56 HK5.1.lt);have HR6:=qe (HR5.1.below hb56 (by omega));have HE6:=qe (HE5.1.below hb56 (by omega));have HB6:=qe (HB5.1.trans (hb56.mono HB5.1.size))
 have HP:=qe hP;have HPl:=qe hPl.1;have hNP3:0<NP∧NP≤3:=hPl.2;clear hown6 hb6 hb56 hP hPl hNP HK5 HR5 HE5 HB5 HPd c8 c9 HD5;have hch:=qeR (some ⟨b6,0,none⟩) (64*NP) c6 64 (by omega) (by omega) w6;have HCh:=qe (show Calls prog 114 #[.slice (some ⟨b6,0,none⟩) (64*NP) c6,.int .i64 64] w6 _ from hch);clear hch;go_wp2_with fail
 refine HCh.1.mono ?_;rintro e w7 ⟨rfl,rfl⟩;go_wp2_with fail
 generalize hW7:QY (QY w6 _) _=W7;have hI7:SmI (w.heap.size+1) w4.heap.size w.heap.size b6 c6 NP w6.heap.size (w6.heap.size+1) P (.slice Ar nr cr) N (Qg qJ P S ([]:List Nat)) W7∧Below w.heap.size w W7∧W7.heap.size=w6.heap.size+2:=by
  rw[←hW7];refine⟨⟨(HE6.1.alloc _).alloc _,(HK6.1.alloc _).alloc _,(HR6.1.alloc _).alloc _,((HO6.1.less (Nat.zero_le _)).alloc _).alloc _,?_,?_⟩,?_,by simp⟩
  ·exact(Boxed.new w6 28 _).alloc _
  ·have:=Boxed.new (w6.alloc (.cells #[.slice (some ⟨b6,0,none⟩) (64*NP) c6] 28)) 3 (.int .i64 64)
   rw[QQ]at this;exact this
  ·exact(HB6.1.alloc (HB6.1.size) _).alloc (by have:=HB6.1.size;simp;omega) _
 obtain⟨hI7,hB7,hz7⟩:=hI7;have hw6:w4.heap.size<w6.heap.size:=by omega
 have HI7:=qe hI7;have HB7:=qe hB7;have HZ7:=qe hz7;clear hW7 HE6 HK6 HR6 HO6 HB6 HCh hI7 hB7 hz7;refine(wpIn_wide (n:=9)).1 ?_;refine wpIn_rangeFunc_ownF rfl (by omega) (gf:=131) (lb:= #[.pointer (some ⟨w6.heap.size,0,none⟩),.pointer (some ⟨w6.heap.size+1,0,none⟩)]) rfl trivial (enters_of func131 (by kernel_rfl) rfl)
  (qgz 8 (by omega) b6 c6 64 NP w6.heap.size (w6.heap.size+1) w.heap.size (by omega) (by omega) (by omega) hc6 W7 HI7.1.s HI7.1.n)
  KpC.t (fun W l o o' hl ho hc hw=>⟨(QK _ W).grown (grownBy_putObj' W l o') (by have:=(Array.getElem?_eq_some_iff.1 ho).1;have:=HZ7.1;omega) (fun k e=>by cases e;have:=HZ7.1;omega),World.putObj_heap_other (by have:=HZ7.1;omega),World.putObj_heap_other (by have:=HZ7.1;omega)⟩) (QK _ _) (fun _=>rfl)
  (fun pre W=>SmI (w.heap.size+1) w4.heap.size w.heap.size b6 c6 NP w6.heap.size (w6.heap.size+1) P (.slice Ar nr cr) N (Qg qJ P S (pre.map Subtype.val)) W∧Below w.heap.size w W)
  (fun _ _ _=>False)
  (OwnFrom.and (Go.Own.from (fun s A' B' row hs hg hr=>hs.own hg hr) _) (ownFrom_below (QI _) (by have:=HZ7.1;omega)))
  (fun c s A' B' row hs hg hr=>hs)
  ⟨HI7.1,HB7.1⟩
  (fun x=> {tmps:= #[.pointer (some ⟨g,0,none⟩),undef,.pointer (some ⟨w.heap.size,0,none⟩),.pointer (some ⟨w.heap.size+1,0,none⟩),.pointer (some ⟨w4.heap.size,0,none⟩),.slice (some ⟨b6,64*x.1,none⟩) 64 64,undef,undef,undef,.pointer (some ⟨g,0,none⟩),.bool false,undef,.pointer (some ⟨g,0,none⟩),.pointer (some ⟨g,0,none⟩),.agg (yZ S.list (.slice Ar nr cr) N).toArray,.agg (K32.map w32).toArray,.pointer (some ⟨g,0,none⟩),.pointer (some ⟨g,0,none⟩),.pointer (some ⟨g,8,none⟩),.slice Ar nr cr,.pointer (some ⟨g,0,none⟩),.pointer (some ⟨g,0,none⟩),.pointer (some ⟨g,9,none⟩),.int .i64 N,.slice (some ⟨b6,0,none⟩) (64*NP) c6,.func (.func 131) #[] #[.pointer (some ⟨w6.heap.size,0,none⟩),.pointer (some ⟨w6.heap.size+1,0,none⟩)],.slice (some ⟨b6,64*x.1,none⟩) 64 64,undef,undef,undef,undef,undef,undef,undef,undef,undef,undef,undef,undef,undef,undef,undef,undef,undef,undef,undef,undef,undef,undef,undef,undef,undef],defers:=[]}) ?assign ?body ?done ?stop
 case assign=>
  intro l x W K hK;simp only[qnn,List.zip_toArray,List.zip_cons_cons,List.zip_nil_right,List.zip_nil_left,List.foldl_toArray',List.foldl_toArray,J4,List.foldl_nil,qj,qz,qv]
  gi_wp2
  exact hK
 case body=>
  rintro l pre x W ⟨hI,hB⟩ hN;have hx:=x.2;have hxl:64*x.1+64≤P.length:=by rw[HPl.1];omega
  have hcell:∀i,i<64→W.cell? ⟨b6,64*x.1+i,none⟩=some (b8 (((P.drop (64*x.1)).take 64).getD i 0#8)):=fun i hi=>by
   have h2:64*x.1+i<P.length:=by omega
   rw[qan _ _ _ _ hi h2];exact(hI.p.at_ h2).1
  have hpl:((P.drop (64*x.1)).take 64).length=64:=by rw[QV,Jf];omega
  have hpc:=qeQ (w.heap.size+1) w4.heap.size b6 (64*x.1) 64 (Qg qJ P S (pre.map Subtype.val)) (.slice Ar nr cr) N ((P.drop (64*x.1)).take 64) W hI.e hI.k hpl (hI.p.lt b6 rfl).2 hcell;have HPc:=qe hpc;have HI:=qe hI;have HB:=qe hB;clear hcell hpl hpc hI hB hx hxl;gi_wp2_with fail
  refine⟨trivial,?_⟩;refine(CallsIn.inRound l (callsIn_wide.2 HPc.1)).mono ?_;rintro e W2 ⟨rfl,hd2,hg2⟩;have hge:w.heap.size+1<W.heap.size:=HI.1.e.lt;have hI2:SmI (w.heap.size+1) w4.heap.size w.heap.size b6 c6 NP w6.heap.size (w6.heap.size+1) P (.slice Ar nr cr) N (Qg qJ P S ((pre++ [x]).map Subtype.val)) W2:=by
   refine⟨?_,HI.1.k.grown hg2 (by simp;omega),HI.1.o.grown hg2 (by simp),HI.1.p.kept hg2 (.inr (by have:=HI.1.e.not_row (by decide) HI.1.p;exact fun e=>this e.symm)),HI.1.s.kept hg2 (by simp;omega),HI.1.n.kept hg2 (by simp;omega)⟩;rw[Q9,Jd,List.map_nil,qdI];exact hd2
  have hb2:Below w.heap.size W W2:=(QK _ W).grown hg2 HB.1.size (fun k e=>by cases e;omega);have hk2:KpC w.heap.size w6.heap.size (w6.heap.size+1) W W2:=⟨hb2,hg2.block _ HI.1.s.lt (by simp;omega),hg2.block _ HI.1.n.lt (by simp;omega)⟩;have ho2:KeepsOthers W W2:=KeepsOthers.of_grownBy hg2 (fun j o e ho=>by
   cases e;have:W.heap[w.heap.size+1]?=some (.cells _ _ (0,0)):=HI.1.e.2;rw[this]at ho;cases ho;rfl)
  have HA:=qe (And.intro ho2 (And.intro hk2 (And.intro hI2 (HB.1.trans hb2))));clear hd2 hg2 hI2 hb2 hk2 ho2;gi_wp2_with fail
  exact HA.1
 case done=>
  rintro D ys W hD hys ⟨hI,hB⟩ hK;obtain⟨R,hR⟩:∃R,R=qJ.pieces NP P S:=⟨_,rfl⟩;rw[hys,qcV,←hR]at hI;have HI:=qe hI;have HB:=qe hB;have HK:=qe hK;have HR:=qe hR;clear hI hB hK hR hys;go_wp2_with (refine wpList_load_mid rfl 229 (.tmp 29) rfl (w.heap.size+1) 0 rfl (R.list.map w32) _ HI.1.e.range underlying229 rfl (by rw[QN,S8.list_len];exact Qs) ?_)
  obtain⟨O,hO⟩:∃O,O=R.list.flatMap qbR:=⟨_,rfl⟩;have hOl:O.length=32:=by rw[hO,qcu]
  have hOa:=HI.1.o;have HA0:=qe (show Arr b8 W w.heap.size 23 (ky O (4*0))from hOa.cast (by rw[qgB,hOl]));have HOl:=qe hOl;have HOe:=qe hO;clear hO hOl hOa;have hDz:w.heap.size<D:=by have:=HZ7.1;omega
  have HDz:=qe (show D≠w.heap.size by omega);go_loopw [31] (fun v wr=>∃i:Nat,i≤8∧v= .int .i64 i∧Arr b8 wr w.heap.size 23 (ky O (4*i))∧Below w.heap.size w wr∧wr.heap[D]?=some (.deferred (some []))) (fun v _=>8-(intOf v).toNat)
  case atStart=>exact⟨0,by omega,rfl,HA0.1,HB.1,HK.1⟩
  case round=>
   clear HA0;obtain⟨i,hi,rfl,ha,hb,hk⟩:=hrel;have HA:=qe ha;have HB2:=qe hb;have HK2:=qe hk;clear ha hb hk;by_cases hlt:i<8
   ·have ci:=fun w=>qks (xs:=R.list) (i:=i) (S8.list_len _) hlt w
    have hat:=fun j (hj:j<4)=>qgC R i j hlt hj
    rw[←HOe.1]at hat;generalize R.list.getD i 0#32=x at ci hat;simp only[w32]at ci;have Hat:=qe hat;clear hat;go_wp2_with fail
    clear ci;go_loopw [35] (fun v wr=>∃j:Nat,j≤4∧v= .int .i64 j∧Arr b8 wr w.heap.size 23 (ky O (4*i+j))∧Below w.heap.size w wr∧wr.heap[D]?=some (.deferred (some []))) (fun v _=>4-(intOf v).toNat)
    case atStart=>exact⟨0,by omega,rfl,HA.1,HB2.1,HK2.1⟩
    case round=>
     clear HA HB2 HK2;obtain⟨j,hj,rfl,ha,hb,hk⟩:=hrel;have HA:=qe ha;have HB2:=qe hb;have HK2:=qe hk;clear ha hb hk;by_cases hlt2:j<4
     ·have c1:=HA.1.cellD (k:=4*i+j) (by rw[qdF _ _ (by rw[HOl.1];omega),HOl.1];omega) 0#8
      have f1:=HA.1.frozen (4*i+j);have i1:(0:Int)≤4*(i:Int)+(j:Int):=by omega
      have i2:4*(i:Int)+(j:Int)<32:=by omega
      obtain⟨q,hq⟩:∃q,q=24-8*j:=⟨_,rfl⟩;have e1:(24:Int)-8*(j:Int)=(q:Int):=by omega
      have Hq:=qe hq;clear hq;go_wp2_with fail
      go_roundw
      case rel=>
       refine⟨j+1,by omega,by go_num,?_,HB2.1.setCell (p:=⟨w.heap.size,_,none⟩) (QI _) _,(Below.heap_setCell _ ⟨w.heap.size,_,none⟩ _ _ HDz.1).trans HK2.1⟩;have h2:=HA.1.set_ (4*i+j) ((x>>>q).setWidth 8);refine h2.cast ?_;rw[Hq.1,←Hat.1 j hlt2];exact qdH _ _ (by rw[HOl.1];omega)
      case measure=>simp[intOf];omega
     ·obtain rfl:j=4:=by omega
      rw[show(((4:Nat)):Int)=4 from rfl];go_wp2_with fail
      go_roundw
      case rel=>exact⟨i+1,by omega,by go_num,HA.1.cast (by congr 1),HB2.1,HK2.1⟩
      case measure=>simp[intOf];omega
   ·obtain rfl:i=8:=by omega
    rw[show(((8:Nat)):Int)=8 from rfl];have HA2:=qe (show Arr b8 wr w.heap.size 23 O from HA.1.cast (by have:=qdG O;rw[HOl.1]at this;exact this));clear HA;go_wp2_with (first
     |refine qm rfl 23 _ rfl w.heap.size rfl _ O HA2.1 _ underlying23 rfl (by rw[qR,HOl.1]) ?_
     |(refine qk rfl 23 _ _ rfl w.heap.size rfl O rfl _ _ HA2.1 rfl (by rw[qR,HOl.1]) qU ?_;intro w9 hx9 hg9))
    have hK9:w9.heap[D]?=some (.deferred (some [])):=(hg9.block D (by have:=(Array.getElem?_eq_some_iff.1 HK2.1).1;exact this) (by simpa using HDz.1)).trans HK2.1;have hb9:Below w.heap.size w w9:=HB2.1.grown hg9 HB2.1.size (fun k e=>by cases e;exact QI _);refine⟨by simp,.inl ⟨_,_,rfl,run_takeDeferred hK9,?_⟩⟩;have hx10:=qno hx9 (grownBy_putObj' _ D (.deferred none)) (fun r e=>by cases e;exact⟨_,hK9,rfl⟩)
    refine⟨_,qY (g:=w.heap.size) rfl _ _ _ _ _ rfl hx10 underlying23 rfl (by rw[qR,HOl.1]),?_,?_⟩
    ·rw[qn,HOe.1,HR.1]
     unfold zt;have hN:=HN.1;have hP1:=HP.1;have hP2:=HPl.1;rw[hP1,hN]at hP2;rw[hP1,HS.1,hN,qgA t h NP (by rw[Hh.1];exact Nat.mul_div_le _ _) hP2]
    ·exact hb9.trans (belowK_b (w:=w) (QI _) _ D _ _ (by omega) hK9 rfl rfl)
 case stop=>
  rintro D c' pre W hD hpre h hK;exact h.elim
theorem qkt(w:World)(B b off c n:Nat)(ps:List Pt)(hp:Pts w B b off ps)(hB:B≤w.heap.size)(hn:n=ps.length)(hn2:n≤100000)(xs:qf)(hxs:xs=ps.flatMap fun p=>p.2)(htot:xs.length≤50000000):
 Calls prog 151 #[.slice (some ⟨b,off,none⟩) n c] w fun e w'=>e= .returned (jL b8 (zt xs))∧Below w.heap.size w w':=by
 have HP:=qe hp;have HN:=qe hn;have HT:=qe htot;have HX:=qe hxs;have HO0:=qe (Arr.new b8 w 23 (QL 32 0#8));clear hp hn htot hxs;go_enter func151,ntmps151
 go_wp2_with fail
 refine(qjl _).mono ?_;rintro e w1 ⟨rfl,hd1,hb1⟩;have hz1:=hb1.size;rw[QQ]at hd1 hb1 hz1;have HD1:=qe (show uL w1 (w.heap.size+1) (w.heap.size+1) (vV ps 0)from uL.nil_ hd1);have HO1:=qe (HO0.1.below hb1 (by omega));have HB1:=qe (Below.trans ((QK _ w).alloc (QI _) _) (hb1.mono (Nat.le_succ _)));clear hd1 hb1 HO0;go_wp2_with fail
 go_loopw [9] (fun v wr=>∃k:Nat,k≤n∧v= .int .i64 k∧uL wr (w.heap.size+1) (w.heap.size+1) (vV ps k)∧Arr b8 wr w.heap.size 23 (QL 32 0#8)∧Below w.heap.size w wr) (fun v _=>n-(intOf v).toNat)
 case atStart=>exact⟨0,by omega,rfl,HD1.1,HO1.1,HB1.1⟩
 case round=>
  clear HD1 HO1 HB1;obtain⟨k,hk,rfl,hd,ho,hb⟩:=hrel;have HD:=qe hd;have HO:=qe ho;have HB:=qe hb;have hz:=hd.lt;clear hd ho hb;by_cases hlt:k<n
  ·have hk':k<ps.length:=by rw[←HN.1];exact hlt
   have hp2:=HP.1.below HB.1 hB HP.1.lt;have h1:=hp2.row k _ (QT hk');have h2:=hp2.len _ (Q5 hk');have h3:=hp2.rd _ (Q5 hk');have h4:=qaE ps (k+1) ps.length (by omega);rw[qax,qaD ps k hk',←HX.1]at h4;have h5:=HT.1;have h6:=qbx ps k hk';have h7:=qbj ps k;obtain⟨⟨⟨A,m,cc⟩,ys⟩,hu⟩:∃u,ps[k]=u:=⟨_,rfl⟩;rw[hu]at h1 h2 h3 h4 h6
   simp only[sl]at h1 h2 h3 h4 h6;have hc:=qfB wr (w.heap.size+1) (w.heap.size+1) B m cc A (vV ps k) ys HD.1 (by omega) h3 (by omega) h2 (fun a hl e=>by
    obtain⟨b',off',e',hb',-⟩:=h3 hl;rw[e]at e';cases e';show b'≠_;omega) (by omega)
   rw[←h6]at hc;have HC:=qe hc;clear hp2 h2 h3 h4 h5 h6 h7 hu hc;go_wp2_with fail
   refine HC.1.mono ?_;rintro e w2 ⟨rfl,hd2,hg2⟩;have HD2:=qe (hd2.less (B':=w.heap.size+1) (by omega));have HO2:=qe (HO.1.grown hg2 (by simp));have HB2:=qe (HB.1.grown hg2 HB.1.size (fun k e=>by cases e;omega));clear hd2 hg2;go_wp2_with fail
   go_roundw
   case rel=>exact⟨k+1,by omega,by go_num,HD2.1,HO2.1,HB2.1⟩
   case measure=>simp[intOf];omega
  ·obtain rfl:k=n:=by omega
   have hall:vV ps k=xs:=by unfold vV;rw[HN.1,Zh,HX.1]
   have hd:=HD.1;rw[hall]at hd;have hs:=qjp wr (w.heap.size+1) (w.heap.size+1) xs hd HT.1;rw[qn]at hs;have HS:=qe hs;have HSl:=qe (show(zt xs).length=32 from rfl);clear hall hd hs;go_wp2_with fail
   refine HS.1.mono ?_;rintro e w2 ⟨rfl,hb2⟩;have HO2:=qe (HO.1.below hb2 (by omega));have HB2:=qe (HB.1.trans (hb2.mono HB.1.size));clear hb2 HO HB HD HS;go_wp2_with (refine qk rfl 23 _ _ rfl w.heap.size rfl (zt xs) rfl _ _ HO2.1 rfl (by rw[qR,HSl.1]) qU ?_;intro w9 hx9 hg9)
   refine bodyPost_ret (v:= .agg ((zt xs).map b8).toArray) (qY (g:=w.heap.size) rfl _ _ _ _ _ rfl hx9 underlying23 rfl (by rw[qR,HSl.1])) rfl ?_;exact⟨rfl,HB2.1.grown hg9 HB2.1.size (fun k e=>by cases e;exact QI _)⟩
def str(xs:qf):ByteArray:=⟨(xs.map fun b=>UInt8.ofNat b.toNat).toArray⟩
theorem qbz(xs:qf):(str xs).data.toList=xs.map fun b=>UInt8.ofNat b.toNat:=by simp[str]
theorem qlN{a b:BitVec 8}(h:UInt8.ofNat a.toNat=UInt8.ofNat b.toNat):a=b:=by
 have h1:=congrArg UInt8.toNat h;have ha:=a.isLt;have hb:=b.isLt;apply BitVec.eq_of_toNat_eq;simp only[UInt8.toNat_ofNat']at h1;omega
theorem qdJ{α β:Type}(f:α→β)(hf:∀a b,f a=f b→a=b):∀(xs ys:List α),xs.map f=ys.map f→xs=ys
 | [],[],_=>rfl
 | [],_::_,h=>by cases h
 |_::_,[],h=>by cases h
 |x::xs,y::ys,h=>by
  simp only[Jd,List.cons.injEq]at h;rw[hf _ _ h.1,qdJ f hf xs ys h.2]
theorem qnq(xs ys:qf):((str xs).data.toList==(str ys).data.toList)=(xs==ys):=by
 rw[Bool.eq_iff_iff,beq_iff_eq,beq_iff_eq,qbz,qbz];exact⟨fun h=>qdJ _ (fun _ _ h=>qlN h) _ _ h,fun h=>by rw[h]⟩
theorem qdK(xs ys:qf):((str xs).toList==(str ys).toList)=(xs==ys):=by
 rw[ByteArray.toList_eq,ByteArray.toList_eq];exact qnq xs ys
theorem qdL:∀(xs:qf) (s:ByteArray),(xs.map (fun b=>bv b)).foldl (fun r n=>r.push (UInt8.ofNat n.toNat)) s=⟨s.data++(xs.map fun b=>UInt8.ofNat b.toNat).toArray⟩
 | [],s=>by simp
 |x::xs,s=>by
  rw[Jd,J4,qdL xs]
  congr 1
  apply Array.ext';simp[ByteArray.push,qlz]
theorem qbU{P:Program}{w:World}{B:Nat}{A:Option Addr}{xs:qf}(h:Rd b8 w B A xs)(t s e:TypeId)(c:Nat)
 (ht:P.underlying t=some (.slice e))(he:P.underlying e=some (.int .u8))(hs:P.underlying s=some .string):
 (convert t s (.slice A xs.length c)).run P w= .ok (.string (str xs)) w:=by
 rw[run_convert_bytes_string w t s e A _ _ ht he hs];rcases A with _|a
 ·have hx:xs=[]:=by
   rcases Nat.eq_zero_or_pos xs.length with h0|h0
   ·exact List.eq_nil_of_length_eq_zero h0
   ·obtain⟨b,off,e,_⟩:=h h0
    cases e
  subst hx;rfl
 ·have hl:=run_loadCells_list (P:=P) w a (xs.map b8) (h.cells rfl)
  rw[QN]at hl;have hb:xs.map b8=(xs.map fun b=>bv b).map (QM .u8):=by rw[List.map_map];rfl
  rw[hb]at hl;rw[run_bytesToString w a xs.length c (xs.map fun b=>bv b) hl,qdL]
  congr 2
  simp[str]
theorem qlO{w:World}{B1 B2:Nat}{A1 A2:Option Addr}{xs ys:qf}{n1 n2:Nat}(c1 c2:Nat)(h1:Rd b8 w B1 A1 xs)(h2:Rd b8 w B2 A2 ys)(hn1:xs.length=n1)(hn2:ys.length=n2):
 Calls prog 17 #[.slice A1 n1 c1,.slice A2 n2 c2] w fun e w'=>e= .returned (.bool (xs==ys))∧w=w':=by
 subst hn1;subst hn2;have r1:=qbU (P:=prog) h1 28 9 5 c1 underlying28 underlying5 underlying9;have r2:=qbU (P:=prog) h2 28 9 5 c2 underlying28 underlying5 underlying9;have hs:=qdK xs ys;go_enter func17,ntmps17
 go_wp2
 go_ret;exact⟨rfl,rfl⟩
end
section
open Go.RowKit
open Go.Extern.Stop (cell)
attribute [local go_sem] Ze
theorem qdM(ro:Option Nat)(ρ:Operand→Value)(o:Oper)(h:∀c,o.op≠ .defer c):Oper.semAt ro ρ o=execOp ρ o:=by
 cases ro with
 |none=>unfold Oper.semAt;rfl
 |some l=>exact Ze l ρ o h
section
variable{F:Fence}{n:Nat}{P:Program}{α:Type}{f:α→Value}{ops:Array Oper}{rest:List Oper}{op:Oper}{a:Act}{w:World}{Q:Exit→Act→World→Prop}
theorem jQ(hgd:Region.wanted op (yielded ops a.tmps)=true)(ty:TypeId)(x:Operand)(ho:op.op= .load ty x)
 (g:Nat)(hx:a.eval x= .pointer (some ⟨g,0,none⟩))(T:TypeId)(xs:List α)(hA:Arr f w g T xs)(d:TypeDesc)
 (hu:P.underlying ty=some d)(hd:d.isRow=true)(hi:(P.info? ty).map (·.size)=some xs.length)
 (h:wpListIn F n P ops Q rest (a.put op.dst (.agg (xs.map f).toArray)) w):wpListIn F n P ops Q (op::rest) a w:=by
 refine wpListIn_step fun K hK=>?_
 rw[if_pos hgd];have hl:=run_loadVar_mid (P:=P) w g 0 ty (xs.map f) d hA.whole hu hd (by rw[hi,QN]);unfold Oper.wpIn;refine⟨fun f' hf'=>by simp[Oper.about,ho]at hf',?_⟩;rw[qdM _ _ _ (fun c=>by rw[ho];simp)];unfold execOp;simp only[ho,hx,Instr.loadAt,Instr.sureAddr,Sem.run_bind,Sem.run_pure,Result.andThen_ok,hl,Oper.uponIn_value];exact hK _ _ h
theorem qaa(hgd:Region.wanted op (yielded ops a.tmps)=true)(ty:TypeId)(x y:Operand)(ho:op.op= .store ty x y)
 (g:Nat)(hx:a.eval x= .pointer (some ⟨g,0,none⟩))(ys:List α)(hy:a.eval y= .agg (ys.map f).toArray)(T:TypeId)(xs:List α)(hA:Arr f w g T xs)(hl:xs.length=ys.length)
 (hi:(P.info? ty).map (·.size)=some ys.length)(h1:∀u,(f u).oneCell'=true)
 (h:∀w',Arr f w' g T ys→w.grownBy w' (some g)→wpListIn F n P ops Q rest (a.put op.dst undef) w'):wpListIn F n P ops Q (op::rest) a w:=by
 obtain⟨h2,h3⟩:=zA (f:=f) ys [] xs w hl hA;refine wpListIn_step fun K hK=>?_
 rw[if_pos hgd];have hs:=run_storeVar_mid (P:=P) w g 0 ty (ys.map f).toArray (hA.there (by simp[hl])) (by rw[hi];simp) (all_oneCell_toArray (fun v hv=>by obtain⟨u,_,rfl⟩:=QW.1 hv;exact h1 u));unfold Oper.wpIn;refine⟨fun f' hf'=>by simp[Oper.about,ho]at hf',?_⟩;rw[qdM _ _ _ (fun c=>by rw[ho];simp)];unfold execOp;simp only[ho,hx,hy,Instr.storeAt,Instr.sureAddr,Sem.run_bind,Sem.run_pure,Result.andThen_ok,hs,Oper.uponIn_skip]
 exact hK _ _ (h _ h2 h3)
end
def u8(x:BitVec 8):UInt8:=UInt8.ofNat x.toNat
theorem qas(xs:qf):xs.map b8=(xs.map u8).map cell:=by
 rw[List.map_map];refine List.map_congr_left fun x _=>?_
 show QM .u8 (bv x)=QM .u8 ((u8 x).toNat:Int);have:(u8 x).toNat=x.toNat:=by
  unfold u8;rw[UInt8.toNat_ofNat'];have:=x.isLt;omega
 rw[this];rfl
theorem qlP(xs ys:qf):(xs.map u8==ys.map u8)=(xs==ys):=by
 rw[Bool.eq_iff_iff,beq_iff_eq,beq_iff_eq];exact⟨fun h=>qdJ _ (fun _ _ h=>qlN h) _ _ h,fun h=>by rw[h]⟩
theorem qie{P:Program}(w:World)(t e:TypeId)(n:Nat)(ht:P.underlying t=some (.array n e))(he:P.underlying e=some (.int .u8))(hsz:∀w,(sizeOf e).run P w= .ok 1 w)(xs ys:qf)(hx:xs.length=n)(hy:ys.length=n):
 (binOp .eql t (.agg (xs.map b8).toArray) (.agg (ys.map b8).toArray)).run P w= .ok (.bool (xs==ys)) w:=by
 rw[qas,qas,run_eql_bytes w t e n ht he hsz (xs.map u8) (ys.map u8) (by simpa using hx) (by simpa using hy),qlP]
theorem kz{P:Program}(w:World)(t e:TypeId)(n:Nat)(ht:P.underlying t=some (.array n e))(he:P.underlying e=some (.int .u8))(hsz:∀w,(sizeOf e).run P w= .ok 1 w)(xs ys:qf)(hx:xs.length=n)(hy:ys.length=n):
 (binOp .neq t (.agg (xs.map b8).toArray) (.agg (ys.map b8).toArray)).run P w= .ok (.bool (!(xs==ys))) w:=by
 rw[qas,qas,run_neq_struct,run_equalIn_bytes w 9998 t e n ht he hsz (xs.map u8) (ys.map u8) (by simpa using hx) (by simpa using hy),qlP];rfl
end
section
open Go.RowKit
attribute [local go_sem] Ze
section
variable{gs gk go b c NP bs bn:Nat}{P:qf}{s:S8 64}{W W':World}
end
theorem zh{α β:Type}{f:α→Value}{f':β→Value}{w:World}{g T B e:Nat}{ys:List β}{v:Value}{xs:List α}(h:Arr f' w g T ys)(hte:T≠e)(hr:Own f w B e v xs):some g≠v.ownBlock:=by
 rcases hr.2 with⟨rfl,_⟩|⟨g',cap,cur,rfl,_,hgb,_⟩
 ·simp[JF]
 ·intro e'
  obtain rfl:g=g':=by simpa[JF]using e'
  have:w.heap[g]?=some (.cells (ys.map f').toArray T (0,0)):=h;rw[this]at hgb;cases hgb;exact hte rfl
theorem qbV(W:World)(B:Nat)(ps:List Pt)(hr:∀u∈ps,Rd b8 W B u.1.1 u.2)(hl:∀u∈ps,u.1.2.1=u.2.length)(hB:B≤W.heap.size):Pts (W.alloc (.cells (ps.map fun u=>sl u.1).toArray 28)) B W.heap.size 0 ps:=
 ⟨fun k u hu=>by
  rw[Nat.zero_add,cell_of_row _ W.heap.size k _ 28 (0,0) (heap_alloc_new W _)];simp[hu],by simp,fun u hu=>(hr u hu).alloc hB _,hl⟩
theorem qjq(W:World)(B n:Nat)(ps:List Pt)(cs:Array Value)(hcs:cs=(ps.map fun u=>sl u.1).toArray)(hr:∀u∈ps,Rd b8 W B u.1.1 u.2)(hl:∀u∈ps,u.1.2.1=u.2.length)(hB:B≤W.heap.size)(hn:n=ps.length)(hn2:n≤100000)(xs:qf)(hxs:xs=ps.flatMap fun p=>p.2)(htot:xs.length≤50000000):
 Calls prog 151 #[.slice (some ⟨W.heap.size,0,none⟩) n n] (W.alloc (.cells cs 28)) fun e w'=>e= .returned (jL b8 (zt xs))∧Below W.heap.size W w':=by
 subst hcs;refine(qkt _ B W.heap.size 0 n n ps (qbV W B ps hr hl hB) (by simp;omega) hn hn2 xs hxs htot).mono ?_;rintro e w' ⟨rfl,hb⟩;exact⟨rfl,((QK _ W).alloc (QI _) _).trans (hb.mono (by simp))⟩
theorem qku(W:World)(B n c:Nat)(A:Option Addr)(xs:qf)(hr:Rd b8 W B A xs)(hB:B≤W.heap.size)(hn:n=xs.length)(htot:xs.length≤50000000):
 Calls prog 151 #[.slice (some ⟨W.heap.size,0,none⟩) 1 1] (W.alloc (.cells #[.slice A n c] 28)) fun e w'=>e= .returned (jL b8 (zt xs))∧Below W.heap.size W w':=
 qjq W B 1 [((A,n,c),xs)] _ rfl (by simpa using hr) (by simpa using hn) hB rfl (by omega) xs (by simp) htot
theorem vg(xs:qf):(zt xs).length=32:=by
 unfold zt;generalize Sha.pieces _ _ _ _=R;exact qcu R
def Qo(key:qf):qf:=if 64<key.length then zt key else key
theorem qnr(key:qf):(Qo key).length≤64:=by
 unfold Qo;split
 ·rw[vg];omega
 ·omega
def vW(kk:qf):qf:=kk++QL (64-kk.length) 0#8
theorem qay(kk:qf)(h:kk.length≤64):(vW kk).length=64:=by
 unfold vW;rw[QO,Jz];omega
def vA(key:qf)(x:BitVec 8):qf:=(vW (Qo key)).map (· ^^^x)
theorem ji(key:qf)(x:BitVec 8):(vA key x).length=64:=by
 unfold vA;rw[QN,qay _ (qnr key)]
def uu(l:qf)(x:BitVec 8)(k:Nat):qf:=(l.take k).map (· ^^^x)++l.drop k
theorem qeT(l:qf)(x:BitVec 8)(k:Nat):(uu l x k).length=l.length:=by
 unfold uu;rw[QO,QN,←QO,JV]
theorem qgD(l:qf)(x:BitVec 8)(k:Nat)(hk:k<l.length):(uu l x k).getD k 0#8=l.getD k 0#8:=by
 unfold uu;rw[QR,List.getElem?_append_right (by rw[QN,QV];omega),QN,QV,JJ (by omega),Nat.sub_self,List.getElem?_drop];rfl
theorem qeU(l:qf)(x:BitVec 8)(k:Nat)(hk:k<l.length):(uu l x k).set k (l.getD k 0#8^^^x)=uu l x (k+1):=by
 have hl:((l.take k).map (· ^^^x)).length=k:=by rw[QN,QV];omega
 unfold uu;rw[Zp _ _ (by omega),hl,Nat.sub_self,Zd hk,Q9,Jb];have e:l.getD k 0#8=l[k]:=by simp[QR,QT hk]
 rw[List.drop_eq_getElem_cons hk,qz,e];rfl
theorem qeV(l:qf)(x:BitVec 8)(k:Nat)(hk:l.length≤k):uu l x k=l.map (· ^^^x):=by
 unfold uu;rw[Js hk,List.drop_of_length_le hk,Zb]
theorem qfC{α:Type}{f:α→Value}{w:World}{B E g n:Nat}{xs:List α}(h:Own f w B E (.slice (some ⟨g,0,none⟩) n n) xs):Arr f w g E xs:=by
 have hn:=h.len;rcases h.2 with⟨e,_⟩|⟨g',cap,cur,e,hb,hg,hnc,hcm,hs,ht⟩
 ·cases e
 ·injection e with e1 e2 e3
  injection e1 with e1;injection e1 with e1;subst e1;subst e3;unfold Arr;rw[hg]
  congr 2
  apply Array.ext';rw[Js (by rw[Array.length_toList,hs,hn];exact QI _)]at ht;rw[ht]
theorem qjr{α:Type}{f:α→Value}{w:World}{B E g n:Nat}{xs:List α}(h:Arr f w g E xs)(hn:n=xs.length)(hB:B≤g)(hm:n≤maxLen):Own f w B E (.slice (some ⟨g,0,none⟩) n n) xs:=by
 subst hn;exact⟨by simp,.inr ⟨g,xs.length,_,rfl,hB,h,QI _,hm,by simp,by rw[Js (by simp)]⟩⟩
theorem qfD(kk:qf)(m:Nat):splice ((QL m 0#8).map b8) 0 (kk.map b8)=(kk++QL (m-kk.length) 0#8).map b8:=by
 unfold splice;simp[List.drop_replicate]
theorem qcW(kk:qf)(h:kk.length≤64):splice ((QL 64 0#8).map b8) 0 (kk.map b8)=(vW kk).map b8:=qfD kk 64
theorem qif:(prog.info? 5).map (·.size)=some 1:=by kernel_rfl
theorem qig(w:World)(B n c:Nat)(A:Option Addr)(key:qf)(x:BitVec 8)(hr:Rd b8 w B A key)(hB:B≤w.heap.size)(hn:n=key.length)(hs:n≤64):
 Calls prog 149 #[.slice A n c,.int .u8 (bv x)] w fun e w'=>∃v,e= .returned v∧Own b8 w' w.heap.size 5 v (vA key x)∧Below w.heap.size w w':=by
 obtain⟨i0,hi0,hz0,hz1,hz2⟩:=info_parts jN;have HR:=qe hr;have HKn:=qe hn;have HKl:=qe (show key.length≤64 by omega);have HKb:=qe (show Qo key=key from if_neg (by omega));clear hr hn;go_enter func149,ntmps149
 go_wp2_with (first
  |(refine wpList_make_full _ rfl (.const (.int .i64 64)) (.const (.int .i64 64)) 28 rfl w.heap.size 5 i0 _ 1 underlying28 hi0 hz0 hz1 .i64 .i64 64 64 64 rfl rfl rfl rfl (by rw[hz2];omega) (by simp[maxLen]) (by omega) ?_;intro w3 hown3 hg3;have HO3:=qe (qfC (qby hown3));have HG3:=qe (show Below w.heap.size w w3 from(QK w.heap.size w).grown hg3 (by omega) (fun k e=>by cases e));have HR3:=qe (show Rd b8 w3 B A key from(HR.1).grown hg3 hB (fun a e=>by simp));have hs3:=hg3.size;clear hown3 hg3)
  |(refine wpList_copy_splice (o:=⟨some 18,_,_,_,_,_⟩) rfl (.tmp 16) (.tmp 17) 28 28 rfl 5 underlying28 qif (some ⟨w.heap.size,0,none⟩) A 64 64 n c rfl rfl w.heap.size 0 ((QL 64 0#8).map b8) 5 HO3.1 ((key).map b8) (by rw[QN,←HKn.1];exact(JJ (by have:=HKl.1;have:=HKn.1;omega)).symm) (fun hp=>⟨rfl,by obtain⟨b',off',e',hb',hc'⟩:=HR3.1 (by simpa using hp);exact⟨_,e',HR3.1.cells e'⟩⟩) (by rw[QN,QN,Jz];have:=HKl.1;omega) (fun v hv=>by obtain⟨x,-,rfl⟩:=QW.1 hv;exact qH x) w.heap.size w HG3.1 (Below.size (QK w.heap.size w)) ?_;intro w4 hx4 hb4;have HX4:=qe (show Arr b8 w4 w.heap.size 5 (vW (key))from by have:=hx4.out;rw[qcW _ HKl.1]at this;exact this);have HB4:=qe hb4;clear hx4 hb4))
 have HF:=qe (show Arr b8 w4 w.heap.size 5 (uu (vW (key)) x 0)from HX4.1.cast (by unfold uu;simp));have HFl:=qe (qay (key) HKl.1);clear HX4 HO3 HG3 HR3;go_loopw [21] (fun v wr=>∃k:Nat,k≤64∧v= .int .i64 k∧Arr b8 wr w.heap.size 5 (uu (vW (key)) x k)∧Below w.heap.size w wr) (fun v _=>64-(intOf v).toNat)
 case atStart=>exact⟨0,by omega,rfl,HF.1,HB4.1⟩
 case round=>
  clear HF HB4;obtain⟨k,hk,rfl,ha,hb⟩:=hrel;have HA:=qe ha;have HB:=qe hb;clear ha hb;by_cases hlt:k<64
  ·have c1:=HA.1.cellD (k:=k) (by rw[qeT,HFl.1];exact hlt) 0#8
   have f1:=HA.1.frozen k;have hs:=qeU (vW (key)) x k (by rw[HFl.1];exact hlt);rw[qgD _ _ _ (by rw[HFl.1];exact hlt)]at c1;generalize(vW (key)).getD k 0#8=y at c1 hs;simp only[b8]at c1;have lk:(k:Int)<64:=by omega
   have Hs:=qe hs;clear hs;go_wp2_with fail
   go_roundw
   case rel=>exact⟨k+1,by omega,by go_num,(HA.1.set_ k (y^^^x)).cast Hs.1,HB.1.setCell (p:=⟨w.heap.size,k,none⟩) (Below.size (QK w.heap.size w)) _⟩
   case measure=>simp[intOf];omega
  ·obtain rfl:k=64:=by omega
   rw[show(((64:Nat)):Int)=64 from rfl];go_wp2_with fail
   go_ret;refine⟨_,rfl,qjr (HA.1.cast ?_) (by rw[ji]) (Below.size (QK w.heap.size w)) (by simp[maxLen]),HB.1⟩;rw[qeV _ _ _ (by rw[HFl.1];exact QI _)];unfold vA;rw[HKb.1]
theorem qih(w:World)(B n c:Nat)(A:Option Addr)(key:qf)(x:BitVec 8)(hr:Rd b8 w B A key)(hB:B≤w.heap.size)(hn:n=key.length)(hs:64<n)(hbig:n≤50000000):
 Calls prog 149 #[.slice A n c,.int .u8 (bv x)] w fun e w'=>∃v,e= .returned v∧Own b8 w' w.heap.size 5 v (vA key x)∧Below w.heap.size w w':=by
 obtain⟨i0,hi0,hz0,hz1,hz2⟩:=info_parts jN;obtain⟨S,hS⟩:∃S,S=zt key:=⟨_,rfl⟩;have hsh:=qku w B n c A key hr hB hn (by omega);rw[←hS,qn]at hsh;have hSl:S.length=32:=by rw[hS,vg]
 have HSh:=qe hsh;have HKl:=qe (show S.length≤64 by omega);have HKn:=qe (show 32=S.length by omega);have HKb:=qe (show Qo key=S by unfold Qo;rw[if_pos (by omega),hS]);clear hr hn hsh hS hSl;go_enter func149,ntmps149
 go_wp2_with fail
 refine HSh.1.mono ?_;rintro e w1 ⟨rfl,hb1⟩;have hz1':=hb1.size;have HB1:=qe hb1;have HS0:=qe (Arr.new b8 w1 23 (QL 32 0#8));clear hb1;go_wp2_with (first
  |(refine qk rfl 23 (.tmp 5) (.tmp 13) rfl w1.heap.size rfl S rfl _ _ HS0.1 (by rw[←HKn.1];rfl) (by rw[qR,HKn.1]) qU ?_;intro w2 hx2 hg2;have HX2:=qe (hx2.rd 0);have HB2:=qe ((HB1.1.alloc hz1' (.cells ((QL 32 0#8).map b8).toArray 23)).grown hg2 (by simp;omega) (fun k e=>by cases e;exact hz1'));have hz2':w1.heap.size<w2.heap.size:=hx2.lt;clear hx2 hg2 HS0 HB1)
  |(refine wpList_make_full _ rfl (.const (.int .i64 64)) (.const (.int .i64 64)) 28 rfl w.heap.size 5 i0 _ 1 underlying28 hi0 hz0 hz1 .i64 .i64 64 64 64 rfl rfl rfl rfl (by rw[hz2];omega) (by simp[maxLen]) (by omega) ?_;intro w3 hown3 hg3;have HO3:=qe (qfC (qby hown3));have HG3:=qe (show Below w.heap.size w w3 from(HB2.1).grown hg3 (by omega) (fun k e=>by cases e));have HR3:=qe (show Rd b8 w3 (w1.heap.size+1) (some ⟨w1.heap.size,0,none⟩) S from(HX2.1).grown hg3 hz2' (fun a e=>by simp));have hs3:=hg3.size;clear hown3 hg3)
  |(refine wpList_copy_splice (o:=⟨some 18,_,_,_,_,_⟩) rfl (.tmp 16) (.tmp 17) 28 28 rfl 5 underlying28 qif (some ⟨w2.heap.size,0,none⟩) (some ⟨w1.heap.size,0,none⟩) 64 64 32 32 rfl rfl w2.heap.size 0 ((QL 64 0#8).map b8) 5 HO3.1 ((S).map b8) (by rw[QN,←HKn.1];exact(JJ (by have:=HKl.1;have:=HKn.1;omega)).symm) (fun hp=>⟨rfl,by obtain⟨b',off',e',hb',hc'⟩:=HR3.1 (by simpa using hp);exact⟨_,e',HR3.1.cells e'⟩⟩) (by rw[QN,QN,Jz];have:=HKl.1;omega) (fun v hv=>by obtain⟨x,-,rfl⟩:=QW.1 hv;exact qH x) w.heap.size w HG3.1 (Below.size (HB2.1)) ?_;intro w4 hx4 hb4;have HX4:=qe (show Arr b8 w4 w2.heap.size 5 (vW (S))from by have:=hx4.out;rw[qcW _ HKl.1]at this;exact this);have HB4:=qe hb4;clear hx4 hb4))
 have HF:=qe (show Arr b8 w4 w2.heap.size 5 (uu (vW (S)) x 0)from HX4.1.cast (by unfold uu;simp));have HFl:=qe (qay (S) HKl.1);clear HX4 HO3 HG3 HR3;go_loopw [21] (fun v wr=>∃k:Nat,k≤64∧v= .int .i64 k∧Arr b8 wr w2.heap.size 5 (uu (vW (S)) x k)∧Below w.heap.size w wr) (fun v _=>64-(intOf v).toNat)
 case atStart=>exact⟨0,by omega,rfl,HF.1,HB4.1⟩
 case round=>
  clear HF HB4;obtain⟨k,hk,rfl,ha,hb⟩:=hrel;have HA:=qe ha;have HB:=qe hb;clear ha hb;by_cases hlt:k<64
  ·have c1:=HA.1.cellD (k:=k) (by rw[qeT,HFl.1];exact hlt) 0#8
   have f1:=HA.1.frozen k;have hs:=qeU (vW (S)) x k (by rw[HFl.1];exact hlt);rw[qgD _ _ _ (by rw[HFl.1];exact hlt)]at c1;generalize(vW (S)).getD k 0#8=y at c1 hs;simp only[b8]at c1;have lk:(k:Int)<64:=by omega
   have Hs:=qe hs;clear hs;go_wp2_with fail
   go_roundw
   case rel=>exact⟨k+1,by omega,by go_num,(HA.1.set_ k (y^^^x)).cast Hs.1,HB.1.setCell (p:=⟨w2.heap.size,k,none⟩) (Below.size (HB2.1)) _⟩
   case measure=>simp[intOf];omega
  ·obtain rfl:k=64:=by omega
   rw[show(((64:Nat)):Int)=64 from rfl];go_wp2_with fail
   go_ret;refine⟨_,rfl,qjr (HA.1.cast ?_) (by rw[ji]) (Below.size (HB2.1)) (by simp[maxLen]),HB.1⟩;rw[qeV _ _ _ (by rw[HFl.1];exact QI _)];unfold vA;rw[HKb.1]
theorem qlQ(w:World)(B n c:Nat)(A:Option Addr)(key:qf)(x:BitVec 8)(hr:Rd b8 w B A key)(hB:B≤w.heap.size)(hn:n=key.length)(hbig:n≤50000000):
 Calls prog 149 #[.slice A n c,.int .u8 (bv x)] w fun e w'=>∃v,e= .returned v∧Own b8 w' w.heap.size 5 v (vA key x)∧Below w.heap.size w w':=by
 by_cases h:n≤64
 ·exact qig w B n c A key x hr hB hn h
 ·exact qih w B n c A key x hr hB hn (by omega) hbig
def yw(key text:qf):qf:=zt (vA key 92#8++zt (vA key 54#8++text))
theorem qbW(key text:qf):(yw key text).length=32:=vg _
theorem qkv(W:World)(B n c m d:Nat)(A C:Option Addr)(xs ys:qf)(hr:Rd b8 W B A xs)(hr2:Rd b8 W B C ys)(hB:B≤W.heap.size)(hn:n=xs.length)(hm:m=ys.length)(htot:xs.length+ys.length≤50000000):
 Calls prog 151 #[.slice (some ⟨W.heap.size,0,none⟩) 2 2] (W.alloc (.cells #[.slice A n c,.slice C m d] 28)) fun e w'=>e= .returned (jL b8 (zt (xs++ys)))∧Below W.heap.size W w':=
 qjq W B 2 [((A,n,c),xs),((C,m,d),ys)] _ rfl (by simpa using⟨hr,hr2⟩) (by simpa using⟨hn,hm⟩) hB rfl (by omega) (xs++ys) (by simp) (by simpa using htot)
theorem qns(w:World)(Bk n c:Nat)(A:Option Addr)(key:qf)(hk:Rd b8 w Bk A key)(hBk:Bk≤w.heap.size)(hn:n=key.length)(hkb:key.length≤40000000)
 (B b off d m:Nat)(ps:List Pt)(hp:Pts w B b off ps)(hB:B≤w.heap.size)(hm:m=ps.length)(hm2:m≤100000)(xs:qf)(hxs:xs=ps.flatMap fun p=>p.2)(htot:xs.length≤40000000):
 Calls prog 142 #[.slice A n c,.slice (some ⟨b,off,none⟩) m d] w fun e w'=>e= .returned (jL b8 (yw key xs))∧Below w.heap.size w w':=by
 have HK:=qe hk;have HN:=qe hn;have HP:=qe hp;have HM:=qe hm;have HX:=qe hxs;have HT:=qe htot;have hnb:n≤40000000:=by omega
 have HO0:=qe (Arr.new b8 w 23 (QL 32 0#8));clear hk hn hp hm hxs htot hkb;go_enter func142,ntmps142
 go_wp2_with fail
 refine(qjl _).mono ?_;rintro e w1 ⟨rfl,hd1,hb1⟩;have hz1:=hb1.size;rw[QQ]at hd1 hb1 hz1;have HD1:=qe (show uL w1 (w.heap.size+1) (w.heap.size+1) []from uL.nil_ hd1);have hl1:w.heap.size+1<w1.heap.size:=hd1.lt;have HO1:=qe (HO0.1.below hb1 (by omega));have HB1:=qe (Below.trans ((QK _ w).alloc (QI _) _) (hb1.mono (Nat.le_succ _)));clear hd1 hb1 HO0;have hpk:=fun x W (hW:Below w.heap.size w W)=>qlQ W Bk n c A key x (HK.1.below (hW.mono hBk)) (Nat.le_trans hBk hW.size) HN.1 (by omega)
 have HPk:=qe hpk;clear hpk;have hpk1:=HPk.1 54#8 w1 HB1.1;rw[show bv 54#8=54 from rfl]at hpk1;have HPk1:=qe hpk1;clear hpk1;go_wp2_with fail
 refine HPk1.1.mono ?_;rintro e w2 ⟨v2,rfl,hown2,hb2⟩;obtain⟨g2,c2,rfl,hg2,hg2l,-⟩:=hown2.form' (ji key 54#8) (by omega);have hz2:=hb2.size;have HD2:=qe (HD1.1.below hb2 (QI _));have HO2:=qe (HO1.1.below hb2 (by omega));have HB2:=qe (HB1.1.trans (hb2.mono (by omega)));have hadd:=qfB w2 (w.heap.size+1) (w.heap.size+1) w2.heap.size 64 c2 (some ⟨g2,0,none⟩) [] (vA key 54#8) HD2.1 (by omega) hown2.rd (QI _) (by rw[ji]) (fun a _ e=>by cases e;show g2≠_;omega) (by rw[ji];simp)
 rw[Ji]at hadd;have HAdd:=qe hadd;clear hown2 hb2 hadd HD1 HO1 HB1 HPk1;go_wp2_with fail
 refine HAdd.1.mono ?_;rintro e w3 ⟨rfl,hd3,hg3⟩;have hz3:=hg3.size;have HD3:=qe (show uL w3 (w.heap.size+1) (w.heap.size+1) (vA key 54#8++vV ps 0)from(by unfold vV;simpa using hd3.less (B':=w.heap.size+1) (by omega)));have HO3:=qe (HO2.1.grown hg3 (by simp));have HB3:=qe (HB2.1.grown hg3 HB2.1.size (fun k e=>by cases e;omega));clear hd3 hg3 HD2 HO2 HB2 HAdd;go_wp2_with fail
 go_loopw [16] (fun v wr=>∃k:Nat,k≤m∧v= .int .i64 k∧uL wr (w.heap.size+1) (w.heap.size+1) (vA key 54#8++vV ps k)∧Arr b8 wr w.heap.size 23 (QL 32 0#8)∧Below w.heap.size w wr) (fun v _=>m-(intOf v).toNat)
 case atStart=>exact⟨0,by omega,rfl,HD3.1,HO3.1,HB3.1⟩
 case round=>
  clear HD3 HO3 HB3;obtain⟨k,hk,rfl,hd,ho,hb⟩:=hrel;have HD:=qe hd;have HO:=qe ho;have HB:=qe hb;have hz:=hd.lt;clear hd ho hb;by_cases hlt:k<m
  ·have hk':k<ps.length:=by rw[←HM.1];exact hlt
   have hp2:=HP.1.below HB.1 hB HP.1.lt;have h1:=hp2.row k _ (QT hk');have h2:=hp2.len _ (Q5 hk');have h3:=hp2.rd _ (Q5 hk');have h4:=qaE ps (k+1) ps.length (by omega);rw[qax,qaD ps k hk',←HX.1]at h4;have h5:=HT.1;have h6:=qbx ps k hk';have h7:=qbj ps k;obtain⟨⟨⟨A',m',cc⟩,ys⟩,hu⟩:∃u,ps[k]=u:=⟨_,rfl⟩;rw[hu]at h1 h2 h3 h4 h6
   simp only[sl]at h1 h2 h3 h4 h6;have hc:=qfB wr (w.heap.size+1) (w.heap.size+1) B m' cc A' (vA key 54#8++vV ps k) ys HD.1 (by omega) h3 (by omega) h2 (fun a hl e=>by
    obtain⟨b',off',e',hb',-⟩:=h3 hl;rw[e]at e';cases e';show b'≠_;omega) (by rw[QO,ji];omega)
   rw[Jb,←h6]at hc;have HC:=qe hc;clear hp2 h2 h3 h4 h5 h6 h7 hu hc;go_wp2_with fail
   refine HC.1.mono ?_;rintro e w2 ⟨rfl,hd2,hg2⟩;have HD2:=qe (hd2.less (B':=w.heap.size+1) (by omega));have HO2:=qe (HO.1.grown hg2 (by simp));have HB2:=qe (HB.1.grown hg2 HB.1.size (fun k e=>by cases e;omega));clear hd2 hg2;go_wp2_with fail
   go_roundw
   case rel=>exact⟨k+1,by omega,by go_num,HD2.1,HO2.1,HB2.1⟩
   case measure=>simp[intOf];omega
  ·obtain rfl:k=m:=by omega
   have hall:vV ps k=xs:=by unfold vV;rw[HM.1,Zh,HX.1]
   have hd:=HD.1;rw[hall]at hd;obtain⟨S,hS⟩:∃S,S=zt (vA key 54#8++xs):=⟨_,rfl⟩;have hs:=qjp wr (w.heap.size+1) (w.heap.size+1) (vA key 54#8++xs) hd (by rw[QO,ji];have:=HT.1;omega);rw[qn,←hS]at hs;have HS:=qe hs;have HSe:=qe hS;have HSl:=qe (show S.length=32 by rw[hS];exact vg _);clear hall hd hs hS;go_wp2_with fail
   refine HS.1.mono ?_;rintro e w5 ⟨rfl,hb5⟩;have hz5:=hb5.size;have HO5:=qe (HO.1.below hb5 (by omega));have HB5:=qe (HB.1.trans (hb5.mono HB.1.size));have HT5:=qe (Arr.new b8 w5 23 (QL 32 0#8));clear hb5 HO HB HD HS;go_wp2_with (refine qk rfl 23 (.tmp 8) (.tmp 25) rfl w5.heap.size rfl S rfl _ _ HT5.1 (by rw[HSl.1];rfl) (by rw[qR,HSl.1]) qU ?_;intro w6 hx6 hg6)
   have hz6:w5.heap.size<w6.heap.size:=hx6.lt;have HS6:=qe hx6;have HO6:=qe ((HO5.1.alloc (.cells ((QL 32 0#8).map b8).toArray 23)).grown hg6 (by simp;omega));have HB6:=qe ((HB5.1.alloc HB5.1.size (.cells ((QL 32 0#8).map b8).toArray 23)).grown hg6 (by simp;omega) (fun k e=>by cases e;omega));clear hx6 hg6 HT5 HO5 HB5;have hpk2:=HPk.1 92#8 w6.drew HB6.1.drew;rw[show bv 92#8=92 from rfl]at hpk2
   have HPk2:=qe hpk2;obtain⟨Z,hZ⟩:∃Z,Z=(yw key xs).map b8:=⟨_,rfl⟩;have hZl:Z.length=32:=by rw[hZ,QN,qbW]
   have hZi:(prog.info? 23).map (·.size)=some Z.length:=by rw[hZl];exact qR
   have hZo:∀v∈Z,v.oneCell'=true:=by rw[hZ];intro v hv;obtain⟨u,-,rfl⟩:=QW.1 hv;exact qH u
   have hsh:∀(W:World) (g7 c7:Nat),Rd b8 W W.heap.size (some ⟨g7,0,none⟩) (vA key 92#8)→Rd b8 W W.heap.size (some ⟨w5.heap.size,0,none⟩) S→Calls prog 151 #[.slice (some ⟨W.heap.size,0,none⟩) 2 2] (W.alloc (.cells #[.slice (some ⟨g7,0,none⟩) 64 c7,.slice (some ⟨w5.heap.size,0,none⟩) 32 32] 28)) fun e w'=>e= .returned (.agg Z.toArray)∧Below W.heap.size W w':=fun W g7 c7 h1 h2=>by
    have:=qkv W W.heap.size 64 c7 32 32 _ _ _ _ h1 h2 (QI _) (by rw[ji]) HSl.1.symm (by rw[ji,HSl.1];omega);rwa[qn,HSe.1,show zt (vA key 92#8++zt (vA key 54#8++xs))=yw key xs from rfl,←hZ]at this
   have HSh:=qe hsh;have HZ:=qe hZ;clear hpk2 hsh hZ
   go_frame
   go_region_held3 (fun _=>True) (trivial)
    (first
     |(go_simp;refine HPk2.1.mono ?_;rintro e w7 ⟨v7,rfl,hown7,hb7⟩;obtain⟨g7,c7,rfl,hg7,hg7l,-⟩:=hown7.form' (ji key 92#8) (by omega);have HO7:=qe (hown7.less (Nat.zero_le _));have hz7:w6.heap.size≤w7.heap.size:=hb7.size;have HB7:=qe hb7;clear hown7 hb7)
     |(go_simp;refine(HSh.1 w7 g7 c7 HO7.1.rd (((HS6.1.drew.below HB7.1 hz6).rd 0).more (by omega))).mono ?_;rintro e w8 ⟨rfl,hb8⟩;have HA8:=qe ((HO6.1.drew.below HB7.1 (by show w.heap.size<w6.heap.size;omega)).below hb8 (by omega));have ht8:w8.there w.heap.size 0 32:=HA8.1.there (QI _);have HB8:=qe hb8;clear hb8))
   obtain⟨hx9,hg9⟩:=zA (f:=b8) (yw key xs) [] _ w8 (by rw[qbW];rfl) HA8.1;rw[←HZ.1]at hx9 hg9;go_wp2_with fail
   refine bodyPost_ret (v:=jL b8 (yw key xs)) (qY (g:=w.heap.size) rfl _ _ _ _ _ rfl hx9 underlying23 rfl (by rw[qbW];exact qR)) rfl ?_;refine⟨rfl,?_⟩;have hb68:Below w6.heap.size w6 w8:=(((QK _ w6).drew).trans HB7.1).trans (HB8.1.mono hz7);have hbw:=HB6.1.trans (hb68.mono HB6.1.size);exact hbw.grown hg9 hbw.size (fun k e=>by cases e;omega)
theorem qkw(W:World)(Bk n c B m1 d1 m2 d2 m3 d3:Nat)(A C1 C2 C3:Option Addr)(key xs ys zs:qf)(hk:Rd b8 W Bk A key)(hBk:Bk≤W.heap.size)(hn:n=key.length)(hkb:key.length≤40000000)(hr1:Rd b8 W B C1 xs)(hr2:Rd b8 W B C2 ys)(hr3:Rd b8 W B C3 zs)(hB:B≤W.heap.size)(hm1:m1=xs.length)(hm2:m2=ys.length)(hm3:m3=zs.length)(htot:xs.length+ys.length+zs.length≤40000000):
 Calls prog 142 #[.slice A n c,.slice (some ⟨W.heap.size,0,none⟩) 3 3] (W.alloc (.cells #[.slice C1 m1 d1,.slice C2 m2 d2,.slice C3 m3 d3] 28)) fun e w'=>e= .returned (jL b8 (yw key (xs++ys++zs)))∧Below W.heap.size W w':=by
 refine(qns _ Bk n c A key (hk.alloc hBk _) (by simp;omega) hn hkb B W.heap.size 0 3 3 _ (qbV W B [((C1,m1,d1),xs),((C2,m2,d2),ys),((C3,m3,d3),zs)] (by simpa using⟨hr1,hr2,hr3⟩) (by simpa using⟨hm1,hm2,hm3⟩) hB) (by simp;omega) rfl (by omega) (xs++ys++zs) (by simp) (by simp;omega)).mono ?_;rintro e w' ⟨rfl,hb⟩;exact⟨rfl,((QK _ W).alloc (QI _) _).trans (hb.mono (by simp))⟩
theorem qdN{P:Program}{ops:Array Oper}{rest:List Oper}{op:Oper}{a:Act}{w:World}{Q:Exit→Act→World→Prop}(hgd:op.guard=none)(v:World→Value)(o:Obj)(h:∀a w,(execOp (Act.eval a) op).run P w= .ok (.value (v w)) (w.alloc o))
 (k:wpList P ops Q rest (a.put op.dst (v w)) (w.alloc o)):wpList P ops Q (op::rest) a w:=by
 refine wpList_plain hgd fun K hK=>?_
 unfold Oper.wp;rw[h a w];exact hK _ _ k
theorem qii(w:World):Calls prog 152 #[] w fun e w'=>e= .returned (.slice (some ⟨w.heap.size,0,none⟩) 80 80)∧Own w64 w' w.heap.size 125 (.slice (some ⟨w.heap.size,0,none⟩) 80 80) K64∧Below w.heap.size w w':=by
 go_enter func152,ntmps152
 go_wp2_with (refine qdN rfl (fun w=> .slice (some ⟨w.heap.size,0,none⟩) 80 80) (.cells (K64.map w64).toArray 125) (fun a w=>by as_aux_lemma=>kernel_rfl) ?_)
 go_ret;exact⟨rfl,⟨by rfl,.inr ⟨w.heap.size,80,_,rfl,QI _,heap_alloc_new w _,by decide,by decide,by rfl,by rfl⟩⟩,by(repeat' (first|assumption|exact QK _ _|refine Below.drew ?_|refine Below.alloc ?_ ?_ _|omega|(simp;done)|(simp;omega)))⟩
theorem qij(w:World):Calls prog 143 #[] w fun e w'=>e= .returned (.slice (some ⟨w.heap.size,0,none⟩) 8 8)∧Own w64 w' w.heap.size 125 (.slice (some ⟨w.heap.size,0,none⟩) 8 8) kH.list∧Below w.heap.size w w':=by
 go_enter func143,ntmps143
 go_wp2_with (refine qdN rfl (fun w=> .slice (some ⟨w.heap.size,0,none⟩) 8 8) (.cells (kH.list.map w64).toArray 125) (fun a w=>by as_aux_lemma=>kernel_rfl) ?_)
 go_ret;exact⟨rfl,⟨by rfl,.inr ⟨w.heap.size,8,_,rfl,QI _,heap_alloc_new w _,by decide,by decide,by rfl,by rfl⟩⟩,by(repeat' (first|assumption|exact QK _ _|refine Below.drew ?_|refine Below.alloc ?_ ?_ _|omega|(simp;done)|(simp;omega)))⟩
theorem qgE:(prog.info? 178).map (fun i=>(i.zero,i.size,i.bytes))=some (some (.int .u32 0),1,4):=by kernel_rfl
theorem qgF(w:World):Calls prog 144 #[] w fun e w'=>∃v,e= .returned v∧Own w32 w' w.heap.size 178 v K32∧Below w.heap.size w w':=by
 obtain⟨i0,hi0,hz0,hz1,hz2⟩:=info_parts qgE;go_enter func144,ntmps144
 go_wp2_with fail
 refine(qii _).mono ?_;rintro e w1 ⟨rfl,hown1,hb1⟩;have hz1':=hb1.size;have hl1:=(hown1.lt w.heap.size rfl).2;have HO1:=qe hown1;have HB1:=qe hb1;clear hown1 hb1;go_wp2_with fail
 go_loopw [1,3] (fun v i wr=>∃k:Nat,k≤64∧i= .int .i64 k∧Own w32 wr w1.heap.size 178 v (K32.take k)∧Below w1.heap.size w1 wr) (fun _ i _=>64-(intOf i).toNat)
 case atStart=>exact⟨0,by omega,rfl,Own.nil_ _ _ _ _,QK _ _⟩
 case round=>
  obtain⟨k,hk,rfl,hown,hb⟩:=hrel;have hz:=hb.size;have HO:=qe hown;have HB:=qe hb;clear hown hb;by_cases hlt:k<64
  ·have c1:wr.cell? ⟨w.heap.size,k,none⟩=some (w64 (K64.getD k 0#64)):=by
    have h1:=(HO1.1.below HB.1 (QI _)).at_ (k:=k) (by rw[qdk];omega);rw[h1.1];simp[QR,QT (show k<K64.length by rw[qdk];omega)]
   have hs:K32.take (k+1)=K32.take k++ [(K64.getD k 0#64>>>32).setWidth 32]:=by
    rw[←qlF k hlt,Zd (by rw[j9];exact hlt)];simp[QR,QT (show k<K32.length by rw[j9];exact hlt)]
   have hl:(K32.take k).length=k:=by rw[QV,j9];omega
   generalize K64.getD k 0#64=x at c1 hs;simp only[w64]at c1;have l80:(k:Int)<80:=by omega
   have Hs:=qe hs;have Hl:=qe hl;clear hs hl;go_wp2_with (at_builtin;refine qh rfl _ _ 197 rfl ug w1.heap.size 178 i0 _ 4 underlying197 hi0 hz0 hz1 hz2 rfl _ _ rfl (HO.1.alloc _) (wr.heap.size+1) _ 1 1 [(x>>>32).setWidth 32] rfl rfl (Rd.new w32 wr 178 [(x>>>32).setWidth 32]) (by rw[Hl.1];simp[maxLen];omega) (by rw[Hl.1];simp;omega) (by simp;omega) ?_;intro v7 w7 hown7 hg7 hbb7)
   go_roundw
   case rel=>exact⟨k+1,by omega,by go_num,by rw[Hs.1];exact hown7,hbb7 _ _ (QI _) (HB.1.alloc hz _)⟩
   case measure=>simp[intOf];omega
  ·obtain rfl:k=64:=by omega
   rw[show(((64:Nat)):Int)=64 from rfl];go_wp2_with fail
   go_ret;exact⟨_,rfl,(HO.1.cast (Js (by rw[j9];exact QI _))).less hz1',HB1.1.trans (HB.1.mono hz1')⟩
theorem qlR{n:Nat}(x:BitVec n)(k j:Nat)(h:k+j=n):x>>>k+x<<<j=vz x j:=by
 unfold vz;rw[show n-j=k by omega,BitVec.add_eq_or_of_and_eq_zero,BitVec.or_comm];apply BitVec.eq_of_getLsbD_eq;intro i hi;rw[BitVec.getLsbD_and,BitVec.getLsbD_zero,BitVec.getLsbD_ushiftRight,BitVec.getLsbD_shiftLeft];by_cases hij:i<j
 ·simp[hij]
 ·rw[BitVec.getLsbD_of_ge x (k+i) (by omega),Bool.false_and]
theorem qaz(x:BitVec 32)(k:Nat)(hk:k≤32)(w:World):Calls prog 146 #[.int .u32 (bv x),.int .u64 (k:Int)] w fun e w'=>e= .returned (.int .u32 (bv (vz x (32-k))))∧w=w':=by
 have h2:((32:Int)-(k:Int))=((32-k:Nat):Int):=by omega
 have hr:=qlR x k (32-k) (by omega);have HR:=qe hr;clear hr;go_enter func146,ntmps146
 go_wp2
 go_ret;exact⟨by rw[HR.1];rfl,rfl⟩
def leN(v k:Nat):qf:=(Q6 k).map fun i=>QP 8 (v/256^i)
theorem qlS(v k:Nat):leN v (k+1)=leN v k++ [QP 8 (v/256^k)]:=by simp[leN,JU]
theorem yE(v k:Nat):(leN v k).length=k:=by simp[leN]
theorem qol(v k i:Nat)(h:i<k):(leN v k)[i]'(by rw[yE];exact h)=QP 8 (v/256^i):=by simp[leN]
theorem qlT(n:Nat):IntKind.u8.wrap (((n % 32:Nat):Int)*8)=bv (QP 8 (8*n)):=by
 rw[kK];unfold bv;rw[Q8];omega
theorem qlU(v k:Nat):v/256^k/256=v/256^(k+1):=by rw[Nat.div_div_eq_div_mul,Nat.pow_succ]
theorem qkx(n:Nat):n/32=8*n/256^1:=by omega
theorem qlV(xs:qf)(m piece size:Nat)(hps:(piece=64∧size=8)∨(piece=128∧size=16))(w:World)(B:Nat)(A:Option Addr)(c:Nat)(hr:Rd b8 w B A xs)(hB:B≤w.heap.size)(hm:m=xs.length)(hbig:m≤100000000):
 Calls prog 145 #[.slice A m c,.int .i64 (piece:Int),.int .i64 (size:Int)] w fun e w'=>∃v,e= .returned v∧Own b8 w' w.heap.size 5 v (zb xs m piece size)∧Below w.heap.size w w':=by
 obtain⟨i0,hi0,hz0,hz1,hz2⟩:=info_parts jN;have HM:=qe hm;have HR:=qe hr;have HPS:=qe hps;have hb2:8≤size∧size≤16∧64≤piece∧piece≤128:=by omega
 have HE:=qe (show Own b8 (w.alloc (.cells #[] 5)) w.heap.size 5 (.slice (some ⟨w.heap.size,0,none⟩) 0 0) []from
  ⟨by simp,.inr ⟨w.heap.size,0,#[],rfl,QI _,heap_alloc_new w _,by simp,by simp[maxLen],by simp,by simp⟩⟩)
 clear hm hr hps;go_enter func145,ntmps145
 go_wp2_with (first
  |(at_builtin;refine qh rfl (.tmp 11) (.tmp 12) 28 rfl qH w.heap.size 5 i0 _ 1 underlying28 hi0 hz0 hz1 hz2 rfl _ _ rfl HE.1 B A m c xs rfl HM.1 (HR.1.alloc hB _) (by have:=HM.1;simp[maxLen];omega) (by have:=HM.1;simp;omega) (by simp) ?_;intro v1 w1 hown1 hg1 hbb1;have HO1:=qe hown1;have HB1:=qe (hbb1 _ _ (QI _) ((QK _ w).alloc (QI _) _));have hz1':=hg1.size;simp only[QQ]at hz1';clear hown1 hg1 hbb1)
  |(at_builtin;refine qh rfl (.tmp 13) (.tmp 14) 28 rfl qH w.heap.size 5 i0 _ 1 underlying28 hi0 hz0 hz1 hz2 rfl _ _ rfl (HO1.1.alloc _) (w1.heap.size+1) _ 1 1 [128#8] rfl rfl (Rd.new b8 w1 5 [128#8]) (by have:=HM.1;simp[maxLen];omega) (by have:=HM.1;simp;omega) (by simp;omega) ?_;intro v2 w2 hown2 hg2 hbb2;have HO2:=qe hown2;have HB2:=qe (hbb2 _ _ (QI _) (HB1.1.alloc (by omega) _));clear hown2 hg2 hbb2))
 go_loopw [7] (fun v wr=>∃k:Nat,k≤yu m piece size∧Own b8 wr w.heap.size 5 v (xs++128#8::QL k 0#8)∧Below w.heap.size w wr) (fun v _=>m+1+128-(ut v).toNat)
 case atStart=>exact⟨0,Nat.zero_le _,HO2.1.cast (by simp),HB2.1⟩
 case round=>
  clear HO2 HB2;obtain⟨k,hk,hown,hb⟩:=hrel;obtain⟨L,hL⟩:∃L,L=m+1+k:=⟨_,rfl⟩;have hlen:(xs++128#8::QL k 0#8).length=L:=by simp;rw[hL,HM.1];omega
  have hpl:=qdl m piece size HPS.1;obtain⟨A1,c1,rfl,-,-,-,-⟩:=hown.shape' hlen;have hz:=hb.size;have HO:=qe hown;have HB:=qe hb;have HLn:=qe hlen;clear hown hb hlen;have hlb:L≤200000000:=by omega
  have hdiv:(L:Int).tmod (piece:Int)=((L % piece:Nat):Int):=by rw[Zs (by omega)];omega
  by_cases hlt:k<yu m piece size
  ·have hne:=qgx m piece size k HPS.1 hlt
   rw[←hL]at hne;have HL:=qe hL;have hcmp:(((L % piece:Nat):Int) !=(piece:Int)-(size:Int))=true:=by simp only[bne_iff_ne,ne_eq];omega
   clear hL hne hk;generalize L % piece=q at hdiv hcmp;go_wp2_with (at_builtin;refine qh rfl _ _ 28 rfl qH w.heap.size 5 i0 _ 1 underlying28 hi0 hz0 hz1 hz2 rfl _ _ rfl (HO.1.alloc _) (wr.heap.size+1) _ 1 1 [0#8] rfl rfl (Rd.new b8 wr 5 [0#8]) (by have:=HLn.1;rw[this];simp[maxLen];omega) (by have:=HLn.1;rw[this];simp;omega) (by simp;omega) ?_;intro v7 w7 hown7 hg7 hbb7)
   have hlen7:((xs++128#8::QL k 0#8)++ [0#8]).length=L+1:=by rw[QO,HLn.1];rfl
   obtain⟨A7,c7,rfl,-,-,-,-⟩:=hown7.shape' hlen7;go_roundw
   case rel=>exact⟨k+1,by omega,by rw[List.replicate_succ',←JL,←Jb];exact hown7,hbb7 _ _ (QI _) (HB.1.alloc hz _)⟩
   case measure=>have:=HL.1;simp[ut];omega
  ·have hke:k=yu m piece size:=by omega
   have hhit:=qbS m piece size HPS.1;rw[←hke,←hL]at hhit;have hcmp:(((L % piece:Nat):Int) !=(piece:Int)-(size:Int))=false:=by simp only[bne_eq_false_iff_eq];omega
   have HL:=qe hL;have HK:=qe hke;clear hL hke hhit hk hlt;generalize L % piece=q at hdiv hcmp;obtain⟨Bs,hBs⟩:∃Bs,Bs=xs++128#8::QL k 0#8:=⟨_,rfl⟩;have HOb:=qe (show Own b8 wr w.heap.size 5 (.slice A1 L c1) Bs by rw[hBs];exact HO.1);have HBl:=qe (show Bs.length=L by rw[hBs];exact HLn.1);have HBe:=qe hBs;clear hBs HO HLn;have d1:(m:Int).tdiv 32=((m/32:Nat):Int):=by rw[Int.tdiv_eq_ediv_of_nonneg (by omega)];omega
   have d2:(m:Int).tmod 32=((m % 32:Nat):Int):=by rw[Zs (by omega)];omega
   have d3:=qlT m;obtain⟨v,hv⟩:∃v,v=8*m:=⟨_,rfl⟩;have hvb:v≤800000000:=by omega
   rw[←hv]at d3;have hm32:m % 32<32:=Nat.mod_lt _ (by omega);have HO3:=qe (show Own b8 (wr.alloc (.cells #[b8 (QP 8 v)] 5)) wr.heap.size 5 (.slice (some ⟨wr.heap.size,0,none⟩) 1 1) (leN v 1)from
    ⟨by simp[leN],.inr ⟨wr.heap.size,1,#[b8 (QP 8 v)],by simp[leN],QI _,heap_alloc_new wr _,by simp[leN],by simp[maxLen],by simp,by simp[leN]⟩⟩)
   have HV:=qe hv;have HD1:=qe (show m/32=v/256^1 by rw[hv];exact qkx m);have hq1:m/32≤800000000:=by omega
   generalize m/32=q1 at d1 HD1 hq1;generalize m % 32=q2 at d2 d3 hm32;clear hv;go_wp2_with fail
   have HO4:=qe (HOb.1.alloc (.cells #[b8 (QP 8 v)] 5));have HB4:=qe (HB.1.alloc hz (.cells #[b8 (QP 8 v)] 5));have HBw:=qe ((QK wr.heap.size wr).alloc (QI _) (.cells #[b8 (QP 8 v)] 5));obtain⟨wo,rfl⟩:∃wo:World,wo=wr:=⟨_,rfl⟩;go_loopw [8,9] (fun nv lv w2=>∃k nk:Nat,nk=v/256^k∧nk≤800000000∧1≤k∧k≤size∧nv= .int .i64 (nk:Int)∧Own b8 w2 wo.heap.size 5 lv (leN v k)∧Below wo.heap.size wo w2) (fun _ lv _=>size-(ut lv).toNat)
   case atStart=>exact⟨1,q1,HD1.1,by omega,by omega,by omega,rfl,HO3.1,HBw.1⟩
   case round=>
    obtain⟨k2,nk,hnk,hnb,hk1,hks,rfl,hown2,hb2'⟩:=hrel;obtain⟨A2,c2,rfl,-,-,-,-⟩:=hown2.shape' (yE v k2);have hz2':=hb2'.size;have HO5:=qe hown2;have HB5:=qe hb2';have Hnk:=qe hnk;clear HO3 HO4 HB4 HBw d1 d2 d3 hown2 hb2' hnk;by_cases hlt3:k2<size
    ·have e1:(nk:Int).tdiv 256=((nk/256:Nat):Int):=by rw[Int.tdiv_eq_ediv_of_nonneg (by omega)];omega
     have e2:(nk:Int).tmod 256=bv (QP 8 nk):=by rw[Zs (by omega)];unfold bv;rw[Q8];omega
     have hd:nk/256=v/256^(k2+1):=by rw[Hnk.1];exact qlU v k2
     have hm2:nk/256≤800000000:=by omega
     have Hd:=qe hd;clear hd;obtain⟨x8,hx8⟩:∃x8,x8=QP 8 nk:=⟨_,rfl⟩;rw[←hx8]at e2;have Hx8:=qe hx8;clear hx8;generalize nk/256=r2 at e1 Hd hm2;go_wp2_with (at_builtin;refine qh rfl _ _ 28 rfl qH wo.heap.size 5 i0 _ 1 underlying28 hi0 hz0 hz1 hz2 rfl _ _ rfl (HO5.1.alloc _) (wr.heap.size+1) _ 1 1 [x8] rfl rfl (Rd.new b8 wr 5 [x8]) (by rw[yE];simp[maxLen];omega) (by rw[yE];simp;omega) (by simp;omega) ?_;intro v7 w7 hown7 hg7 hbb7)
     obtain⟨A7,c7,rfl,-,-,-,-⟩:=hown7.shape' (n:=k2+1) (by rw[QO,yE];rfl);go_roundw
     case rel=>exact⟨k2+1,r2,Hd.1,hm2,by omega,by omega,by go_num,(by rw[qlS,←Hnk.1,←Hx8.1];exact hown7),hbb7 _ _ (QI _) (HB5.1.alloc hz2' _)⟩
     case measure=>simp[ut];omega
    ·obtain rfl:k2=size:=by omega
     have HL5:=qe (HOb.1.below HB5.1 (QI _));have HB6:=qe (HB.1.trans (HB5.1.mono hz));go_wp2_with fail
     obtain⟨wq,rfl⟩:∃wq:World,wq=wr:=⟨_,rfl⟩;go_loopw [7,10] (fun ov iv w3=>∃(t:Nat) (O:qf),t≤k2∧iv= .int .i64 ((t:Int)-1)∧O++beN v t=Bs++beN v k2∧O.length=L+(k2-t)∧Own b8 w3 w.heap.size 5 ov O∧Own b8 w3 wo.heap.size 5 (.slice A2 k2 c2) (leN v k2)∧(∀b,(Value.slice A2 k2 c2).ownBlock=some b→ov.ownBlock≠some b)∧Below w.heap.size w w3) (fun _ iv _=>(intOf iv+1).toNat)
     case atStart=>exact⟨k2,Bs,QI _,rfl,rfl,by rw[HBl.1];omega,HL5.1,HO5.1,fun b hb hb'=>by have h1:=(HO5.1.lt b hb).1;have h2:=(HOb.1.lt b hb').2;omega,HB6.1⟩
     case round=>
      obtain⟨t,O,ht,rfl,hO,hOl,ho,hlo,hne,hb3⟩:=hrel;have hz3:=hb3.size;cases t with
      |zero=>
       go_wp2_with fail
       go_ret;refine⟨_,rfl,ho.cast ?_,hb3⟩;rw[show beN v 0=[]from rfl,Zb]at hO;rw[hO,HBe.1];unfold zb;rw[HV.1,HK.1,HM.1];simp
      |succ t=>
       obtain⟨b2,off2,e2,hb2l,cl⟩:=hlo.rd.at_ (k:=t) (by rw[yE];omega);rw[qol v k2 t (by omega)]at cl;generalize hx:QP 8 (v/256^t)=x at cl;have hO2:(O++ [x])++beN v t=Bs++beN v k2:=by rw[←hO,beN,hx,Jb];rfl
       have HO7:=qe ho;have HLo:=qe hlo;have HB7:=qe hb3;have HOe:=qe hO2;have HOl:=qe hOl;have HNe:=qe hne;subst e2;clear hx hO hO2 hOl ho hlo hne hb3 HO5 HL5 HB5 HB6;simp only[b8]at cl;have t1:(((t+1:Nat)):Int)-1=(t:Int):=by omega
       rw[t1];have tl:(t:Int)<(k2:Int):=by omega
       go_wp2_with (at_builtin;refine qh rfl _ _ 28 rfl qH w.heap.size 5 i0 _ 1 underlying28 hi0 hz0 hz1 hz2 rfl _ _ rfl (HO7.1.alloc _) (wr.heap.size+1) _ 1 1 [x] rfl rfl (Rd.new b8 wr 5 [x]) (by rw[HOl.1];simp[maxLen];omega) (by rw[HOl.1];simp;omega) (by simp;omega) ?_;intro v7 w7 hown7 hg7 hbb7)
       go_roundw
       case rel=>
        refine⟨t,O++ [x],by omega,by go_num,HOe.1,by rw[QO,HOl.1];simp;omega,hown7,?_,?_,hbb7 _ _ (QI _) (HB7.1.alloc hz3 _)⟩
        ·exact(HLo.1.alloc _).kept' hg7.by_ (fun g e hv=>HNe.1 g hv e)
        ·intro b hb hb'
         rcases hg7.at_ with e|e
         ·rw[e]at hb';exact HNe.1 b hb hb'
         ·rw[hb']at e;injection e with e;have:=(HLo.1.lt b hb).2;simp at e;omega
       case measure=>simp[intOf]
end
end Go.Proofs.YtelgjaiknaalkaaGreatDoor
