/- Lemmas. -/
import Derived.Test.YtelgjaiknaalkaaGreatDoorPu10
open Go.Proofs.Tryz
open List renaming setIfInBounds_toArray → qj
open List renaming set_cons_zero → qz
open List renaming set_cons_succ → qv
open List renaming range → Q6, range_succ → JU, getD → QR, size_toArray → Jh, length_cons → Jr, length_nil → JE, push_toArray → Zk, append_toArray → Zl, nil_append → Ji, cons_append → JL, replicate → QL, map_append → Q9, map_cons → Jd, map_nil → Jt, length_append → QO, getElem?_eq_getElem → QT, length_map → QN, length → JT, mem_singleton → Je, mem_cons → Ja, mem_append → QS, mem_map → QW, mem_or_eq_of_mem_set → Zt, mem_flatMap → Jk, getElem_mem → Q5, drop_zero → J0, take_left' → Zc, getElem?_append_right → JA, take_succ_eq_append_getElem → Zd, take_of_length_le → Js
open Go.Value renaming ownBlock → JF, int → QM, slice → JZ
open Nat renaming lt_or_ge → Jo, reduceAdd → JI, le_refl → QI, le_trans → QX, lt_of_lt_of_le → Jq, pow_succ → JB
open Go.World renaming grownBy_alloc → Za, size_alloc → QQ, alloc → QY, cell?_of_block → JK
open Array renaming replicate_succ → Zi, replicate_zero → Zj
open Go.RowKit.Below renaming refl → QK
open Or renaming inl → QZ
open Go.Act renaming put → QJ
open Go.AllReadyH renaming cons → Jm, nil → J1
open Go.NoPanic renaming normal → Q4
set_option linter.unusedVariables false
set_option linter.unusedSimpArgs false
set_option maxRecDepth 100000
set_option maxHeartbeats 8000000
namespace Go.Proofs.YtelgjaiknaalkaaGreatDoor
section
open Go.RowKit
attribute [local go_sem] Oper.semAt_some
theorem qaM{n:Nat}{P:Program}{c:Code}{Q:Exit→Act→World→Prop}{a:Act}{w:World}(h:c.wpIn Fence.wide n P (Exit.noGoto Q) a w):(Code.scope c).wpIn Fence.wide n P Q a w:=wpIn_wide.2 (wp_scope_straight (wpIn_wide.1 h))
theorem qgc{n l:Nat}{P:Program}{Q:Exit→Act→World→Prop}{a:Act}{w:World}(h:Q .normal a w):(Code.label l).wpIn Fence.wide n P Q a w:=wpIn_wide.2 (wp_label h)
def QH(ps:List (qf))(text:qf)(i:Nat):BitVec 8:=text.getD i 0#8^^^(ps.getD (i/64) []).getD (i % 64) 0#8
def Qc(ps:List (qf))(text:qf)(k:Nat):qf:=(Q6 k).map (QH ps text)
theorem qle(ps:List (qf))(text:qf)(k:Nat):Qc ps text (k+1)=Qc ps text k++ [QH ps text k]:=by simp[Qc,JU]
theorem qcm(ps:List (qf))(text:qf)(k:Nat):(Qc ps text k).length=k:=by simp[Qc]
theorem qlf(ps:List (qf))(q:qf)(text:qf)(k:Nat)(hk:k≤64*ps.length):Qc (ps++ [q]) text k=Qc ps text k:=by
 unfold Qc;refine List.map_congr_left fun i hi=>?_
 have hi':i<k:=List.mem_range.1 hi;have h:i/64<ps.length:=by omega
 unfold QH;have e:(ps++ [q]).getD (i/64) []=ps.getD (i/64) []:=by simp[QR,List.getElem?_append_left h]
 rw[e]
theorem qlg(ps:List (qf))(q:qf)(text:qf)(i:Nat)(hi:i<64):QH (ps++ [q]) text (64*ps.length+i)=text.getD (64*ps.length+i) 0#8^^^q.getD i 0#8:=by
 have h1:(64*ps.length+i)/64=ps.length:=by omega
 have h2:(64*ps.length+i) % 64=i:=by omega
 unfold QH;rw[h1,h2];simp[QR]
theorem qek(key nonce:qf)(number:Int)(text:qf)(ps:List Pc)(k n:Nat)(h:ps.map Subtype.val=vn key nonce number k)(hn:n≤64*k):Qc (ps.map (·.1.2)) text n=ko key nonce number text n:=by
 unfold Qc ko;refine List.map_congr_left fun i hi=>?_
 have hi':i<n:=List.mem_range.1 hi;have e:ps.map (·.1.2)=(vn key nonce number k).map Prod.snd:=by rw[←h,List.map_map];rfl
 have hq:i/64<k:=by omega
 unfold QH Qh;rw[e];simp[vn,qhF,QR,hq]
theorem qhG{len:Nat}{number:Int}(h:zy 12 number=0):zF 12 len number=if(((len+63)/64:Nat):Int)>4294967296-number then 8 else 0:=by
 obtain⟨-,g0,g1⟩:=vZ h;unfold zF;rw[if_neg (by rw[h];simp)];by_cases hl:0<len
 ·have:(len+63)/64=(len-1)/64+1:=by omega
  rw[this];by_cases hc:4294967295<number+(((len-1)/64:Nat):Int)
  ·rw[if_pos ⟨hl,hc⟩,if_pos (by omega)]
  ·rw[if_neg (fun hh=>hc hh.2),if_neg (by omega)]
 ·rw[if_neg (fun hh=>hl hh.1)]
  obtain rfl:len=0:=by omega
  rw[if_neg (by omega)]
def MxI(B ob tb bk bn:Nat)(T:Option Addr)(m d:Nat)(key:qf)(nv:Value)(xs:qf)(W:World):Prop:=∃v,Boxed W ob 28 v∧Own b8 W B 5 v xs∧Boxed W tb 28 (.slice T m d)∧Arr b8 W bk 92 key∧Boxed W bn 28 nv
theorem qel{W W':World}{row:Option Nat}{B E:Nat}{v:Value}{xs:qf}(h:Own b8 W B E v xs)(hg:W.grownBy W' row)(hr:∀r,row=some r→∃o:Obj,W.heap[r]?=some o∧o.isCells=false):Own b8 W' B E v xs:=
 h.kept' hg (fun g e hv=>by
  obtain⟨o,ho,hc⟩:=hr g e;rcases h.2 with⟨rfl,_⟩|⟨g',cap,cur,rfl,_,hg',_⟩
  ·cases hv
  ·obtain rfl:g'=g:=by simpa[JF]using hv
   rw[hg']at ho;cases ho;cases hc)
theorem qbJ{W W':World}{row:Option Nat}{B:Nat}{t:TypeId}{v:Value}(h:Boxed W B t v)(hg:W.grownBy W' row)(hr:∀r,row=some r→∃o:Obj,W.heap[r]?=some o∧o.isCells=false):Boxed W' B t v:=
 h.kept hg (fun e=>by
  obtain⟨o,ho,hn⟩:=hr B e.symm;have:W.heap[B]?=some (.cells #[v] t (0,0)):=h;rw[this]at ho;cases ho;cases hn)
theorem qhH{W W':World}{row:Option Nat}{B:Nat}{t:TypeId}{v:qf}(h:Arr b8 W B t v)(hg:W.grownBy W' row)(hr:∀r,row=some r→∃o:Obj,W.heap[r]?=some o∧o.isCells=false):Arr b8 W' B t v:=
 h.grown hg (fun e=>by
  obtain⟨o,ho,hn⟩:=hr B e.symm;have:W.heap[B]?=some (.cells (v.map b8).toArray t (0,0)):=h;rw[this]at ho;cases ho;cases hn)
section
variable{B ob tb bk bn:Nat}{T:Option Addr}{m d:Nat}{key:qf}{nv:Value}{xs ys:qf}{W W':World}
theorem MxI.own{row:Option Nat}(h:MxI B ob tb bk bn T m d key nv xs W)(hg:W.grownBy W' row)(hr:∀r,row=some r→∃o:Obj,W.heap[r]?=some o∧o.isCells=false):MxI B ob tb bk bn T m d key nv xs W':=by
 obtain⟨v,h1,h2,h3,h4,h5⟩:=h;exact⟨v,qbJ h1 hg hr,qel h2 hg hr,qbJ h3 hg hr,qhH h4 hg hr,qbJ h5 hg hr⟩
theorem MxI.cast(h:MxI B ob tb bk bn T m d key nv xs W)(e:xs=ys):MxI B ob tb bk bn T m d key nv ys W:=e▸h
theorem MxI.far{row:Option Nat}(h:MxI B ob tb bk bn T m d key nv xs W)(hg:W.grownBy W' row)(hr:∀r,row=some r→W.heap.size≤r):MxI B ob tb bk bn T m d key nv xs W':=by
 obtain⟨v,h1,h2,h3,h4,h5⟩:=h;exact⟨v,h1.kept hg (fun e=>by have:=hr _ e.symm;have:=h1.lt;omega),h2.kept' hg (fun g e hv=>by have:=hr g e;have:=(h2.lt g hv).2;omega),h3.kept hg (fun e=>by have:=hr _ e.symm;have:=h3.lt;omega),h4.grown hg (fun e=>by have:=hr _ e.symm;have:=h4.lt;omega),h5.kept hg (fun e=>by have:=hr _ e.symm;have:=h5.lt;omega)⟩
theorem MxI.kp{n₀:Nat}(h:MxI B ob tb bk bn T m d key nv xs W)(h':MxI B ob tb bk bn T m d key nv ys W')(hb:Below n₀ W W'):KpQ n₀ bk bn W W':=by
 obtain⟨v,h1,h2,h3,h4,h5⟩:=h;obtain⟨v',k1,k2,k3,k4,k5⟩:=h';exact⟨hb,Eq.trans k4 (Eq.symm h4),Eq.trans k5 (Eq.symm h5)⟩
end
theorem qhI{W:World}{g:Nat}{t e:TypeId}{us:qf}(h:Arr b8 W g t us)(hte:t≠e){B:Nat}{v:Value}{xs:qf}(hr:Own b8 W B e v xs):some g≠v.ownBlock:=by
 rcases hr.2 with⟨rfl,_⟩|⟨g',cap,cur,rfl,_,hgb,_⟩
 ·simp[JF]
 ·intro e'
  obtain rfl:g=g':=by simpa[JF]using e'
  have:W.heap[g]?=some (.cells (us.map b8).toArray t (0,0)):=h;rw[this]at hgb;cases hgb;exact hte rfl
theorem qeH{W:World}{a:Addr}{v:Value}(h:W.cell? a=some v)(o:Obj):(W.alloc o).cell? a=some v:=by
 have hlt:a.block<W.heap.size:=by
  rcases Jo a.block W.heap.size with h'|h'
  ·exact h'
  ·rw[World.cell?,Array.getElem?_eq_none h']at h;cases h
 rw[←h];unfold World.cell?;rw[(Za W o none).block a.block hlt (by simp)]
section
variable{W w1:World}{n₀:Nat}{e:TypeId}{v v':Value}{xs ys:qf}{tmp:Obj}
theorem qlh{ob:Nat}{t:TypeId}(hv:Boxed W ob t v)(hrow:Own b8 W n₀ e v xs)(hn:n₀≤W.heap.size)(hown':Own b8 w1 n₀ e v' ys)(hgrow:(W.alloc tmp).drew.grownBy w1 v.ownBlock)(hB:n₀≤ob)(hte:t≠e:=by decide):
 Boxed w1 ob t v∧Boxed (w1.setCell ⟨ob,0,none⟩ v') ob t v'∧Own b8 (w1.setCell ⟨ob,0,none⟩ v') n₀ e v' ys∧KeepsOthers W (w1.setCell ⟨ob,0,none⟩ v')∧Below n₀ W (w1.setCell ⟨ob,0,none⟩ v'):=
 Boxed.appended (W:=W) (tmp:=tmp) hv hte hrow hn hB hown' ⟨hgrow.os,hgrow.tape,hgrow.output,hgrow.size,hgrow.block⟩
theorem qj2{B:Nat}{t:TypeId}{u:Value}(hv:Boxed W B t u)(hrow:Own b8 W n₀ e v xs)(hgrow:(W.alloc tmp).drew.grownBy w1 v.ownBlock)(hte:t≠e:=by decide):Boxed w1 B t u:=
 Boxed.kept (W:=(W.alloc tmp).drew) (hv.alloc tmp) hgrow (hv.not_row hte hrow)
theorem qnT{B:Nat}{t:TypeId}{us:qf}(hv:Arr b8 W B t us)(hrow:Own b8 W n₀ e v xs)(hgrow:(W.alloc tmp).drew.grownBy w1 v.ownBlock)(hte:t≠e:=by decide):Arr b8 w1 B t us:=
 Arr.grown (w:=(W.alloc tmp).drew) (hv.alloc tmp) hgrow (qhI hv hte hrow)
end
theorem qnU{xs:qf}{i:Nat}(hx:xs.length=64)(hi:i<64)(w:World):(Instr.index 157 (.agg (xs.map b8).toArray) (.int .i64 i)).run prog w= .ok (b8 (xs.getD i 0#8)) w:=by
 have hu:=underlying157;have h1:(xs.map b8).toArray[i]?=some (b8 (xs.getD i 0#8)):=by simp[QR,hx,hi]
 have h2:(0:Int)≤i∧(i:Int)<64:=by omega
 have h3:i<64:=hi;have h4:xs[i]?=some (xs.getD i 0#8):=by simp[QR,hx,hi]
 simp[Instr.index,run_underlying hu,asIntOf,h3,go_sem];rw[h4];simp[go_sem,QR]
theorem qj3(key:qf)(A:Option Addr)(n c B:Nat)(nonce:qf)(number:Int)(T:Option Addr)(m d B':Nat)(text:qf)(w:World)(hk:key.length=32)(hr:Rd b8 w B A nonce)(hB:B≤w.heap.size)(hn:nonce.length=n)(hnc:n≤c)
 (ht:Rd b8 w B' T text)(hB':B'≤w.heap.size)(hm:text.length=m)(hbig:m≤1100000)(hq1: -9223372036854775808≤number)(hq2:number<9223372036854775808):
 Calls prog 59 #[jL b8 key,.slice A n c,.int .i64 number,.slice T m d] w fun e w'=>∃v,e= .returned (.tuple #[v,zG (zF n m number)])∧Own b8 w' w.heap.size 5 v (zY key nonce number text)∧Below w.heap.size w w':=by
 obtain⟨i0,hi0,hz0,hz1,hz2⟩:=info_parts jN;have hmn:n=nonce.length:=hn.symm;have hck:=fun w=>qba A n c number w
 have HK:=qe hk;have HN:=qe hn;have HM:=qe hm;have HR:=qe hr;have HT:=qe ht;rw[qn];by_cases hb:zy n number=0
 ·obtain⟨h12,g0,g1⟩:=vZ hb
  subst h12;simp only[hb,qW]at hck;have hrm:(((m:Int)+64-1).tdiv 64)=(((m+63)/64:Nat):Int):=by rw[Int.tdiv_eq_ediv_of_nonneg (by omega)];omega
  obtain⟨q,hq⟩:∃q,q=(m+63)/64:=⟨_,rfl⟩;rw[←hq]at hrm;have hqm:q≤20000:=by omega
  have Hck:=qe hck;have Hmb:=qe (qhG (len:=m) hb);have Hb:=qe hb;have Hq:=qe hq;clear hk hn hmn hm hr ht hck hb hq;by_cases hrr:(q:Int)>4294967295-number+1
  ·skip
   refine(callsIn_wide (n:=9)).1 ?_;refine callsIn_of_wp_marks func59 rfl trivial ?_ rfl;simp only[ntmps59,Jh,Jr,JE,JI,Nat.reduceSub,Zi,Zj,Zk,Zl,Ji,JL];gi_wp2_with fail
   refine qaM ?_;gi_wp2_with fail
   refine⟨trivial,?_⟩;refine(callsIn_wide.2 (Hck.1 _)).mono ?_;rintro e w' ⟨rfl,rfl⟩;gi_wp2_with fail
   have e8:zF 12 m number=8:=by rw[Hmb.1,←Hq.1,if_pos (by omega)]
   exact⟨.tuple #[.slice none 0 0,.iface 69 (.int .i64 8)],by simp[results,Tryz.f59,go_sem],.slice none 0 0,by rw[e8];rfl,(Own.nil_ b8 _ _ _).cast (by unfold zY;rw[HN.1,HM.1,if_neg (by rw[e8];simp)]),by(repeat' (first|assumption|exact QK _ _|refine Below.drew ?_|refine Below.alloc ?_ ?_ _|omega|(simp;done)|(simp;omega)))⟩
  ·skip
   refine(callsIn_wide (n:=9)).1 ?_;refine callsIn_of_wp_marks func59 rfl trivial ?_ rfl;simp only[ntmps59,Jh,Jr,JE,JI,Nat.reduceSub,Zi,Zj,Zk,Zl,Ji,JL];gi_wp2_with fail
   refine qaM ?_;gi_wp2_with fail
   refine⟨trivial,?_⟩;refine(callsIn_wide.2 (Hck.1 _)).mono ?_;rintro e w' ⟨rfl,rfl⟩;gi_wp2_with (refine wpListIn_make_own _ rfl (.const (.int .i64 0)) (.tmp 33) 28 rfl w.heap.size 5 i0 _ 1 underlying28 hi0 hz0 hz1 .i64 .i64 (m:Int) m rfl rfl rfl (by rw[hz2];omega) (by simp[maxLen];omega) (by simp;omega) ?_;intro w3 hown3 hg3;have HO3:=qe (show Own b8 w3 w.heap.size 5 _ []from hown3);have HG3:=qe hg3;clear hown3 hg3)
   have hb2:Below w.heap.size w ((w.alloc (.cells (key.map b8).toArray 92)).alloc (.cells #[.slice T m d] 28)):=by(repeat' (first|assumption|exact QK _ _|refine Below.drew ?_|refine Below.alloc ?_ ?_ _|omega|(simp;done)|(simp;omega)))
   have hb3:Below w.heap.size w w3:=hb2.grown HG3.1 (by simp;omega) (fun k e=>by cases e);have hz3:w.heap.size+2≤w3.heap.size:=by have:=HG3.1.size;simpa using this
   have hA3:Arr b8 w3 w.heap.size 92 key:=((Arr.new b8 w 92 key).alloc _).grown HG3.1 (by simp);have hT3:Boxed w3 (w.heap.size+1) 28 (.slice T m d):=by
    have:=Boxed.new (w.alloc (.cells (key.map b8).toArray 92)) 28 (.slice T m d);simp only[QQ]at this;exact this.kept HG3.1 (by simp)
   have ho3:=HO3.1;simp only[QQ]at ho3;refine qgc ?_;generalize hW4:QY w3 _=W4;have hf:Arr b8 W4 w.heap.size 92 key∧(∃v,Boxed W4 w3.heap.size 28 v∧Own b8 W4 w.heap.size 5 v [])∧Boxed W4 (w.heap.size+1) 28 (.slice T m d)∧Below w.heap.size w W4∧W4.heap.size=w3.heap.size+1:=by
    rw[←hW4];exact⟨hA3.alloc _,⟨_,Boxed.new w3 28 _,Own.alloc ho3 _⟩,hT3.alloc _,hb3.alloc hb3.size _,by simp⟩
   obtain⟨hA4,⟨v4,hv4,ho4⟩,ht4,hb4,hz4⟩:=hf;clear hW4 ho3 hT3 hA3 hb2 HG3 HO3;have HA4:=qe hA4;have HM4:=qe (And.intro hv4 (And.intro ho4 ht4));have HB4:=qe hb4;have hp:=qi3 key A 12 c number W4;rw[qn]at hp;have HP:=qe hp;clear hA4 hv4 ho4 ht4 hb4 hp;gi_wp2_with (refine jQ rfl 92 _ rfl w.heap.size rfl _ key HA4.1 _ underlying92 rfl (qej HK.1) ?_)
   refine⟨trivial,?_⟩;refine(callsIn_wide.2 HP.1).mono ?_;rintro e w5 ⟨rfl,rfl⟩;gi_wp2_with fail
   generalize hW5:QY (QY (QY W4 _) _) _=W5;have hf:MxI w.heap.size w3.heap.size (w.heap.size+1) (w3.heap.size+1) (w3.heap.size+1+1) T m d key (.slice A 12 c) [] W5∧Boxed W5 (w3.heap.size+1+2) 3 (.int .i64 number)∧Below w.heap.size w W5∧W5.heap.size=w3.heap.size+4:=by
    rw[←hW5];obtain⟨hv4,ho4,ht4⟩:=HM4.1;refine⟨⟨v4,((hv4.alloc _).alloc _).alloc _,((ho4.alloc _).alloc _).alloc _,((ht4.alloc _).alloc _).alloc _,?_,?_⟩,?_,?_,?_⟩
    ·exact((Arr.at_size b8 _ _ hz4).alloc _).alloc _
    ·have:=Boxed.new (W4.alloc (.cells (key.map b8).toArray 92)) 28 (.slice A 12 c)
     rw[QQ,hz4]at this;exact this.alloc _
    ·have:=Boxed.new ((W4.alloc (.cells (key.map b8).toArray 92)).alloc (.cells #[.slice A 12 c] 28)) 3 (.int .i64 number)
     rw[QQ,QQ,hz4]at this;exact this
    ·have:=HB4.1.size
     exact((HB4.1.alloc this _).alloc (by simp;omega) _).alloc (by simp;omega) _
    ·simp[hz4]
   obtain⟨hM5,hN5,hb5,hz5⟩:=hf;clear hW5 HA4 HM4 HB4 HP;obtain⟨v5,hv5⟩:=id hM5;have HA5:=qe hv5.2.2.2.1;have HBn5:=qe hv5.2.2.2.2;clear hv5;have hnn:=HN.1;refine wpIn_rangeFunc_ownH rfl (by omega) (gf:=109) (lb:= #[.pointer (some ⟨w3.heap.size+1+2,0,none⟩),.pointer (some ⟨w3.heap.size+1,0,none⟩),.pointer (some ⟨w3.heap.size+1+1,0,none⟩)]) rfl trivial (enters_of func109 (by kernel_rfl) rfl)
    (qgb 8 (by omega) key A 12 c nonce number (w3.heap.size+1+2) (w3.heap.size+1) (w3.heap.size+1+1) w.heap.size HK.1 HN.1 hnc hq1 hq2 W5 hN5 HA5.1 HBn5.1 ((HR.1.below (hb5.mono hB)).more hB) hb5.size)
    KpQ.t (fun W l o o' hl ho hc hw=>⟨(QK _ W).grown (grownBy_putObj' W l o') (by have:=(Array.getElem?_eq_some_iff.1 ho).1;omega) (fun k e=>by cases e;omega),World.putObj_heap_other (by omega),World.putObj_heap_other (by omega)⟩) (QK _ _) (fun _=>rfl)
    (fun pre W=>(MxI w.heap.size w3.heap.size (w.heap.size+1) (w3.heap.size+1) (w3.heap.size+1+1) T m d key (.slice A 12 c) (Qc (pre.map (·.1.2)) text (64*pre.length)) W∧64*pre.length≤m)∧Below w.heap.size w W)
    (fun c' pre W=>(MxI w.heap.size w3.heap.size (w.heap.size+1) (w3.heap.size+1) (w3.heap.size+1+1) T m d key (.slice A 12 c) (Qc (pre.map (·.1.2)) text m) W∧c'= .exit 0∧m≤64*pre.length)∧Below w.heap.size w W)
    (OwnFrom.and (Go.Own.from (fun s A' B' row hs hg hr=>⟨hs.1.own hg hr,hs.2⟩) _) (ownFrom_below (QI _) (by omega)))
    (fun c=>OwnFrom.and (Go.Own.from (fun s A' B' row hs hg hr=>⟨hs.1.own hg hr,hs.2⟩) _) (ownFrom_below (QI _) (by omega)))
    ⟨⟨hM5,by simp⟩,hb5⟩
    (fun x a' W=>∃g,a'={tmps:= #[.agg (key.map b8).toArray,.slice A 12 c,.int .i64 number,.slice T m d,.pointer (some ⟨w.heap.size,0,none⟩),undef,undef,.pointer (some ⟨w.heap.size+1,0,none⟩),.slice none 0 0,.nilIface,.nilIface,.pointer (some ⟨w3.heap.size,0,none⟩),undef,.pointer (some ⟨g,0,none⟩),undef,undef,.slice A 12 c,.int .i64 number,.nilIface,.nilIface,.bool false,undef,.slice T m d,.int .i64 m,.int .i64 ((m:Int)+64),.int .i64 ((m:Int)+64-1),.int .i64 q,.int .i64 number,.int .i64 (4294967295-number),.int .i64 (4294967295-number+1),.bool (decide (4294967295-number+1<(q:Int))),undef,.slice T m d,.int .i64 m,.slice (some ⟨w.heap.size+1+1,0,none⟩) 0 m,.agg (key.map b8).toArray,.slice A 12 c,.int .i64 number,.func (.func 109) #[] #[.pointer (some ⟨w3.heap.size+1+2,0,none⟩),.pointer (some ⟨w3.heap.size+1,0,none⟩),.pointer (some ⟨w3.heap.size+1+1,0,none⟩)],.int .i64 x.1.1,.agg (x.1.2.map b8).toArray,undef,undef,undef,undef,undef,undef,undef,undef,undef,undef,undef,undef,undef,undef,undef,undef,undef,undef,undef,undef,undef],defers:=[]}∧Arr b8 W g 157 x.1.2)
    (fun x a' s W W' row hs hg hr=>by obtain⟨g,e,hA⟩:=hs;exact⟨g,e,qhH hA hg (fun r e=>(hr r e).2)⟩) ?assign ?body ?done ?stop
   case assign=>
    rintro l pre x W K ⟨⟨hM,hlen⟩,hB'⟩ hK;have HZ:=qe (Arr.new b8 W 157 (QL 64 0#8));have HX:=qe x.2.2.2;have HKK:=qe hK;have HM':=qe hM;clear hK hM;simp only[qnR,List.zip_toArray,List.zip_cons_cons,List.zip_nil_right,List.zip_nil_left,List.foldl_toArray',List.foldl_toArray,List.foldl_cons,List.foldl_nil,qj,qz,qv];gi_wp2_with (refine qaa rfl 157 _ _ rfl W.heap.size rfl x.1.2 rfl _ _ HZ.1 (by rw[HX.1];rfl) (qbe HX.1) qU ?_;intro w2 hp2 hg2;have HP2:=qe hp2;have HG2:=qe hg2;clear hp2 hg2)
    have hg:W.grownBy w2 none:=qp (Za W _ none) HG2.1 (fun g e=>by cases e;exact .inr (QI _));have hbw:Below w.heap.size W w2:=(QK _ W).grown hg hB'.size (fun k e=>by cases e);have hM2:=HM'.1.far hg (fun r e=>by cases e);exact HKK.1 _ w2 ((KeepsOthers.of_grownBy hg (fun j o e=>by cases e)).from _) (HM'.1.kp hM2 hbw) ⟨⟨hM2,hlen⟩,hB'.trans hbw⟩ ⟨W.heap.size,rfl,HP2.1⟩
   case body=>
    rintro l pre x a' W hl hrec ⟨⟨hM,hlen⟩,hB'⟩ ⟨g,rfl,hA⟩ hN;have HA:=qe hA;have HX:=qe x.2.2.2;have HM':=qe hM;have HB':=qe hB';clear hA hM hB' hrec;gi_wp2_with (refine jQ rfl 157 _ rfl g rfl _ x.1.2 HA.1 _ underlying157 rfl (qbe HX.1) ?_)
    gi_loopw [42] (fun iv wr=>∃i:Nat,iv= .int .i64 i∧i≤64∧MxI w.heap.size w3.heap.size (w.heap.size+1) (w3.heap.size+1) (w3.heap.size+1+1) T m d key (.slice A 12 c) (Qc ((pre++ [x]).map (·.1.2)) text (64*pre.length+i)) wr∧64*pre.length+i≤m∧Below w.heap.size W wr∧KeepsOthers W wr) (fun iv _=>64-(intOf iv).toNat)
    case atStart=>
     refine⟨0,rfl,by omega,HM'.1.cast ?_,by omega,QK _ _,KeepsOthers.refl _⟩;rw[Q9,Jd,Jt,Nat.add_zero,qlf _ _ _ _ (by simp)]
    case round=>
     obtain⟨i,rfl,hi,hM,him,hb,hko⟩:=hrel;obtain⟨J,hJ⟩:∃J,J=64*pre.length+i:=⟨_,rfl⟩;rw[←hJ]at hM him;have HJ:=qe hJ;have hJb:J≤1100000:=by omega
     clear hJ;by_cases hlt:i<64
     ·obtain⟨v,h1,h2,h3,h4,h5⟩:=hM
      obtain⟨Av,cv,rfl,-,-,-,-⟩:=h2.shape' (qcm _ _ _);have c1:=h1.cell;have f1:=h1.frozen;have c3:=h3.cell;have H1:=qe h1;have H2:=qe h2;have H3:=qe h3;have H4:=qe h4;have H5:=qe h5;clear h1 h2 h3 h4 h5;have hlt':(i:Int)<64:=by omega
      have hix:=qnU HX.1 hlt wr;by_cases hem:J=m
      ·have hem':((J:Int)==(m:Int))=true:=by rw[beq_iff_eq];omega
       gi_wp2_with fail
       refine⟨hko.from _,⟨⟨_,H1.1,H2.1.cast (by rw[hem]),H3.1,H4.1,H5.1⟩,rfl,?_⟩,HB'.1.trans hb⟩;have:=HJ.1;rw[QO];simp;omega
      ·have hem':((J:Int)==(m:Int))=false:=by rw[beq_eq_false_iff_ne];omega
       have hbw:=HB'.1.trans hb;obtain⟨tb,toff,hT,htb,ct⟩:=(HT.1.below (hbw.mono hB')).at_ (k:=J) (by rw[HM.1];omega);have HTx:=qe (show text[J]'(by rw[HM.1];omega)=text.getD J 0#8 by rw[QR,QT (by rw[HM.1];omega)];rfl);rw[HTx.1]at ct;obtain⟨tj,htj⟩:∃t,t=text.getD J 0#8:=⟨_,rfl⟩;obtain⟨xi,hxi⟩:∃t,t=x.1.2.getD i 0#8:=⟨_,rfl⟩;rw[←htj]at ct;rw[←hxi]at hix;have Htj:=qe htj
       have Hxi:=qe hxi;subst hT;clear htj hxi HTx;have hix':(Instr.index 157 (.agg (x.1.2.map b8).toArray) (.int .i64 i)).run prog wr= .ok (.int .u8 (bv xi)) wr:=hix;clear hix;gi_wp2_with fail
       have hS:(fun w':World=>w'.cell? ⟨w3.heap.size,0,none⟩=some (.slice Av J cv)∧w'.cell? ⟨w.heap.size+1,0,none⟩=some (.slice (some ⟨tb,toff,none⟩) m d)∧w'.cell? ⟨tb,toff+J,none⟩=some (.int .u8 (bv tj))) wr.drew:=⟨c1,c3,ct⟩;refine qat (by kernel_rfl) (by kernel_rfl) (fun w':World=>w'.cell? ⟨w3.heap.size,0,none⟩=some (.slice Av J cv)∧w'.cell? ⟨w.heap.size+1,0,none⟩=some (.slice (some ⟨tb,toff,none⟩) m d)∧w'.cell? ⟨tb,toff+J,none⟩=some (.int .u8 (bv tj))) 10 ?_
       have hlt2:(J:Int)<(m:Int):=by omega
       refine zi (i:=6) (v:= .int .u8 (bv xi)) rfl (by kernel_rfl) (by kernel_rfl) (by kernel_rfl) (by kernel_rfl) (fun _ _ _ h=>nomatch h.1) (QZ ⟨by rfl,?_⟩) hS ?_
       ·rintro w' ⟨s0,s1,s2⟩
        go_simp
       try simp only[QJ,qj,qz,qv]
       refine zi (i:=0) (v:= .slice Av J cv) rfl (by kernel_rfl) (by kernel_rfl) (by kernel_rfl) (by kernel_rfl) (fun _ _ _ h=>nomatch h.1) (QZ ⟨by rfl,?_⟩) hS ?_
       ·rintro w' ⟨s0,s1,s2⟩
        go_simp
       try simp only[QJ,qj,qz,qv]
       refine zi (i:=1) (v:= .slice (some ⟨tb,toff,none⟩) m d) rfl (by kernel_rfl) (by kernel_rfl) (by kernel_rfl) (by kernel_rfl) (fun _ _ _ h=>nomatch h.1) (QZ ⟨by rfl,?_⟩) hS ?_
       ·rintro w' ⟨s0,s1,s2⟩
        go_simp
       try simp only[QJ,qj,qz,qv]
       refine zi (i:=2) (v:= .slice Av J cv) rfl (by kernel_rfl) (by kernel_rfl) (by kernel_rfl) (by kernel_rfl) (fun _ _ _ h=>nomatch h.1) (QZ ⟨by rfl,?_⟩) hS ?_
       ·rintro w' ⟨s0,s1,s2⟩
        go_simp
       try simp only[QJ,qj,qz,qv]
       refine zi (i:=3) (v:= .int .i64 J) rfl (by kernel_rfl) (by kernel_rfl) (by kernel_rfl) (by kernel_rfl) (fun _ _ _ h=>nomatch h.1) (QZ ⟨by rfl,?_⟩) hS ?_
       ·rintro w' ⟨s0,s1,s2⟩
        go_simp
       try simp only[QJ,qj,qz,qv]
       refine zi (i:=4) (v:= .pointer (some ⟨tb,toff+J,none⟩)) rfl (by kernel_rfl) (by kernel_rfl) (by kernel_rfl) (by kernel_rfl) (fun _ _ _ h=>nomatch h.1) (QZ ⟨by rfl,?_⟩) hS ?_
       ·rintro w' ⟨s0,s1,s2⟩
        go_simp
       try simp only[QJ,qj,qz,qv]
       refine zi (i:=5) (v:= .int .u8 (bv tj)) rfl (by kernel_rfl) (by kernel_rfl) (by kernel_rfl) (by kernel_rfl) (fun _ _ _ h=>nomatch h.1) (QZ ⟨by rfl,?_⟩) hS ?_
       ·rintro w' ⟨s0,s1,s2⟩
        go_simp
       try simp only[QJ,qj,qz,qv]
       refine zi (i:=7) (v:= .int .u8 (bv (tj^^^xi))) rfl (by kernel_rfl) (by kernel_rfl) (by kernel_rfl) (by kernel_rfl) (fun _ _ _ h=>nomatch h.1) (QZ ⟨by rfl,?_⟩) hS ?_
       ·rintro w' ⟨s0,s1,s2⟩
        go_simp
       try simp only[QJ,qj,qz,qv]
       refine qao (i:=8) (by kernel_rfl) rfl (fun K' hK=>?_);go_simp;refine hK _ _ (fun _=>?_) ?_
       ·exact⟨(H1.1.alloc _).cell,(H3.1.alloc _).cell,qeH ct _⟩
       clear hK K';try simp only[QJ,qj,qz,qv]
       refine qao (i:=9) (by kernel_rfl) rfl (fun K' hK=>?_);refine jc rfl (.tmp 50) (.tmp 58) 28 rfl qH w.heap.size 5 i0 _ 1 underlying28 hi0 hz0 hz1 hz2 rfl _ _ rfl (H2.1.drew.alloc _) (wr.heap.size+1) _ 1 1 [tj^^^xi] rfl rfl (Rd.new b8 wr.drew 5 [tj^^^xi]) (by simp[maxLen,qcm];omega) (by simp[qcm];omega) (by have:=hbw.size;simp;omega) ?_;intro v7 w7 hown7 hg7 hbb7
       obtain⟨Av7,cv7,rfl,-,-,-,-⟩:=hown7.shape' (n:=J+1) (by rw[QO,qcm];rfl);obtain⟨k1,k2,k3,k4,k5⟩:=qlh (ob:=w3.heap.size) H1.1 H2.1 (by have:=hbw.size;omega) hown7 (W:=wr) (tmp:= .cells #[.int .u8 (bv (tj^^^xi))] 5) hg7.by_ (by have:=hz3;omega);have m3:=qj2 H3.1 H2.1 hg7.by_;have m5:=qj2 H5.1 H2.1 hg7.by_;have m4:=qnT H4.1 H2.1 hg7.by_;have hb7:Below w.heap.size wr w7:=hbb7 _ _ (QI _) ((QK _ wr).alloc (by have:=hbw.size;omega) _).drew
       have c7:=k1.cell;have f7:=k1.frozen;have c73:=m3.cell;have ct7:w7.cell? ⟨tb,toff+J,none⟩=some (.int .u8 (bv tj)):=(hb7.cell (show tb<w.heap.size by omega)).trans ct;refine hK _ _ (fun _=>⟨c7,c73,ct7⟩) ?_;clear hK K';try simp only[QJ,qj,qz,qv]
       refine qao (i:=10) (by kernel_rfl) rfl (fun K' hK=>?_);go_simp;refine hK _ _ (fun h=>absurd rfl h) (qcY (by kernel_rfl) ⟨rfl,?_⟩ _);clear hK K';gi_wp2_with fail
       refine⟨⟨i+1,rfl,by omega,⟨_,k2,k3.cast ?_,m3.kept (grownBy_setCell' _ _ _) (by intro e;have:=Option.some.inj e;omega),m4.grown (grownBy_setCell' _ _ _) (by intro e;have:=Option.some.inj e;omega),m5.kept (grownBy_setCell' _ _ _) (by intro e;have:=Option.some.inj e;omega)⟩,by have:=HJ.1;omega,hb.trans k5,hko.trans k4⟩,by simp[intOf];omega⟩;have hj:64*pre.length+(i+1)=J+1:=by have:=HJ.1;omega
       have hpl:(List.map (fun x:Pc=>x.val.snd) pre).length=pre.length:=QN _;have hq:=qlg (List.map (fun x:Pc=>x.val.snd) pre) x.1.2 text i hlt;rw[hpl,←HJ.1,←Htj.1,←Hxi.1]at hq;rw[hj,qle,Q9,Jd,Jt,hq]
     ·have hJ:=HJ.1
      clear hJ;obtain rfl:i=64:=by omega
      have HMh:=qe hM;clear hM;gi_wp2_with fail
      refine⟨hko.from _,HM'.1.kp HMh.1 hb,⟨HMh.1.cast ?_,?_⟩,HB'.1.trans hb⟩
      ·rw[HJ.1,QO];rfl
      ·have:=HJ.1;rw[QO];simp;omega
   case done=>
    rintro D ys W hD hys ⟨⟨hM,hlen⟩,hB'⟩ hK;obtain⟨v,h1,h2,h3⟩:=hM;have c1:=h1.cell;have H2:=qe h2;clear h1 h2 h3;gi_wp2_with fail
    have hK':=hK;have E0:zF 12 m number=0:=by rw[Hmb.1,←Hq.1,if_neg (by omega)]
    have hcn:vR 12 number=(4294967296-number).toNat:=if_pos Hb.1;have hyl:ys.length=vR 12 number:=by have:=congrArg JT hys;rw[QN,qbd]at this;exact this
    have hml:64*ys.length=m:=by have:=Hq.1;omega
    refine⟨by simp,.inl ⟨_,_,rfl,run_takeDeferred hK',?_⟩⟩;refine⟨.tuple #[v,.nilIface],by simp[results,Tryz.f59,go_sem],v,by rw[E0];rfl,?_,?_⟩
    ·refine Own.cast (qel H2.1 (grownBy_putObj' _ D (.deferred none)) (fun r e=>by cases e;exact⟨_,hK',rfl⟩)) ?_
     unfold zY;rw[HN.1,HM.1,E0,if_pos rfl,hml];exact qek key nonce number text ys (vR 12 number) m hys (by rw[←hyl];omega)
    ·exact hB'.trans (belowK_b (w:=w) (QI _) _ D _ _ (by omega) hK' rfl rfl)
   case stop=>
    rintro D c' pre W hD hpre ⟨⟨hM,rfl,hlen⟩,hB'⟩ hK;obtain⟨v,h1,h2,h3⟩:=hM;have c1:=h1.cell;have H2:=qe h2;clear h1 h2 h3;gi_wp2_with fail
    have hK':=hK;obtain⟨k,hkc,hpm⟩:=hpre;have E0:zF 12 m number=0:=by rw[Hmb.1,←Hq.1,if_neg (by omega)]
    have hyl:pre.length=k:=by have:=congrArg JT hpm;rw[QN,qbd]at this;exact this
    refine⟨by simp,.inl ⟨_,_,rfl,run_takeDeferred hK',?_⟩⟩;refine⟨.tuple #[v,.nilIface],by simp[results,Tryz.f59,go_sem],v,by rw[E0];rfl,?_,?_⟩
    ·refine Own.cast (qel H2.1 (grownBy_putObj' _ D (.deferred none)) (fun r e=>by cases e;exact⟨_,hK',rfl⟩)) ?_
     unfold zY;rw[HN.1,HM.1,E0,if_pos rfl];exact qek key nonce number text pre k m hpm (by rw[←hyl];omega)
    ·exact hB'.trans (belowK_b (w:=w) (QI _) _ D _ _ (by omega) hK' rfl rfl)
 ·have hb2:zF n m number=zy n number:=qci hb
  obtain⟨bad,hbad⟩:∃bad,bad=zy n number:=⟨_,rfl⟩;simp only[←hbad]at hck hb hb2;rw[jO hb]at hck;have Hck:=qe hck;have Hmv:=qe (show zY key nonce number text=[] by unfold zY;rw[hn,hm,hb2,if_neg hb]);rw[hb2,jO hb];clear hk hn hmn hm hr ht hck hbad hb2;refine(callsIn_wide (n:=9)).1 ?_;refine callsIn_of_wp_marks func59 rfl trivial ?_ rfl;simp only[ntmps59,Jh,Jr,JE,JI,Nat.reduceSub,Zi,Zj,Zk,Zl,Ji,JL]
  gi_wp2_with fail
  refine qaM ?_;gi_wp2_with fail
  refine⟨trivial,?_⟩;refine(callsIn_wide.2 (Hck.1 _)).mono ?_;rintro e w' ⟨rfl,rfl⟩;gi_wp2_with fail
  exact⟨.tuple #[.slice none 0 0,.iface 69 (.int .i64 bad)],by simp[results,Tryz.f59,go_sem],.slice none 0 0,rfl,(Own.nil_ b8 _ _ _).cast Hmv.1.symm,by(repeat' (first|assumption|exact QK _ _|refine Below.drew ?_|refine Below.alloc ?_ ?_ _|omega|(simp;done)|(simp;omega)))⟩
theorem qmX(w:World)(key:qf)(hk:key.length=32)(A C T:Option Addr)(n c l cc m d Bn Bc Bm:Nat)(nonce ctx text:qf)
 (hrn:Rd b8 w Bn A nonce)(hBn:Bn≤w.heap.size)(hn:nonce.length=n)(hnc:n≤c)
 (hrc:Rd b8 w Bc C ctx)(hBc:Bc≤w.heap.size)(hl:ctx.length=l)
 (hrm:Rd b8 w Bm T text)(hBm:Bm≤w.heap.size)(hm:text.length=m):
 Calls prog 35 #[jL b8 key,.slice A n c,.slice C l cc,.slice T m d] w fun e w'=>∃v,e= .returned (.tuple #[v,zG (jU n l m)])∧Own b8 w' w.heap.size 5 v (zO key nonce ctx text)∧Below w.heap.size w w':=by
 have HK:=qe hk;have HN:=qe hn;have HL:=qe hl;have HM:=qe hm;have HRn:=qe (hrn.more hBn);have HRc:=qe (hrc.more hBc);have HRm:=qe (hrm.more hBm);have hsv:zO key nonce ctx text=if jU n l m=0 then zY key nonce 1 text++uc key nonce ctx (zY key nonce 1 text)else[]:=by unfold zO;rw[hn,hl,hm]
 rw[hsv];clear hk hn hl hm hrn hrc hrm hBn hBc hBm hsv;rw[qn];have HK1:=qe (Arr.new b8 w 92 key);have HB1:=qe (show Below w.heap.size w (w.alloc (.cells (key.map b8).toArray 92))from(QK _ w).alloc (QI _) _);by_cases h1:n=12
 ·subst h1
  by_cases h2:l≤1048576
  ·by_cases h3:m≤1048576
   ·have hgood:jU 12 l m=0:=by unfold jU;rw[if_neg (by omega)]
    rw[hgood,if_pos rfl,qW];obtain⟨X,hX⟩:∃X,zY key nonce 1 text=X:=⟨_,rfl⟩;rw[hX];have HXe:=qe hX;clear hX;have h2i:¬((l:Int)>1048576):=by omega
    have h3i:¬((m:Int)>1048576):=by omega
    go_enter func35,ntmps35
    go_wp2_with (refine qm rfl 92 (.tmp 4) rfl w.heap.size rfl _ key HK1.1 _ underlying92 rfl (by rw[HK.1];exact kJ) ?_)
    have hml:=ka key nonce text HN.1 (by rw[HM.1];omega);have hmx:=qj3 key A 12 c w.heap.size nonce 1 T m d w.heap.size text (w.alloc (.cells (key.map b8).toArray 92)) HK.1 (HRn.1.alloc (QI _) _) (by simp) HN.1 hnc (HRm.1.alloc (QI _) _) (by simp) HM.1 (by omega) (by omega) (by omega);rw[HM.1]at hml;rw[hml.1,qW,qn]at hmx;rw[HXe.1]at hmx hml;have HX:=qe hml.2
    have HMx:=qe hmx;have hz1:(w.alloc (.cells (key.map b8).toArray 92)).heap.size=w.heap.size+1:=by simp
    clear hml hmx;refine HMx.1.mono ?_;rintro e w2 ⟨v2,rfl,ho2,hb2⟩;obtain⟨A2,c2,rfl,hr2,-,-,-⟩:=ho2.shape' HX.1;have hz2:=hb2.size;have HR2:=qe hr2;have HB2:=qe (HB1.1.trans (hb2.mono (by omega)));have HK2:=qe (HK1.1.below hb2 (by omega));clear ho2 hb2 hr2 HMx HB1 HK1;go_wp2_with (refine qm rfl 92 (.tmp 4) rfl w.heap.size rfl _ key HK2.1 _ underlying92 rfl (by rw[HK.1];exact kJ) ?_)
    have ham:=qfc w2 key HK.1 A C A2 12 c l cc m c2 w.heap.size w.heap.size w2.heap.size nonce ctx X (HRn.1.below HB2.1) HB2.1.size HN.1 rfl hnc (HRc.1.below HB2.1) HB2.1.size HL.1 (by omega) HR2.1 (QI _) HX.1 (by omega);rw[qn]at ham;have HAm:=qe ham;clear ham;refine HAm.1.mono ?_;rintro e w3 ⟨g3,rfl,hg3,ha3,hb3⟩;have hz3:=hb3.size;have HR3:=qe ((HR2.1.below hb3).more hz3)
    have HA3:=qe (show Rd b8 w3 w3.heap.size (some ⟨g3,0,none⟩) (uc key nonce ctx X)from(ha3.rd 0).more (by have:=ha3.lt;omega));have HB3:=qe (HB2.1.trans (hb3.mono HB2.1.size));have hs3:=HB3.1.size;clear ha3 hb3 HR2 HAm HB2;go_wp2_with fail
    have hcc:=qdQ w3 w3.heap.size m c2 16 16 A2 (some ⟨g3,0,none⟩) X (uc key nonce ctx X) HR3.1 HA3.1 (QI _) HX.1.symm (jT _ _ _ _).symm (by rw[HX.1,jT];omega);have HCc:=qe hcc;clear hcc;refine HCc.1.mono ?_;rintro e w4 ⟨v4,rfl,ho4,hb4⟩;have HO4:=qe (ho4.less (show w.heap.size≤w3.heap.size+1 by omega));have HB4:=qe (HB3.1.trans (hb4.mono hs3));clear ho4 hb4 HCc
    go_wp2_with fail
    go_ret2;exact⟨_,rfl,HO4.1,HB4.1⟩
   ·have h2i:¬((l:Int)>1048576):=by omega
    have h3i:(m:Int)>1048576:=by omega
    have hbad:jU 12 l m=1:=by unfold jU;rw[if_pos (by omega)]
    rw[hbad,if_neg (by decide)];go_enter func35,ntmps35
    go_wp2_with fail
    go_ret2;exact⟨_,rfl,Own.nil_ _ _ _ _,HB1.1⟩
  ·have h2i:(l:Int)>1048576:=by omega
   have hbad:jU 12 l m=1:=by unfold jU;rw[if_pos (by omega)]
   rw[hbad,if_neg (by decide)];go_enter func35,ntmps35
   go_wp2_with fail
   go_ret2;exact⟨_,rfl,Own.nil_ _ _ _ _,HB1.1⟩
 ·have h1i:¬((n:Int)=12):=by omega
  have hbad:jU n l m=1:=by unfold jU;rw[if_pos (by omega)]
  rw[hbad,if_neg (by decide)];go_enter func35,ntmps35
  go_wp2_with fail
  go_ret2;exact⟨_,rfl,Own.nil_ _ _ _ _,HB1.1⟩
section
variable{w w':World}{base gB:Nat}{b:BX}
theorem qI.took(h:qI w base gB b){i j:Nat}(hi:i<b.es.length)(hj:j<b.es[i].xs.length){y:LP}{L:jo}(hyl:y.l=L)(hc:zo w' b.es[i].gC b.es[i].gl (b.es[i].xs.set j y))(hg:w.grownBy w' (some b.es[i].gl))(hgm:w.heap.size≤y.gm)
 (hzz:∀z∈y.hp.map Prod.snd,z∈b.es[i].xs[j].hp.map Prod.snd∨w.heap.size≤z):
 ∃b',b'.m=⟨b.m.grp,zD b.m.es i j L,b.m.clr⟩∧b'.v=b.v∧qI w' base gB b'∧Frm w w' b.efoot∧∀k∈BX.foot gB b',k∈BX.foot gB b∨w.heap.size≤k:=by
 have hgl:b.es[i].gl∈b.es[i].foot:=by simp[EP.foot,zC]
 have F:Frm w w' [b.es[i].gl]:=(Frm.refl w _).grown hg (by simp);obtain⟨h1,h2⟩:=h.turn_ hi F (fun k hk=>by rw[Je]at hk;rw[hk];exact hgl) (xs:=b.es[i].xs.set j y) (by rw[List.length_set]) hc (fun k hk=>by
  unfold zC at hk;simp only[Ja,QS]at hk;unfold EP.foot zC;simp only[Ja,QS];rcases hk with h4|h4|h4|h4
  ·exact .inl (.inl h4)
  ·exact .inl (.inr (.inl h4))
  ·obtain⟨x,hx,rfl⟩:=QW.1 h4
   rcases Zt hx with h5|rfl
   ·exact .inl (.inr (.inr (.inl (QW.2 ⟨x,h5,rfl⟩))))
   ·exact .inr hgm
  ·obtain⟨x,hx,h6⟩:=Jk.1 h4
   rcases Zt hx with h5|rfl
   ·exact .inl (.inr (.inr (.inr (Jk.2 ⟨x,h5,h6⟩))))
   ·rcases hzz k h6 with h7|h7
    ·exact .inl (.inr (.inr (.inr (Jk.2 ⟨_,Q5 hj,h7⟩))))
    ·exact .inr h7)
 refine⟨b.turn i b.es[i] (b.es[i].xs.set j y),by rw[qnF hi,hyl],rfl,h1,⟨F.os,F.tape,F.output,F.size,fun k hk hn=>F.block k hk (fun h5=>hn ?_)⟩,h2⟩;rw[Je]at h5;exact Jk.2 ⟨_,Q5 hi,by rw[h5];exact hgl⟩
theorem qI.row_efoot(h:qI w base gB b){g:Nat}(hg:b.v.ownBlock=some g):g∉b.efoot:=fun hm=>by
 obtain⟨e,he,hk⟩:=Jk.1 hm;exact h.row_notin hg e he hk
theorem BX.efoot_sub(gB:Nat)(b:BX):∀k∈b.efoot,k∈BX.foot gB b:=fun k hk=>by
 simp only[BX.foot,Ja,QS];exact .inr (.inr hk)
theorem Frm.new{w'':World}{S:List Nat}(h:Frm w w' S){row:Nat}(hg:w'.grownBy w'' (some row))(hr:w.heap.size≤row):Frm w w'' S:=⟨hg.os.trans h.os,hg.tape.trans h.tape,hg.output.trans h.output,QX h.size hg.size,fun k hk hn=>(hg.block k (Jq hk h.size) (fun e=>by injection e with e;omega)).trans (h.block k hk hn)⟩
end
theorem qli{w:World}{base gB:Nat}{b:BX}(h:qI w base gB b){i j:Nat}(hi:i<b.es.length)(hj:j<b.es[i].xs.length){l:jo}(hl:l=b.es[i].xs[j].l)(hE:qQ l l.place=0):
 Calls prog 34 #[.pointer (some ⟨b.es[i].gC,0,none⟩),.int .i64 (j:Int)] w fun e w'=>∃k b',e= .returned (.tuple #[.agg (qy l.place (qS l l.place).key (qx k)).toArray,.nilIface])∧
  Arr b8 w' k 5 ((qS l l.place).key++(qS l l.place).nonce)∧b'.m=⟨b.m.grp,zD b.m.es i j (jR l l.place),b.m.clr⟩∧b'.v=b.v∧qI w' base gB b'∧Frm w w' b.efoot∧∀k∈BX.foot gB b',k∈BX.foot gB b∨w.heap.size≤k:=by
 subst hl;have hb:=h.bnd _ (Q5 hi);refine(qmw w _ _ _ (h.ch _ (Q5 hi)) j hj (by omega) hE).mono ?_;rintro e w' ⟨k,y,rfl,hA,hyl,hC,hnd,hg,hgm,hzz⟩;obtain⟨b',h1,h2,h3,h4,h5⟩:=h.took hi hj hyl hC hg hgm (fun z hz=>hzz z (List.mem_cons_of_mem _ hz));exact⟨k,b',rfl,hA,h1,h2,h3,h4,h5⟩
theorem qlj{w:World}{base gB:Nat}{b:BX}(h:qI w base gB b){i j:Nat}(hi:i<b.es.length)(hj:j<b.es[i].xs.length){l:jo}(hl:l=b.es[i].xs[j].l)(n:Int)(hE:qQ l n=0):
 Calls prog 42 #[.pointer (some ⟨b.es[i].gC,0,none⟩),.int .i64 (j:Int),.int .i64 n] w fun e w'=>∃k b',e= .returned (.tuple #[.agg (qy n (qS l n).key (qx k)).toArray,.nilIface])∧
  Arr b8 w' k 5 ((qS l n).key++(qS l n).nonce)∧b'.m=⟨b.m.grp,zD b.m.es i j (jR l n),b.m.clr⟩∧b'.v=b.v∧qI w' base gB b'∧Frm w w' b.efoot∧∀k∈BX.foot gB b',k∈BX.foot gB b∨w.heap.size≤k:=by
 subst hl;have hb:=h.bnd _ (Q5 hi);refine(qe2 w _ _ _ (h.ch _ (Q5 hi)) j hj (by omega) n hE).mono ?_;rintro e w' ⟨k,y,rfl,hA,hyl,hC,hnd,hg,hgm,hzz⟩;obtain⟨b',h1,h2,h3,h4,h5⟩:=h.took hi hj hyl hC hg hgm (fun z hz=>hzz z (List.mem_cons_of_mem _ hz));exact⟨k,b',rfl,hA,h1,h2,h3,h4,h5⟩
structure PM where
 grp:qf
 ep:Int
 fr:Int
 nu:Int
 sl:qf
def qhJ:PM:=⟨QL 32 0#8,0,0,0,[]⟩
def ud(b:BM)(m:Nat):Nat:=match jY b.es with
 |none=>10
 |some l=>if 1024<m then 1 else qQ l l.place
def kx(b:BM)(text:qf):PM:=match jY b.es with
 |none=>qhJ
 |some l=>if ud b text.length=0 then⟨b.grp,kX b.es,(vE b.es:Int),l.place,zO (qS l l.place).key (qS l l.place).nonce (vF b.grp (kX b.es) (vE b.es:Int) l.place) text⟩else qhJ
def yO(b:BM)(m:Nat):BM:=match jY b.es with
 |none=>b
 |some l=>if ud b m=0 then⟨b.grp,zD b.es (b.es.length-1) (vE b.es) (jR l l.place),b.clr⟩else b
end
section
open Go.RowKit
set_option maxRecDepth 100000
def vw(es:List EM)(ep:Int):Option Nat:=es.findIdx? fun e=>e.no==ep
def uC(es:List EM)(ep:Int):Int:=match vw es ep with
 |none=> -1
 |some i=>(i:Int)
theorem qbK{b:BX}{ep:Int}{i:Nat}(h:vw b.m.es ep=some i):∃hi:i<b.es.length,b.es[i].no=ep∧∀(j:Nat) (hj:j<i),(b.es[j]'(by omega)).no≠ep:=by
 unfold vw BX.m at h;rw[List.findIdx?_eq_some_iff_getElem]at h;obtain⟨hi,h1,h2⟩:=h;rw[QN]at hi;refine⟨hi,by simpa[EP.m]using h1,fun j hj=>?_⟩;have:=h2 j hj;simpa[EP.m]using this
theorem qi5{b:BX}{ep:Int}(h:vw b.m.es ep=none):∀(j:Nat) (hj:j<b.es.length),b.es[j].no≠ep:=by
 unfold vw BX.m at h;rw[List.findIdx?_eq_none_iff]at h;intro j hj;have:=h (b.es[j].m) (QW.2 ⟨_,Q5 hj,rfl⟩);simpa[EP.m]using this
theorem qgd(W:World)(gP:Nat)(ep no lf:Int)(gC:Nat)(hp:gP<W.heap.size)(hc:W.cell? ⟨gP,32,none⟩=some (.int .i64 ep)):
 Calls prog 39 #[.agg #[.pointer (some ⟨gC,0,none⟩),.int .i64 no,.int .i64 lf],.pointer (some ⟨gP,0,none⟩)] W fun e w'=>e= .returned (.bool (no==ep))∧Below W.heap.size W w':=by
 have d32:(W.alloc (.cells #[.pointer (some ⟨gC,0,none⟩),.int .i64 no,.int .i64 lf] 80)).cell? ⟨gP,32,none⟩=some (.int .i64 ep):=(((QK W.heap.size W).alloc (QI _) _).cell (p:=⟨gP,32,none⟩) hp).trans hc;go_enter func39,ntmps39
 go_wp2_with fail
 go_ret;exact⟨rfl,(QK _ W).alloc (QI _) _⟩
theorem qaC{w:World}{base gB:Nat}{b:BX}(h:qI w base gB b)(gP:Nat)(ep:Int)(hp:gP<w.heap.size)(hc:w.cell? ⟨gP,32,none⟩=some (.int .i64 ep)):
 Calls prog 38 #[b.v,.func (.func 39) #[] #[.pointer (some ⟨gP,0,none⟩)]] w fun e w'=>e= .returned (.int .i64 (uC b.m.es ep))∧Below w.heap.size w w':=by
 have eg:∀args w,(callFunc 39 args).run prog w= .ok (.enter 39 args) w:=fun args w=>by kernel_rfl
 obtain⟨A,c,hv,-⟩:=qX h.row;obtain⟨n,hn⟩:∃n,n=b.es.length:=⟨_,rfl⟩;rw[←hn]at hv;rw[hv];have HFs:=qe (show∀(k:Nat) (hk:k<b.es.length),(∀j (hj:j<k),(b.es[j]'(by omega)).no≠ep)→b.es[k].no=ep→uC b.m.es ep=(k:Int)from fun k hk h1 h2=>by
  unfold uC;cases hf:vw b.m.es ep with
  |none=>exact absurd h2 (qi5 hf k hk)
  |some i=>
   obtain⟨hi,h3,h4⟩:=qbK hf;rcases Nat.lt_trichotomy i k with h5|h5|h5
   ·exact absurd h3 (h1 i h5)
   ·rw[h5]
   ·exact absurd h2 (h4 k h5))
 have HFn:=qe (show(∀j (hj:j<b.es.length),b.es[j].no≠ep)→uC b.m.es ep= -1 from fun h1=>by
  unfold uC;cases hf:vw b.m.es ep with
  |none=>rfl
  |some i=>
   obtain⟨hi,h3,h4⟩:=qbK hf;exact absurd h3 (h1 i hi))
 have HR:=qe (show∀k (hk:k<b.es.length),∃g,A=some ⟨g,0,none⟩∧g<w.heap.size∧w.cell? ⟨g,k*3,none⟩=some (.pointer (some ⟨b.es[k].gC,0,none⟩))∧w.cell? ⟨g,k*3+1,none⟩=some (.int .i64 b.es[k].no)∧w.cell? ⟨g,k*3+2,none⟩=some (.int .i64 (b.es[k].leaf:Int))from fun k hk=>by
  obtain⟨g,c',hv',-,hgl,-⟩:=h.v_some (by omega);rw[hv]at hv';injection hv' with e1 e2 e3;have hv2:b.v= .slice (some ⟨g,0,none⟩) n c:=by rw[hv,e1]
  obtain⟨a0,a1,a2⟩:=h.at_row hv2 (i:=k) hk;exact⟨g,e1,hgl,a0,a1,a2⟩)
 have HN:=qe hn;have hn5:n≤5:=by have:=h.many;omega
 obtain⟨F,hF⟩:∃F,F=uC b.m.es ep:=⟨_,rfl⟩;rw[←hF]at HFs HFn ⊢;have HC:=qe hc;clear h hv hn hF hc;go_enter func38,ntmps38
 go_wp2_with fail
 go_loopw [8] (fun iv wr=>∃k:Nat,k≤n∧iv= .int .i64 (k:Int)∧(∀j (hj:j<k) (h2:j<b.es.length),b.es[j].no≠ep)∧Below w.heap.size w wr) (fun iv _=>n-(intOf iv).toNat)
 case atStart=>exact⟨0,by omega,rfl,fun j hj=>absurd hj (by omega),QK _ _⟩
 case round=>
  obtain⟨k,hk,rfl,hno,hb⟩:=hrel;have HNo:=qe hno;clear hno;by_cases hlt:k<n
  ·have hkb:k<b.es.length:=by rw[←HN.1];exact hlt
   obtain⟨g,rfl,hgl,a0,a1,a2⟩:=HR.1 k hkb;obtain⟨no,hno⟩:∃no,no=(b.es[k]'hkb).no:=⟨_,rfl⟩;rw[←hno]at a1;have HNk:=qe hno;have d0:=(hb.cell (p:=⟨g,k*3,none⟩) hgl).trans a0;have d1:=(hb.cell (p:=⟨g,k*3+1,none⟩) hgl).trans a1;have d2:=(hb.cell (p:=⟨g,k*3+2,none⟩) hgl).trans a2;have hlt2:(k:Int)<(n:Int):=by omega
   have hsz:=hb.size;have hcp:=(hb.cell (p:=⟨gP,32,none⟩) hp).trans HC.1;generalize(b.es[k]'hkb).gC=gC at d0;generalize(b.es[k]'hkb).leaf=lf at d2;have HP:=qe (qgd wr gP ep no (lf:Int) gC (by omega) hcp);have HB:=qe hb;clear hno a0 a1 a2 hb hcp;by_cases he:no=ep
   ·have heb:(no==ep)=true:=by simp[he]
    rw[heb]at HP;have HE:=qe he;clear he heb;go_wp2_with (go_at_fn 39;refine HP.1.mono ?_;rintro e w3 ⟨rfl,hb3⟩)
    go_ret;exact⟨by rw[HFs.1 k hkb (fun j hj=>HNo.1 j hj (by omega)) (by rw[←HNk.1];exact HE.1)];rfl,HB.1.trans (hb3.mono HB.1.size)⟩
   ·have heb:(no==ep)=false:=by simp[he]
    rw[heb]at HP;go_wp2_with (go_at_fn 39;refine HP.1.mono ?_;rintro e w3 ⟨rfl,hb3⟩)
    go_roundw
    case rel=>exact⟨k+1,by omega,by go_num,fun j hj h2=>by
     rcases Jo j k with h3|h3
     ·exact HNo.1 j h3 h2
     ·have:j=k:=by omega
      subst this;rw[←HNk.1];exact he,HB.1.trans (hb3.mono HB.1.size)⟩
    case measure=>simp[intOf];omega
  ·obtain rfl:k=n:=by omega
   go_wp2
   go_ret;exact⟨by rw[HFn.1 (fun j hj=>HNo.1 j (by rw[HN.1];exact hj) hj)];rfl,hb⟩
theorem qI.typed_out{w:World}{base gB g:Nat}{b:BX}(h:qI w base gB b){cs:Array Value}{T:TypeId}(hg:w.heap[g]?=some (.cells cs T (0,0)))(h1:T≠117)(h2:T≠130)(h3:T≠5)(h4:T≠76)(h5:T≠80):g∉BX.foot gB b:=by
 intro hm;simp only[BX.foot,Ja,QS,Option.mem_toList]at hm;rcases hm with rfl|hm|hm
 ·have h6:w.heap[g]?=some (.cells b.cells.toArray 76 (0,0)):=h.blk
  rw[h6]at hg;injection hg with hg;injection hg with _ hT _;exact h4 hT.symm
 ·obtain⟨-,-,cs',h6⟩:=kW h.row hm
  rw[h6]at hg;injection hg with hg;injection hg with _ hT _;exact h5 hT.symm
 ·obtain⟨e,he,hk⟩:=Jk.1 hm
  exact h.gB_out he hg h1 h2 h3 hk
structure uD(w w':World)(base gB:Nat)(b b':BX)(M:BM)(bk:Nat)(kn:qf):Prop where
 arr:Arr b8 w' bk 5 kn
 m:b'.m=M
 v:b'.v=b.v
 box:qI w' base gB b'
 frm:Frm w w' b.efoot
 foot:∀k∈BX.foot gB b',k∈BX.foot gB b∨w.heap.size≤k
section
variable{w w4 w5:World}{base gB:Nat}{b b':BX}{M:BM}{bk:Nat}{kn:qf}
theorem uD.below(h:uD w w4 base gB b b' M bk kn)(hb:Below w4.heap.size w4 w5):uD w w5 base gB b b' M bk kn:=
 ⟨h.arr.below hb h.arr.lt,h.m,h.v,h.box.below hb,h.frm.below hb (QI _),h.foot⟩
theorem uD.turn(h:uD w w4 base gB b b' M bk kn){gO:Nat}{T:TypeId}{cs:List Value}(hb:Blk w4 gO T cs)(hg:w4.grownBy w5 (some gO))(hn:w.heap.size≤gO)(h1:T≠117)(h2:T≠130)(h3:T≠5)(h4:T≠76)(h5:T≠80):uD w w5 base gB b b' M bk kn:=by
 refine⟨h.arr.grown hg (fun e=>?_),h.m,h.v,h.box.of_same (fun k hk=>hg.block k (h.box.foot_lt k hk).2 (fun e=>?_)),h.frm.new hg hn,h.foot⟩
 ·injection e with e
  have h6:=h.arr;unfold Arr at h6;have h7:w4.heap[gO]?=some (.cells cs.toArray T (0,0)):=hb;rw[←e,h6]at h7;injection h7 with h7;injection h7 with _ hT _;exact h3 hT.symm
 ·injection e with e
  exact h.box.typed_out hb h1 h2 h3 h4 h5 (by rw[←e];exact hk)
theorem uD.keep(h:uD w w4 base gB b b' M bk kn){g:Nat}(hg:g<w.heap.size)(hn:g∉b.efoot):w4.heap[g]?=w.heap[g]?:=h.frm.block g hg hn
end
def pkZ:List Value:=qq (QL 32 0#8) 0 0 0 none 0 0
theorem qcK:prog.built 41 []=some pkZ.toArray:=by kernel_rfl
theorem jC:(prog.info? 41).map (·.size)=some 36:=by kernel_rfl
theorem j1{grp:qf}(h:grp.length=32)(ep fr nu:Int)(A:Option Addr)(n c:Nat):(qq grp ep fr nu A n c).length=36:=by simp[qq,h]
theorem yg(grp:qf)(ep fr nu:Int)(A:Option Addr)(n c:Nat):∀u∈qq grp ep fr nu A n c,u.oneCell'=true:=by
 intro u hu;unfold qq at hu;simp only[QS,Ja,List.not_mem_nil,or_false]at hu;rcases hu with hu|rfl|rfl|rfl|rfl
 ·obtain⟨x,-,rfl⟩:=QW.1 hu;exact qH x
 all_goals rfl
theorem qmY{grp:qf}(h:grp.length=32)(ep fr nu:Int):prog.built 41 [(0,.agg (grp.map b8).toArray),(1,.int .i64 ep),(2,.int .i64 fr),(3,.int .i64 nu)]=some (qq grp ep fr nu none 0 0).toArray:=by
 obtain⟨x0,x1,x2,x3,x4,x5,x6,x7,x8,x9,x10,x11,x12,x13,x14,x15,x16,x17,x18,x19,x20,x21,x22,x23,x24,x25,x26,x27,x28,x29,x30,x31,rfl⟩:=un h
 kernel_rfl
theorem qfd{grp:qf}(h:grp.length=32)(ep fr nu:Int)(A A':Option Addr)(n c n' c':Nat):(qq grp ep fr nu A n c).set 35 (.slice A' n' c')=qq grp ep fr nu A' n' c':=by
 unfold qq;rw[List.set_append,if_neg (by simp[h])];simp[h]
theorem qdv:pkZ.toArray= #[QM .u8 0,QM .u8 0,QM .u8 0,QM .u8 0,QM .u8 0,QM .u8 0,QM .u8 0,QM .u8 0,QM .u8 0,QM .u8 0,QM .u8 0,QM .u8 0,QM .u8 0,QM .u8 0,QM .u8 0,QM .u8 0,QM .u8 0,QM .u8 0,QM .u8 0,QM .u8 0,QM .u8 0,QM .u8 0,QM .u8 0,QM .u8 0,QM .u8 0,QM .u8 0,QM .u8 0,QM .u8 0,QM .u8 0,QM .u8 0,QM .u8 0,QM .u8 0,QM .i64 0,QM .i64 0,QM .i64 0,JZ none 0 0]:=rfl
theorem qnV{P:Program}{op:Oper}{a:Act}{t:TypeId}{parts:List (Nat×Operand)}{cells:Array Value}{vals:List (Nat×Value)}(ho:op.op= .build t parts.toArray)(hv:parts.map (fun x=>(x.1,a.eval x.2))=vals)(hb:P.built t vals=some cells)(w:World):
 (execOp a.eval op).run P w= .ok (.value (.agg cells)) w:=by
 have hr:=run_build (P:=P) w t vals.toArray cells hb;rw[←hv,←List.map_toArray]at hr;unfold execOp;simp only[ho];have e:(parts.toArray.map fun(i,x)=>(i,a.eval x))=parts.toArray.map (fun x=>(x.1,a.eval x.2)):=rfl;rw[e];simp only[Sem.run_bind,Sem.run_pure,Result.andThen_ok,hr]
theorem qi6{w:World}{base gB:Nat}{b:BX}(h:qI w base gB b)(T:Option Addr)(m d Bm:Nat)(text:qf)(hr:Rd b8 w Bm T text)(hBm:Bm≤w.heap.size)(hTf:text≠ []→∀bt off,T=some ⟨bt,off,none⟩→bt∉b.efoot)(hm:text.length=m):
 Calls prog 12 #[.pointer (some ⟨gB,0,none⟩),.slice T m d] w fun e w'=>∃(A:Option Addr) (n c:Nat),e= .returned (.tuple #[.agg (qq (kx b.m text).grp (kx b.m text).ep (kx b.m text).fr (kx b.m text).nu A n c).toArray,zG (ud b.m m)])∧Own b8 w' w.heap.size 5 (.slice A n c) (kx b.m text).sl∧
  ∃b',b'.m=yO b.m m∧qI w' base gB b'∧Frm w w' (BX.foot gB b)∧(∀k∈BX.foot gB b',k∈BX.foot gB b∨w.heap.size≤k)∧∀k,(JZ A n c).ownBlock=some k→k∉BX.foot gB b':=by
 obtain⟨w1,hw1⟩:∃w1,w1=w.alloc (.cells pkZ.toArray 41):=⟨_,rfl⟩;have HZ1:=qe (show Blk w1 w.heap.size 41 pkZ by rw[hw1];exact Blk.new _ _ _);have HK1:=qe (show Below w.heap.size w w1 by rw[hw1];exact(QK _ w).alloc (QI _) _);have hz1:w1.heap.size=w.heap.size+1:=by rw[hw1];simp
 have HW1:=qe hw1;clear hw1;have HB1:=qe (h.below HK1.1);have HH:=qe h;have HTf:=qe hTf;clear hTf;have HR1:=qe ((hr.below (HK1.1.mono hBm)).more (show Bm≤w1.heap.size by omega));rcases Nat.eq_zero_or_pos b.es.length with h0|h0
 ·have he:b.es=[]:=List.eq_nil_of_length_eq_zero h0
  have hll:jY b.m.es=none:=by unfold jY zT BX.m;simp[he]
  have hE:ud b.m m=10:=by unfold ud;rw[hll]
  have hP:kx b.m text=qhJ:=by unfold kx;rw[hll]
  have hM:yO b.m m=b.m:=by unfold yO;rw[hll]
  rw[hE,hP,hM];have HL:=qe (qbF HB1.1 he);clear h h0 he hll hE hP hM hr hm;go_enter func12,ntmps12
  go_upto_region 1 with fail
  have hw1:=HW1.1;rw[qdv]at hw1;rw[←hw1];clear hw1;go_wp2_with fail
  refine HL.1.mono ?_;rintro e w2 ⟨rfl,q,hq⟩;have HB2:=qe (qN hq);have hz2:=HB2.1.size;clear hq;go_wp2_with (first
   |(refine jh rfl 41 [] rfl pkZ.toArray [] rfl qcK ?_)
   |(refine qi rfl 41 (.tmp 4) (.tmp 15) rfl w.heap.size 0 rfl pkZ rfl 41 _ [] pkZ [] (HZ1.1.below HB2.1 (by omega)) (by simp) rfl rfl jC (yg _ _ _ _ _ _ _) ?_;intro w9 hx9 hg9))
  have HX9:=qe (show Blk w9 w.heap.size 41 pkZ from hx9.cast (by simp));refine bodyPost_ret (v:= .tuple #[.agg pkZ.toArray,zG 10]) (qu (g:=w.heap.size) rfl _ _ _ _ _ _ rfl rfl HX9.1 underlying41 rfl jC) rfl ?_;have hbz:=(HK1.1.trans (HB2.1.mono (by omega)));have hbx:=hbz.grown hg9 hbz.size (fun k e=>by cases e;exact QI _);exact⟨none,0,0,rfl,Own.nil_ _ _ _ _,b,rfl,HH.1.below hbx,(Frm.refl w _).below hbx (QI _),fun k hk=> .inl hk,fun k hk=>(by cases hk)⟩
 ·obtain⟨n,hn⟩:∃n,b.es.length=n+1:=⟨b.es.length-1,by omega⟩
  obtain⟨g,c,hv,hbg,hgl,hcc⟩:=HB1.1.v_some h0;rw[hn]at hv;have hi:n<b.es.length:=by omega
  have hb:=h.bnd _ (Q5 hi);obtain⟨l,hl⟩:∃l,l=(b.es[n].xs[b.es[n].leaf]'hb.1).l:=⟨_,rfl⟩;have hll:=qc7 hn hb.1;rw[←hl]at hll;have hlok:LOK l:=by rw[hl];exact((h.ch _ (Q5 hi)).ok _ (Q5 hb.1)).lok
  have HL:=qe (qcE HB1.1 hn hv);by_cases hbig:1024<m
  ·have hE:ud b.m m=1:=by unfold ud;rw[hll];exact if_pos hbig
   have hP:kx b.m text=qhJ:=by unfold kx;rw[hll];dsimp only;rw[hm,hE];exact if_neg (by decide)
   have hM:yO b.m m=b.m:=by unfold yO;rw[hll];dsimp only;rw[hE];exact if_neg (by decide)
   rw[hE,hP,hM];have hbig2:(m:Int)>1024:=by omega
   clear h h0 hn hv hbg hgl hcc hi hb hl hll hlok hE hP hM hr hm hbig;go_enter func12,ntmps12
   go_upto_region 1 with fail
   have hw1:=HW1.1;rw[qdv]at hw1;rw[←hw1];clear hw1;go_wp2_with fail
   refine HL.1.mono ?_;rintro e w2 ⟨rfl,q,hq⟩;have HB2:=qe (qN hq);have hz2:=HB2.1.size;clear hq;go_wp2_with (first
    |(refine jh rfl 41 [] rfl pkZ.toArray [] rfl qcK ?_)
    |(refine qi rfl 41 (.tmp 4) (.tmp 21) rfl w.heap.size 0 rfl pkZ rfl 41 _ [] pkZ [] (HZ1.1.below HB2.1 (by omega)) (by simp) rfl rfl jC (yg _ _ _ _ _ _ _) ?_;intro w9 hx9 hg9))
   have HX9:=qe (show Blk w9 w.heap.size 41 pkZ from hx9.cast (by simp));refine bodyPost_ret (v:= .tuple #[.agg pkZ.toArray,zG 1]) (qu (g:=w.heap.size) rfl _ _ _ _ _ _ rfl rfl HX9.1 underlying41 rfl jC) rfl ?_;have hbz:=(HK1.1.trans (HB2.1.mono (by omega)));have hbx:=hbz.grown hg9 hbz.size (fun k e=>by cases e;exact QI _);exact⟨none,0,0,rfl,Own.nil_ _ _ _ _,b,rfl,HH.1.below hbx,(Frm.refl w _).below hbx (QI _),fun k hk=> .inl hk,fun k hk=>(by cases hk)⟩
  ·have hbig2:¬((m:Int)>1024):=by omega
   have hE:ud b.m m=qQ l l.place:=by unfold ud;rw[hll];exact if_neg hbig
   have hgnf:g∉b.efoot:=HB1.1.row_efoot (by rw[hv];rfl);have HV:=qe hv;obtain⟨lf,hlf⟩:∃lf,lf=b.es[n].leaf:=⟨_,rfl⟩;obtain⟨gC,hgC⟩:∃gC,gC=b.es[n].gC:=⟨_,rfl⟩;by_cases hT:qQ l l.place=0
   ·obtain⟨hkl,hnl⟩:=qaG hlok hT
    have hEz:ud b.m m=0:=by rw[hE];exact hT
    obtain⟨P,hP0⟩:∃P,P=l.place:=⟨_,rfl⟩;obtain⟨O,hO⟩:∃O,O=qS l l.place:=⟨_,rfl⟩;obtain⟨no,hno⟩:∃no,no=b.es[n].no:=⟨_,rfl⟩;have hlf':vE b.m.es=lf:=by rw[qc6 hn,hlf]
    have hln':kX b.m.es=no:=by
     rw[hno];unfold kX BX.m;simp only[List.getLast?_eq_getElem?,QN,hn,Nat.add_sub_cancel,List.getElem?_map,QT hi,Option.map_some,EP.m]
    have hsp:kx b.m text=⟨b.grp,no,(lf:Int),P,zO O.key O.nonce (vF b.grp no (lf:Int) P) text⟩:=by
     unfold kx;rw[hll];dsimp only;rw[hm,hEz,if_pos rfl,hln',hlf',←hO,←hP0];rfl
    obtain⟨M,hM0⟩:∃M:BM,M=⟨b.m.grp,zD b.m.es n lf (jR l l.place),b.m.clr⟩:=⟨_,rfl⟩;have hsm:yO b.m m=M:=by
     unfold yO;rw[hll];dsimp only;rw[hEz,if_pos rfl,hlf',hM0,show b.m.es.length-1=n by unfold BX.m;simp[hn]]
    rw[hEz,hsp,hsm];have HMg:=qe (show∀b':BX,b'.m=M→b'.grp=b.grp from fun b' e=>by
     have h5:b'.m.grp=M.grp:=by rw[e]
     rw[hM0]at h5;exact h5)
    have HKl:=qe (show O.key.length=32 by rw[hO];exact hkl);have HNl:=qe (show O.nonce.length=12 by rw[hO];exact hnl);have HGl:=qe h.glen;have HNx:=qe (show∀w2 W,Below w2.heap.size w2 W→qI W base gB b→Calls prog 34 #[.pointer (some ⟨gC,0,none⟩),.int .i64 (lf:Int)] W fun e w'=>∃bk b',e= .returned (.tuple #[.agg (qy P O.key (qx bk)).toArray,.nilIface])∧uD w2 w' base gB b b' M bk (O.key++O.nonce)∧Frm W w' b.efoot from fun w2 W hbW hW=>by
     refine(by have h5:=qli hW hi hb.1 hl hT;rw[←hgC,←hlf,←hO,←hP0]at h5;exact h5:Calls _ _ _ _ _).mono ?_;rintro e w' ⟨k,b',rfl,h1,h2,h3,h4,h5,h6⟩;refine⟨k,b',rfl,⟨h1,?_,h3,h4,⟨h5.os.trans hbW.os,h5.tape.trans hbW.tape,h5.output.trans hbW.output,QX hbW.size h5.size,fun k hk hn=>(h5.block k (Jq hk hbW.size) hn).trans (hbW.block k hk)⟩,fun k hk=>(h6 k hk).imp (fun h=>h) (fun h=>QX hbW.size h)⟩,h5⟩
     rw[h2,hM0,←hP0])
    have HAt:=qe (show∀w2 W:World,qI w2 base gB b→W.heap[g]?=w2.heap[g]?→W.cell? ⟨g,n*3,none⟩=some (.pointer (some ⟨gC,0,none⟩))∧W.cell? ⟨g,n*3+2,none⟩=some (.int .i64 (lf:Int))∧W.cell? ⟨g,n*3+1,none⟩=some (.int .i64 no)from fun w2 W hW hh=>by
     obtain⟨a0,a1,a2⟩:=hW.at_row hv hi;rw[hgC,hlf,hno];exact⟨(JK (a:=⟨g,n*3,none⟩) hh).trans a0,(JK (a:=⟨g,n*3+2,none⟩) hh).trans a2,(JK (a:=⟨g,n*3+1,none⟩) hh).trans a1⟩)
    have HGn:=qe hgnf;have hm1:m≤1024:=by omega
    have HM:=qe hm;clear h h0 hn hv hbg hcc hi hb hl hll hlok hE hEz hsp hsm hr hm hbig hT hlf hgC hgnf hkl hnl hP0 hO hno hlf' hln' hM0;go_enter func12,ntmps12
    go_upto_region 1 with fail
    have hw1:=HW1.1;rw[qdv]at hw1;rw[←hw1];clear hw1;go_wp2_with fail
    refine HL.1.mono ?_;rintro e w2 ⟨rfl,q,hq⟩;have HB2:=qe (qN hq);have hz2:=HB2.1.size;have HX2:=qe (HB1.1.below HB2.1);have hgl2:g<w2.heap.size:=by omega
    clear hq;go_upto_region 6 with fail
    have hS6:w2.cell? ⟨g,n*3,none⟩=some (.pointer (some ⟨gC,0,none⟩))∧w2.cell? ⟨g,n*3+2,none⟩=some (.int .i64 (lf:Int)):=⟨(HAt.1 _ _ HX2.1 rfl).1,(HAt.1 _ _ HX2.1 rfl).2.1⟩;go_cut [7,8]from 23 to 34 (fun p e wx=>∃(gO bk:Nat) (b':BX),p= .pointer (some ⟨gO,0,none⟩)∧e= .nilIface∧w2.heap.size≤gO∧Blk wx gO 94 (qy P O.key (qx bk))∧uD w2 wx base gB b b' M bk (O.key++O.nonce))
    case first=>
     have HS:=qe (show∀W:World,W.heap[g]?=w2.heap[g]?→W.cell? ⟨g,n*3,none⟩=some (.pointer (some ⟨gC,0,none⟩))∧W.cell? ⟨g,n*3+2,none⟩=some (.int .i64 (lf:Int))from fun W hW=>⟨(HAt.1 _ _ HX2.1 hW).1,(HAt.1 _ _ HX2.1 hW).2.1⟩);refine wp_region_noPanic ?_;refine wp_region_held_drew (S:=fun w'=>w'.cell? ⟨g,n*3,none⟩=some (.pointer (some ⟨gC,0,none⟩))∧w'.cell? ⟨g,n*3+2,none⟩=some (.int .i64 (lf:Int))) (by kernel_rfl) hS6 (fun hS=>?_)
     refine tkA 0 (.pointer (some ⟨g,n*3,none⟩)) hS ?_;refine tkA 1 (.pointer (some ⟨g,n*3,none⟩)) hS ?_;refine tkA 2 (.pointer (some ⟨g,n*3,none⟩)) hS ?_;try simp only[QJ,qj,qz,qv]
     refine tkA 3 (.pointer (some ⟨gC,0,none⟩)) hS ?_;refine tkA 4 (.pointer (some ⟨g,n*3,none⟩)) hS ?_;refine tkA 5 (.pointer (some ⟨g,n*3,none⟩)) hS ?_;try simp only[QJ,qj,qz,qv]
     refine tkA 6 (.pointer (some ⟨g,n*3+2,none⟩)) hS ?_;refine tkA 7 (.int .i64 (lf:Int)) hS ?_;try simp only[QJ,qj,qz,qv]
     refine wpAnyH_ready (rs:=[8,12]) (by kernel_rfl) (by simp) (Jm (o:={dst:=some 32,op:=_,type:=_,pos:=_,after:=_,guard:=_}) rfl (fun K' hK=>?_) (Jm (o:={dst:=some 7,op:=_,type:=_,pos:=_,after:=_,guard:=_}) rfl (fun K' hK=>?_) J1))
     ·go_simp
      go_at_call 34;refine(HNx.1 w2 _ (QK _ w2).drew HX2.1.drew).mono ?_;rintro e w4 ⟨bk,b',rfl,hx4,-⟩;have HX4:=qe hx4;clear hx4;refine hK.out _ _ (HS.1 _ (HX4.1.keep hgl2 HGn.1)) (fun hS=>?_);clear hK K';refine tkA 9 (.tuple #[.agg (qy P O.key (qx bk)).toArray,.nilIface]) hS ?_;refine tkA 10 (.agg (qy P O.key (qx bk)).toArray) hS ?_;try simp only[QJ,qj,qz,qv]
      refine tkA 11 (.nilIface) hS ?_;try simp only[QJ,qj,qz,qv]
      refine rdH 12 (fun K' hK=>?_);go_simp;have HX5:=qe (HX4.1.below ((QK _ w4).alloc (QI _) (.cells qg.toArray 94)));refine hK.out _ _ (HS.1 _ (HX5.1.keep hgl2 HGn.1)) (fun hS=>?_);clear hK K';try simp only[QJ,qj,qz,qv]
      refine rdH 13 (fun K' hK=>?_);rw[if_pos (by rfl)];refine qo 94 (.tmp 7) (.tmp 33) rfl (w4.heap.size) 0 rfl (qy P O.key (qx bk)) rfl 94 _ [] qg [] (Blk.new w4 94 qg) (by simp) rfl (by rw[qw _ _ _ HKl.1];rfl) (by rw[qA,qw _ _ _ HKl.1]) (qF _ _ _ _ _) ?_;intro w5 hx5 hg5;have hx6:=HX5.1.turn (Blk.new w4 94 qg) hg5 HX4.1.frm.size (by decide) (by decide) (by decide) (by decide) (by decide)
      have HX6:=qe hx6;have HO6:=qe (show Blk w5 w4.heap.size 94 (qy P O.key (qx bk))from hx5.cast (by simp));have HsO:=qe HX4.1.frm.size;clear hx5 hg5 hx6;refine hK.out _ _ (HS.1 _ (HX6.1.keep hgl2 HGn.1)) (fun hS=>?_);clear hK K';refine tkA 14 (.nilIface) hS ?_;try simp only[QJ,qj,qz,qv]
      refine wpAnyH_done (by kernel_rfl) ?_ _;refine Q4 ?_;go_wp2_with fail
      go_meet
      case rel=>exact⟨_,bk,b',rfl,rfl,HsO.1,HO6.1,HX6.1⟩
     ·go_simp
      refine hK.out _ _ (HS.1 _ (((QK _ w2).alloc (QI _) _).drew.block g hgl2)) (fun hS=>?_);clear hK K';try simp only[QJ,qj,qz,qv]
      refine rdH 8 (fun K' hK=>?_);go_simp;go_at_call 34;refine(HNx.1 w2 _ ((QK _ w2).alloc (QI _) (.cells qg.toArray 94)).drew (HX2.1.alloc (.cells qg.toArray 94)).drew).mono ?_;rintro e w4 ⟨bk,b',rfl,hx4,hf4⟩;have HX4:=qe hx4;have hef:w2.heap.size∉b.efoot:=fun hm=>by have:=(HX2.1.foot_lt _ (BX.efoot_sub gB b _ hm)).2;omega
      have HZ4:=qe (show Blk w4 w2.heap.size 94 qg from(hf4.block _ (by show w2.heap.size<(w2.alloc (.cells qg.toArray 94)).heap.size;rw[QQ];omega) hef).trans (Blk.new w2 94 qg));clear hx4 hf4 hef;refine hK.out _ _ (HS.1 _ (HX4.1.keep hgl2 HGn.1)) (fun hS=>?_);clear hK K';refine tkA 9 (.tuple #[.agg (qy P O.key (qx bk)).toArray,.nilIface]) hS ?_;refine tkA 10 (.agg (qy P O.key (qx bk)).toArray) hS ?_
      try simp only[QJ,qj,qz,qv]
      refine tkA 11 (.nilIface) hS ?_;try simp only[QJ,qj,qz,qv]
      refine rdH 13 (fun K' hK=>?_);rw[if_pos (by rfl)];refine qo 94 (.tmp 7) (.tmp 33) rfl (w2.heap.size) 0 rfl (qy P O.key (qx bk)) rfl 94 _ [] qg [] HZ4.1 (by simp) rfl (by rw[qw _ _ _ HKl.1];rfl) (by rw[qA,qw _ _ _ HKl.1]) (qF _ _ _ _ _) ?_;intro w5 hx5 hg5;have hx6:=HX4.1.turn HZ4.1 hg5 (QI _) (by decide) (by decide) (by decide) (by decide) (by decide)
      have HX6:=qe hx6;have HO6:=qe (show Blk w5 w2.heap.size 94 (qy P O.key (qx bk))from hx5.cast (by simp));clear hx5 hg5 hx6;refine hK.out _ _ (HS.1 _ (HX6.1.keep hgl2 HGn.1)) (fun hS=>?_);clear hK K';refine tkA 14 (.nilIface) hS ?_;try simp only[QJ,qj,qz,qv]
      refine wpAnyH_done (by kernel_rfl) ?_ _;refine Q4 ?_;go_wp2_with fail
      go_meet
      case rel=>exact⟨_,bk,b',rfl,rfl,QI _,HO6.1,HX6.1⟩
    case rest=>
     obtain⟨gO,bk,b',rfl,rfl,hgO,hO6,hx6⟩:=hcut;have HO6:=qe hO6;have HX6:=qe hx6;have HRc:=qe (show Rd b8 wc w2.heap.size T text from fun hn=>Qb ((HR1.1.below HB2.1).more HB2.1.size) (QI _) hx6.frm (HTf.1 (fun e=>by rw[e]at hn;simp at hn)) hn);have hgl6:gO<wc.heap.size:=hO6.lt;have hbgr:=HMg.1 b' hx6.m;have hcells:=HAt.1 w2 wc HX2.1 (hx6.keep hgl2 HGn.1);have hr9:wc.drew.rangeAt gB 0 (b.grp.map b8):=by
      have h5:=(hx6.box.blk).range 0 32;rwa[J0,show b'.cells.take 32=b.grp.map b8 by unfold BX.cells;rw[hbgr,Zc (by rw[QN,HGl.1])]]at h5
     have c0:=hO6.cell 0 (u:= .int .i64 P) rfl;have hS:wc.drew.rangeAt gB 0 (b.grp.map b8)∧wc.drew.cell? ⟨g,n*3+1,none⟩=some (.int .i64 no)∧wc.drew.cell? ⟨g,n*3+2,none⟩=some (.int .i64 (lf:Int))∧wc.drew.cell? ⟨gO,0,none⟩=some (.int .i64 P):=⟨hr9,hcells.2.2,hcells.2.1,c0⟩;have hu:=underlying23;have hi33:(prog.info? 23).map (·.size)=some (b.grp.map b8).length:=by rw[QN,HGl.1];exact jy
     have hbp:=qmY HGl.1 no (lf:Int) P;have HS9:=qe (show∀W,uD w2 W base gB b b' M bk (O.key++O.nonce)→Blk W gO 94 (qy P O.key (qx bk))→W.rangeAt gB 0 (b.grp.map b8)∧W.cell? ⟨g,n*3+1,none⟩=some (.int .i64 no)∧W.cell? ⟨g,n*3+2,none⟩=some (.int .i64 (lf:Int))∧W.cell? ⟨gO,0,none⟩=some (.int .i64 P)from fun W hX hO=>by
      have h5:=(hX.box.blk).range 0 32;rw[J0,show b'.cells.take 32=b.grp.map b8 by unfold BX.cells;rw[hbgr,Zc (by rw[QN,HGl.1])]]at h5;have h6:=HAt.1 w2 W HX2.1 (hX.keep hgl2 HGn.1);exact⟨h5,h6.2.2,h6.2.1,hO.cell 0 (u:= .int .i64 P) rfl⟩)
     clear hO6 hx6 hbgr hcells hr9 c0;go_wp2_with fail
     refine wp_region_noPanic ?_;refine wp_region_held_drew (S:=fun w'=>w'.rangeAt gB 0 (b.grp.map b8)∧w'.cell? ⟨g,n*3+1,none⟩=some (.int .i64 no)∧w'.cell? ⟨g,n*3+2,none⟩=some (.int .i64 (lf:Int))∧w'.cell? ⟨gO,0,none⟩=some (.int .i64 P)) (by kernel_rfl) hS (fun hS=>?_);refine tkH 0 (.pointer (some ⟨gB,0,none⟩)) ?_ hS ?_
     ·intro w' hw'
      obtain⟨-,s0,s1,s2⟩:=hw';go_simp
     refine tkH 1 (.pointer (some ⟨gB,0,none⟩)) ?_ hS ?_
     ·intro w' hw'
      obtain⟨-,s0,s1,s2⟩:=hw';go_simp
     refine tkH 2 (.pointer (some ⟨gB,0,none⟩)) ?_ hS ?_
     ·intro w' hw'
      obtain⟨-,s0,s1,s2⟩:=hw';go_simp
     try simp only[QJ,qj,qz,qv]
     refine tkK 3 (.agg (b.grp.map b8).toArray) rfl rfl (yieldsIf_load_mid (by rfl) 23 (.tmp 41) rfl gB 0 rfl (b.grp.map b8) _ (fun _ h=>h.1) hu rfl hi33) hS ?_;refine tkH 4 (.pointer (some ⟨g,n*3,none⟩)) ?_ hS ?_
     ·intro w' hw'
      obtain⟨-,s0,s1,s2⟩:=hw';go_simp
     refine tkH 5 (.pointer (some ⟨g,n*3,none⟩)) ?_ hS ?_
     ·intro w' hw'
      obtain⟨-,s0,s1,s2⟩:=hw';go_simp
     try simp only[QJ,qj,qz,qv]
     refine tkH 6 (.pointer (some ⟨g,n*3+1,none⟩)) ?_ hS ?_
     ·intro w' hw'
      obtain⟨-,s0,s1,s2⟩:=hw';go_simp
     refine tkH 7 (.int .i64 no) ?_ hS ?_
     ·intro w' hw'
      obtain⟨-,s0,s1,s2⟩:=hw';go_simp
     refine tkH 8 (.pointer (some ⟨g,n*3,none⟩)) ?_ hS ?_
     ·intro w' hw'
      obtain⟨-,s0,s1,s2⟩:=hw';go_simp
     try simp only[QJ,qj,qz,qv]
     refine tkH 9 (.pointer (some ⟨g,n*3,none⟩)) ?_ hS ?_
     ·intro w' hw'
      obtain⟨-,s0,s1,s2⟩:=hw';go_simp
     refine tkH 10 (.pointer (some ⟨g,n*3+2,none⟩)) ?_ hS ?_
     ·intro w' hw'
      obtain⟨-,s0,s1,s2⟩:=hw';go_simp
     refine tkH 11 (.int .i64 (lf:Int)) ?_ hS ?_
     ·intro w' hw'
      obtain⟨-,s0,s1,s2⟩:=hw';go_simp
     try simp only[QJ,qj,qz,qv]
     refine tkH 12 (.pointer (some ⟨gO,0,none⟩)) ?_ hS ?_
     ·intro w' hw'
      obtain⟨-,s0,s1,s2⟩:=hw';go_simp
     refine tkH 13 (.int .i64 P) ?_ hS ?_
     ·intro w' hw'
      obtain⟨-,s0,s1,s2⟩:=hw';go_simp
     refine tkK 14 (.agg (qq b.grp no (lf:Int) P none 0 0).toArray) rfl rfl (QZ ⟨by rfl,fun w' _=>qnV (parts:=[(0,.tmp 42),(1,.tmp 46),(2,.tmp 50),(3,.tmp 52)]) rfl rfl hbp w'⟩) hS ?_;try simp only[QJ,qj,qz,qv]
     refine rdH 15 (fun K' hK=>?_);go_simp;have hb7:Below wc.heap.size wc (wc.alloc (.cells pkZ.toArray 41)).drew:=((QK _ wc).alloc (QI _) _).drew;have HX7:=qe (HX6.1.below hb7);have HO7:=qe (HO6.1.below hb7 hgl6);have HZ7:=qe (show Blk (wc.alloc (.cells pkZ.toArray 41)).drew wc.heap.size 41 pkZ from(Blk.new wc 41 pkZ).drew);have HB7:=qe hb7;clear hb7;refine hK.out _ _ (HS9.1 _ HX7.1 HO7.1) (fun hS=>?_)
     clear hK K';try simp only[QJ,qj,qz,qv]
     refine rdH 16 (fun K' hK=>?_);rw[if_pos (by rfl)];refine qo 41 (.tmp 9) (.tmp 53) rfl wc.heap.size 0 rfl (qq b.grp no (lf:Int) P none 0 0) rfl 41 _ [] pkZ [] HZ7.1 (by simp) rfl (by rw[j1 HGl.1];rfl) (by rw[j1 HGl.1];exact jC) (yg _ _ _ _ _ _ _) ?_;intro w8 hx8 hg8;have HP8:=qe (show Blk w8 wc.heap.size 41 (qq b.grp no (lf:Int) P none 0 0)from hx8.cast (by simp))
     have HX8:=qe (HX7.1.turn HZ7.1 hg8 HX6.1.frm.size (by decide) (by decide) (by decide) (by decide) (by decide));have HO8:=qe (HO7.1.grown hg8 (fun e=>by injection e with e;omega));have HB8:=qe (HB7.1.grown hg8 HB7.1.size (fun k e=>by cases e;exact QI _));clear hx8 hg8 HX7 HO7 HZ7 HB7;refine hK.out _ _ (HS9.1 _ HX8.1 HO8.1) (fun hS=>?_);clear hK K';try simp only[QJ,qj,qz,qv]
     refine wpAnyH_done (by kernel_rfl) ?_ _;refine Q4 ?_;clear hS hi33 hbp HS9;have hz8:wc.heap.size<w8.heap.size:=HP8.1.lt;obtain⟨kv,hkv⟩:∃kv,kv=O.key.map b8:=⟨_,rfl⟩;obtain⟨pc,hpc⟩:∃pc,pc=qq b.grp no (lf:Int) P none 0 0:=⟨_,rfl⟩;have HS10:=qe (show∀W,Below w8.heap.size w8 W→W.rangeAt gO 1 kv∧W.rangeAt wc.heap.size 0 pc∧W.cell? ⟨gO,33,none⟩=some (qx bk)from fun W hb=>by
      have h5:=HO8.1.below hb HO8.1.lt;have h6:=h5.range 1 32;rw[show((qy P O.key (qx bk)).drop 1).take 32=kv by unfold qy;rw[hkv,List.drop_succ_cons,J0,Zc (by rw[QN,HKl.1])]]at h6;refine⟨h6,by rw[hpc];exact(HP8.1.below hb HP8.1.lt).whole,h5.cell 33 ?_⟩;unfold qy;rw[List.getElem?_cons_succ,JA (by rw[QN,HKl.1];omega),QN,HKl.1]
      rfl)
     have hu2:=underlying92;have hu3:=underlying41;have hi2:(prog.info? 92).map (·.size)=some kv.length:=by rw[hkv,QN,HKl.1];exact kJ
     have hi3:(prog.info? 41).map (·.size)=some pc.length:=by rw[hpc,j1 HGl.1];exact jC
     have HCt:=qe (show∀W,Calls prog 36 #[.agg pc.toArray] W fun e w'=>∃v,e= .returned v∧Own b8 w' W.heap.size 5 v (vF b.grp no (lf:Int) P)∧Below W.heap.size W w' from fun W=>by rw[hpc];exact qda b.grp HGl.1 no (lf:Int) P none 0 0 W);have hsb:jU 12 41 m=0:=by unfold jU;rw[if_neg (by omega)]
     have HSl:=qe (show∀(W:World) (A1:Option Addr) (c1:Nat),Below w8.heap.size w8 W→Rd b8 W W.heap.size A1 (vF b.grp no (lf:Int) P)→Calls prog 35 #[.agg kv.toArray,qx bk,.slice A1 41 c1,.slice T m d] W fun e w'=>∃v,e= .returned (.tuple #[v,.nilIface])∧Own b8 w' W.heap.size 5 v (zO O.key O.nonce (vF b.grp no (lf:Int) P) text)∧Below W.heap.size W w' from fun W A1 c1 hb hA=>by
      have hx:=HX8.1.below hb;have hrn:Rd b8 W (bk+1) (some ⟨bk,32,none⟩) O.nonce:=by
       have h5:=hx.arr.rd 32;rwa[show(O.key++O.nonce).drop 32=O.nonce by rw[←HKl.1,List.drop_left]]at h5
      have h5:=qmX W O.key HKl.1 (some ⟨bk,32,none⟩) A1 T 12 12 41 c1 m d (bk+1) W.heap.size w2.heap.size O.nonce (vF b.grp no (lf:Int) P) text hrn (by have:=hx.arr.lt;omega) HNl.1 (QI _) hA (QI _) (uB HGl.1 _ _ _) (HRc.1.below ((HB8.1.trans (hb.mono (by omega))).mono HX6.1.frm.size)) (by have:=HX6.1.frm.size;have:=hb.size;omega) HM.1;rw[hsb,qW,qn,←hkv]at h5
      exact h5)
     have HPc:=qe hpc;have hS:w8.drew.rangeAt gO 1 kv∧w8.drew.rangeAt wc.heap.size 0 pc∧w8.drew.cell? ⟨gO,33,none⟩=some (qx bk):=HS10.1 _ (QK _ w8).drew;clear hkv hpc hsb;go_upto_region 10 with fail
     refine jr (by kernel_rfl) (fun w'=>w'.rangeAt gO 1 kv∧w'.rangeAt wc.heap.size 0 pc∧w'.cell? ⟨gO,33,none⟩=some (qx bk)) 12 ?_;refine puB 0 (.pointer (some ⟨gO,1,none⟩)) hS ?_;refine tkL 1 (.agg kv.toArray) rfl rfl (yieldsIf_load_mid (by rfl) 92 (.tmp 55) rfl gO 1 rfl kv _ (fun _ h=>h.1) hu2 rfl hi2) hS ?_;refine puB 2 (.pointer (some ⟨gO,33,none⟩)) hS ?_;try simp only[QJ,qj,qz,qv]
     refine tkY 3 (qx bk) ?_ hS ?_
     ·intro w' hw'
      obtain⟨-,-,s1⟩:=hw';unfold qx at s1 ⊢;go_simp
     refine tkL 4 (.agg pc.toArray) rfl rfl (yieldsIf_load_mid (by rfl) 41 (.tmp 9) rfl wc.heap.size 0 rfl pc _ (fun _ h=>h.2.1) hu3 rfl hi3) hS ?_;refine puB 6 (.slice T m d) hS ?_;try simp only[QJ,qj,qz,qv]
     refine onY 5 (fun K' hK=>?_);go_simp;go_at_call 36;refine(HCt.1 _).mono ?_;rintro e wa ⟨va,rfl,hoa,hba⟩;obtain⟨Aa,ca,rfl,hra,-,-,-⟩:=hoa.shape' (uB HGl.1 _ _ _);have HBa:=qe (show Below w8.heap.size w8 wa from(QK w8.heap.size w8).drew.trans hba);have HRa:=qe hra;clear hoa hba hra;refine hK _ _ (fun _=>HS10.1 _ HBa.1) ?_;clear hK K';try simp only[QJ,qj,qz,qv]
     have hS:=HS10.1 _ HBa.1;refine onY 7 (fun K' hK=>?_);go_simp;go_at_call 35;refine(HSl.1 _ _ _ HBa.1 HRa.1).mono ?_;rintro e wb ⟨vb,rfl,hob,hbb⟩;obtain⟨sl,hsl⟩:∃sl,(zO O.key O.nonce (vF b.grp no (lf:Int) P) text).length=sl:=⟨_,rfl⟩;obtain⟨Ab,cb,rfl,-,-,-,-⟩:=hob.shape' hsl;clear hsl;have HBb:=qe (HBa.1.trans (hbb.mono HBa.1.size));have HOb:=qe hob;have hza:w8.heap.size≤wa.heap.size:=HBa.1.size
     clear hob hbb;refine hK _ _ (fun _=>HS10.1 _ HBb.1) ?_;clear hK K';try simp only[QJ,qj,qz,qv]
     have hS:=HS10.1 _ HBb.1;refine puB 8 (.tuple #[.slice Ab sl cb,.nilIface]) hS ?_;refine puB 9 (.slice Ab sl cb) hS ?_;refine puB 10 (.nilIface) hS ?_;try simp only[QJ,qj,qz,qv]
     refine puB 11 (.pointer (some ⟨wc.heap.size,35,none⟩)) hS ?_;try simp only[QJ,qj,qz,qv]
     have HPb:=qe (HP8.1.below HBb.1 HP8.1.lt);have c35:=HPb.1.cell 35 (u:= .slice none 0 0) (by unfold qq;rw[JA (by rw[QN,HGl.1];omega),QN,HGl.1];rfl);have f35:=HPb.1.frozen 35;refine onY 12 (fun K' hK=>?_);go_simp;refine hK _ _ (fun h=>absurd rfl h) ?_;clear hS;clear hK K';try simp only[QJ,qj,qz,qv]
     refine qbc (i:=13) (o:={dst:=some 8,op:=_,type:=_,pos:=_,after:=_,guard:=_}) (by kernel_rfl) (by kernel_rfl) rfl (fun K' hK=>?_);go_simp;refine hK _ _ (jq (by kernel_rfl) ?_ _);clear hK K';obtain⟨wd,hwd⟩:∃wd,wd=wb.setCell ⟨wc.heap.size,35,none⟩ (.slice Ab sl cb):=⟨_,rfl⟩;have hgs:=qM wb wc.heap.size 35 (.slice Ab sl cb);have HPd:=qe (show Blk wd wc.heap.size 41 (qq b.grp no (lf:Int) P Ab sl cb) by rw[hwd];exact(HPb.1.set_ 35 _).cast (qfd HGl.1 _ _ _ _ _ _ _ _ _))
     rw[←hwd]at hgs;have HOd:=qe (show Own b8 wd w.heap.size 5 (.slice Ab sl cb) (zO O.key O.nonce (vF b.grp no (lf:Int) P) text)from(HOb.1.kept hgs (.inr (HPb.1.not_row (by decide) HOb.1).symm)).less (by have:=HX6.1.frm.size;omega));have HXd:=qe ((HX8.1.below HBb.1).turn HPb.1 hgs HX6.1.frm.size (by decide) (by decide) (by decide) (by decide) (by decide));have HZd:=qe (show Blk wd w.heap.size 41 pkZ from by
      have hef:w.heap.size∉b.efoot:=fun hm=>by have:=(HH.1.foot_lt _ (BX.efoot_sub gB b _ hm)).2;omega
      have z2:=HZ1.1.below HB2.1 (by omega);have zc:Blk wc w.heap.size 41 pkZ:=(HX6.1.frm.block _ (by omega) hef).trans z2;have hwc:w.heap.size<wc.heap.size:=by have:=HX6.1.frm.size;omega
      exact((zc.below HB8.1 hwc).below HBb.1 (by omega)).grown hgs (fun e=>by injection e with e;omega))
     rw[←hwd];clear hwd hgs c35 f35 hu hu2 hu3 hi2 hi3;go_wp2_with (first
      |(refine wpList_load_mid rfl 41 (.tmp 9) rfl wc.heap.size 0 rfl (qq b.grp no (lf:Int) P Ab sl cb) _ HPd.1.whole underlying41 rfl (by rw[j1 HGl.1];exact jC) ?_)
      |(refine qi rfl 41 (.tmp 4) (.tmp 66) rfl w.heap.size 0 rfl (qq b.grp no (lf:Int) P Ab sl cb) rfl 41 _ [] pkZ [] HZd.1 (by simp) rfl (by rw[j1 HGl.1];rfl) (by rw[j1 HGl.1];exact jC) (yg _ _ _ _ _ _ _) ?_;intro w9 hx9 hg9))
     have HX9:=qe (show Blk w9 w.heap.size 41 (qq b.grp no (lf:Int) P Ab sl cb)from hx9.cast (by simp));refine bodyPost_ret (v:= .tuple #[.agg (qq b.grp no (lf:Int) P Ab sl cb).toArray,.nilIface]) (qu (g:=w.heap.size) rfl _ _ _ _ _ _ rfl rfl HX9.1 underlying41 rfl (by rw[j1 HGl.1];exact jC)) rfl ?_;have hbx:=HXd.1.box.of_same (w':=w9) (fun k hk=>hg9.block k (HXd.1.box.foot_lt k hk).2 (fun e=>by
      injection e with e;exact HXd.1.box.typed_out HZd.1 (by decide) (by decide) (by decide) (by decide) (by decide) (by rw[←e];exact hk)))
     have hf1:=HXd.1.frm;have hb12:=HK1.1.trans (HB2.1.mono (by omega));refine⟨Ab,sl,cb,rfl,HOd.1.kept hg9 (.inr (HZd.1.not_row (by decide) HOd.1).symm),b',HXd.1.m,hbx,⟨hg9.os.trans (hf1.os.trans hb12.os),hg9.tape.trans (hf1.tape.trans hb12.tape),hg9.output.trans (hf1.output.trans hb12.output),QX hb12.size (QX hf1.size hg9.size),fun k hk hn=>?_⟩,fun k hk=>?_,fun k hk hm=>?_⟩
     ·have h5:=hb12.block k hk
      have h6:=hf1.block k (Jq hk hb12.size) (fun hm=>hn (BX.efoot_sub gB b k hm));have h7:=hg9.block k (by have:=hb12.size;have:=hf1.size;omega) (fun e=>by injection e with e;omega);rw[h7,h6,h5]
     ·rcases HXd.1.foot k hk with h5|h5
      ·exact .inl h5
      ·exact .inr (by omega)
     ·have h5:=(HX6.1.box.foot_lt k hm).2
      have h6:=(HOb.1.lt k hk).1;omega
   ·have hP:kx b.m text=qhJ:=by unfold kx;rw[hll];dsimp only;rw[hm,hE];exact if_neg hT
    have hM:yO b.m m=b.m:=by unfold yO;rw[hll];dsimp only;rw[hE];exact if_neg hT
    rw[hE,hP,hM];have HNe:=qe (jO hT);obtain⟨E,hEE⟩:∃E,E=qQ l l.place:=⟨_,rfl⟩;rw[←hEE]at HNe ⊢;have HNx:=qe (show∀W,qI W base gB b→Calls prog 34 #[.pointer (some ⟨gC,0,none⟩),.int .i64 (lf:Int)] W fun e w'=>e= .returned (.tuple #[.agg qg.toArray,.iface 69 (.int .i64 (E:Int))])∧Below W.heap.size W w' from fun W hW=>by
     have h5:=qmy W _ _ _ (hW.ch _ (Q5 hi)) b.es[n].leaf hb.1 (by omega) (by rw[←hl];exact hT);rw[←hl,←hEE,HNe.1,←hgC,←hlf]at h5;exact h5)
    have HAt:=qe (show∀W,qI W base gB b→W.cell? ⟨g,n*3,none⟩=some (.pointer (some ⟨gC,0,none⟩))∧W.cell? ⟨g,n*3+2,none⟩=some (.int .i64 (lf:Int))from fun W hW=>by
     obtain⟨a0,-,a2⟩:=hW.at_row hv hi;rw[hgC,hlf];exact⟨a0,a2⟩)
    clear h h0 hn hv hbg hgl hcc hi hb hl hll hlok hE hP hM hr hm hbig hT hlf hgC hEE hgnf;go_enter func12,ntmps12
    go_upto_region 1 with fail
    have hw1:=HW1.1;rw[qdv]at hw1;rw[←hw1];clear hw1;go_wp2_with fail
    refine HL.1.mono ?_;rintro e w2 ⟨rfl,q,hq⟩;have HB2:=qe (qN hq);have hz2:=HB2.1.size;have HX2:=qe (HB1.1.below HB2.1);clear hq;go_upto_region 6 with fail
    have hS6:=HAt.1 _ HX2.1;go_cut [7,8]from 23 to 34 (fun p e wx=>e= .iface 69 (.int .i64 (E:Int))∧Below w2.heap.size w2 wx)
    case first=>
     refine wp_region_noPanic ?_;refine wp_region_held_drew (S:=fun w'=>w'.cell? ⟨g,n*3,none⟩=some (.pointer (some ⟨gC,0,none⟩))∧w'.cell? ⟨g,n*3+2,none⟩=some (.int .i64 (lf:Int))) (by kernel_rfl) hS6 (fun hS=>?_);refine tkA 0 (.pointer (some ⟨g,n*3,none⟩)) hS ?_;refine tkA 1 (.pointer (some ⟨g,n*3,none⟩)) hS ?_;refine tkA 2 (.pointer (some ⟨g,n*3,none⟩)) hS ?_;try simp only[QJ,qj,qz,qv]
     refine tkA 3 (.pointer (some ⟨gC,0,none⟩)) hS ?_;refine tkA 4 (.pointer (some ⟨g,n*3,none⟩)) hS ?_;refine tkA 5 (.pointer (some ⟨g,n*3,none⟩)) hS ?_;try simp only[QJ,qj,qz,qv]
     refine tkA 6 (.pointer (some ⟨g,n*3+2,none⟩)) hS ?_;refine tkA 7 (.int .i64 (lf:Int)) hS ?_;try simp only[QJ,qj,qz,qv]
     refine wpAnyH_ready (rs:=[8,12]) (by kernel_rfl) (by simp) (Jm (o:={dst:=some 32,op:=_,type:=_,pos:=_,after:=_,guard:=_}) rfl (fun K' hK=>?_) (Jm (o:={dst:=some 7,op:=_,type:=_,pos:=_,after:=_,guard:=_}) rfl (fun K' hK=>?_) J1))
     ·go_simp
      go_at_call 34;refine(HNx.1 _ HX2.1.drew).mono ?_;rintro e w4 ⟨rfl,hb4⟩;have HB4:=qe (show Below w2.heap.size w2 w4 from(QK w2.heap.size w2).drew.trans hb4);have HX4:=qe (HX2.1.below HB4.1);clear hb4;refine hK.out _ _ (HAt.1 _ HX4.1) (fun hS=>?_);clear hK K';refine tkA 9 (.tuple #[.agg qg.toArray,.iface 69 (.int .i64 (E:Int))]) hS ?_;refine tkA 10 (.agg qg.toArray) hS ?_
      try simp only[QJ,qj,qz,qv]
      refine tkA 11 (.iface 69 (.int .i64 (E:Int))) hS ?_;try simp only[QJ,qj,qz,qv]
      refine rdH 12 (fun K' hK=>?_);go_simp;refine hK.out _ _ (HAt.1 _ (HX4.1.alloc _)) (fun hS=>?_);clear hK K';try simp only[QJ,qj,qz,qv]
      have HB5:=qe (HB4.1.alloc HB4.1.size (.cells qg.toArray 94));refine rdH 13 (fun K' hK=>?_);rw[if_pos (by rfl)];refine qo 94 (.tmp 7) (.tmp 33) rfl (w4.heap.size) 0 rfl qg rfl 94 _ [] qg [] (Blk.new w4 94 qg) (by simp) rfl rfl qA (qF _ _ _ _ _) ?_;intro w5 hx5 hg5;have hb6:=HB5.1.grown hg5 HB5.1.size (fun k e=>by cases e;exact HB4.1.size);clear hx5 hg5
      refine hK.out _ _ (HAt.1 _ (HX2.1.below hb6)) (fun hS=>?_);clear hK K';refine tkA 14 (.iface 69 (.int .i64 (E:Int))) hS ?_;try simp only[QJ,qj,qz,qv]
      refine wpAnyH_done (by kernel_rfl) ?_ _;refine Q4 ?_;go_wp2_with fail
      go_meet
      case rel=>exact⟨rfl,hb6⟩
     ·go_simp
      refine hK.out _ _ (HAt.1 _ (HX2.1.alloc _).drew) (fun hS=>?_);clear hK K';try simp only[QJ,qj,qz,qv]
      refine rdH 8 (fun K' hK=>?_);go_simp;go_at_call 34;refine(HNx.1 _ (HX2.1.alloc (.cells qg.toArray 94)).drew).mono ?_;rintro e w4 ⟨rfl,hb4⟩;have hsz:(w2.alloc (.cells qg.toArray 94)).heap.size=w2.heap.size+1:=QQ _ _;have HB4:=qe (show Below w2.heap.size w2 w4 from((QK w2.heap.size w2).alloc (QI _) (.cells qg.toArray 94)).drew.trans (hb4.mono (by show w2.heap.size≤(w2.alloc (.cells qg.toArray 94)).heap.size;omega)))
      have HZ4:=qe (show Blk w4 w2.heap.size 94 qg from(Blk.new w2 94 qg).drew.below hb4 (by show w2.heap.size<(w2.alloc (.cells qg.toArray 94)).heap.size;omega));clear hb4 hsz;refine hK.out _ _ (HAt.1 _ (HX2.1.below HB4.1)) (fun hS=>?_);clear hK K';refine tkA 9 (.tuple #[.agg qg.toArray,.iface 69 (.int .i64 (E:Int))]) hS ?_;refine tkA 10 (.agg qg.toArray) hS ?_;try simp only[QJ,qj,qz,qv]
      refine tkA 11 (.iface 69 (.int .i64 (E:Int))) hS ?_;try simp only[QJ,qj,qz,qv]
      refine rdH 13 (fun K' hK=>?_);rw[if_pos (by rfl)];refine qo 94 (.tmp 7) (.tmp 33) rfl (w2.heap.size) 0 rfl qg rfl 94 _ [] qg [] HZ4.1 (by simp) rfl rfl qA (qF _ _ _ _ _) ?_;intro w5 hx5 hg5;have hb6:=HB4.1.grown hg5 HB4.1.size (fun k e=>by cases e;exact QI _);clear hx5 hg5;refine hK.out _ _ (HAt.1 _ (HX2.1.below hb6)) (fun hS=>?_);clear hK K';refine tkA 14 (.iface 69 (.int .i64 (E:Int))) hS ?_
      try simp only[QJ,qj,qz,qv]
      refine wpAnyH_done (by kernel_rfl) ?_ _;refine Q4 ?_;go_wp2_with fail
      go_meet
      case rel=>exact⟨rfl,hb6⟩
    case rest=>
     obtain⟨rfl,hb6⟩:=hcut;have HB6:=qe hb6;clear hb6;have hz6:w.heap.size<wc.heap.size:=by have:=HB6.1.size;omega
     go_wp2_with (first
      |(refine jh rfl 41 [] rfl pkZ.toArray [] rfl qcK ?_)
      |(refine qi rfl 41 (.tmp 4) (.tmp 37) rfl w.heap.size 0 rfl pkZ rfl 41 _ [] pkZ [] ((HZ1.1.below HB2.1 (by omega)).below HB6.1 (by omega)) (by simp) rfl rfl jC (yg _ _ _ _ _ _ _) ?_;intro w9 hx9 hg9))
     have HX9:=qe (show Blk w9 w.heap.size 41 pkZ from hx9.cast (by simp));refine bodyPost_ret (v:= .tuple #[.agg pkZ.toArray,zG E]) (qu (g:=w.heap.size) rfl _ _ _ _ _ _ rfl (by exact HNe.1.symm) HX9.1 underlying41 rfl jC) rfl ?_;have hbz:=((HK1.1.trans (HB2.1.mono (by omega))).trans (HB6.1.mono (by omega)));have hbx:=hbz.grown hg9 hbz.size (fun k e=>by cases e;exact QI _)
     exact⟨none,0,0,rfl,Own.nil_ _ _ _ _,b,rfl,HH.1.below hbx,(Frm.refl w _).below hbx (QI _),fun k hk=> .inl hk,fun k hk=>(by cases hk)⟩
end
section
open Go.RowKit
theorem qmZ(n k:Nat)(hk:k<8):(bv (le (BitVec.ofNat 64 n) k):Int)=((n/256^k % 256:Nat):Int):=by
 unfold bv;rw[qcf,BitVec.toNat_ofNat]
 congr 1
 have e:(2:Nat)^64=256^k*(256*256^(7-k)):=by
  rw[←Nat.mul_assoc,←JB,←Nat.pow_add,show k+1+(7-k)=8 by omega]
 rw[e,Nat.mod_mul_right_div_self,Nat.mod_mul_right_mod]
theorem qfe(n:Nat)(hn:n≤100000000)(w:World):
 Calls prog 103 #[.int .i64 (n:Int)] w fun e w'=>∃v,e= .returned v∧Own b8 w' w.heap.size 5 v (le8 (BitVec.ofNat 64 n))∧Below w.heap.size w w':=by
 obtain⟨i0,hi0,hz0,hz1,hz2⟩:=info_parts jN;obtain⟨N,hN⟩:∃N,N=BitVec.ofNat 64 n:=⟨_,rfl⟩;have HL:=qe (show∀k,k<8→(bv (le N k):Int)=((n/256^k % 256:Nat):Int)from fun k hk=>by rw[hN];exact qmZ n k hk);rw[←hN];clear hN;go_enter func103,ntmps103
 go_wp2_with fail
 go_loopw [0,3,4] (fun u v i wr=>∃k m:Nat,k≤8∧m≤n∧i= .int .i64 (k:Int)∧u= .int .i64 (m:Int)∧m=n/256^k∧Own b8 wr w.heap.size 5 v ((Q6 k).map (le N))∧Below w.heap.size w wr) (fun _ _ i _=>8-(intOf i).toNat)
 case atStart=>exact⟨0,n,by omega,by omega,rfl,rfl,by simp,Own.nil_ _ _ _ _,QK _ _⟩
 case round=>
  obtain⟨k,m,hk,hmn,rfl,rfl,hm,hown,hb⟩:=hrel;by_cases hlt:k<8
  ·have hlk:=HL.1 k hlt
   rw[←hm]at hlk;have Hm:=qe hm;have HO:=qe hown;have HB:=qe hb;have hz:=hb.size;have hlt':(k:Int)<8:=by omega
   have hmi:((m:Int) % 256)=bv (le N k):=by rw[hlk];omega
   clear hm hlk hown hb;go_wp2_with (at_builtin;refine qh rfl _ _ 28 rfl qH w.heap.size 5 i0 _ 1 underlying28 hi0 hz0 hz1 hz2 rfl _ _ rfl (HO.1.alloc _) (wr.heap.size+1) _ 1 1 [le N k] rfl rfl (Rd.new b8 _ _ [le N k]) (by simp[maxLen];omega) (by simp;omega) (by(first|omega|(simp;done)|(simp;omega)|(simp at*;omega))) ?_;intro v7 w7 hown7 hg7 hbb7)
   refine⟨⟨k+1,m/256,by omega,by omega,by simp,by simp,?_,?_,hbb7 _ _ (QI _) (HB.1.alloc (by omega) _)⟩,by simp[intOf];omega⟩
   ·rw[Hm.1,Nat.div_div_eq_div_mul,←JB]
   ·rw[JU,Q9];exact hown7
  ·obtain rfl:k=8:=by omega
   go_wp2_with fail
   go_ret;exact⟨_,rfl,hown,hb⟩
theorem qlk{B C:Nat}{A D:Option Addr}{xs ys:qf}{n m:Nat}(c d:Nat)(w:World)(h1:Rd b8 w B A xs)(h2:Rd b8 w C D ys)(hn:xs.length=n)(hm:ys.length=m)(hbn:n≤4000000):
 Calls prog 70 #[.slice A n c,.slice D m d] w fun e w'=>e= .returned (.bool (xs==ys))∧∃q,w'=w.drewN q:=by
 have HN:=qe hn;have HM:=qe hm;have H1:=qe h1;have H2:=qe h2;clear hn hm h1 h2;by_cases hnm:n=m
 ·subst hnm
  go_enter func70,ntmps70
  go_wp2_with fail
  go_loopw [13] (fun i wr=>∃k q:Nat,k≤n∧i= .int .i64 (k:Int)∧xs.take k=ys.take k∧wr=w.drewN q) (fun i _=>n-(intOf i).toNat)
  case atStart=>exact⟨0,0,by omega,rfl,by simp,rfl⟩
  case round=>
   obtain⟨k,q,hk,rfl,htk,rfl⟩:=hrel;by_cases hlt:k<n
   ·obtain⟨b1,o1,rfl,-,hc1⟩:=(H1.1.drewN q).at_ (k:=k) (by rw[HN.1];exact hlt)
    obtain⟨b2,o2,rfl,-,hc2⟩:=(H2.1.drewN q).at_ (k:=k) (by rw[HM.1];exact hlt);obtain⟨x,hx⟩:∃x,xs[k]'(by rw[HN.1];exact hlt)=x:=⟨_,rfl⟩;obtain⟨y,hy⟩:∃y,ys[k]'(by rw[HM.1];exact hlt)=y:=⟨_,rfl⟩;rw[hx]at hc1;rw[hy]at hc2;simp only[b8]at hc1 hc2;have HT:=qe htk;have HX:=qe hx;have HY:=qe hy;clear htk hx hy;generalize hwq:w.drewN q=wq at hc1 hc2 ⊢;have HW:=qe hwq;clear hwq;by_cases hxy:x=y
    ·have hbn:(bv x !=bv y)=false:=by simp[hxy]
     have hyk:k<ys.length:=by rw[HM.1];exact hlt
     have hxk:k<xs.length:=by rw[HN.1];exact hlt
     have HT2:=qe (show xs.take (k+1)=ys.take (k+1) by
      rw[Zd hxk,Zd hyk,HT.1,HX.1,HY.1,hxy])
     clear hxk hyk;go_wp2_with fail
     go_quiet (fail)
     go_wp2_with fail
     exact⟨⟨k+1,q+nq,by omega,by simp,HT2.1,by rw[←HW.1,World.drewN_drewN]⟩,by simp[intOf];omega⟩
    ·have hne:(xs==ys)=false:=by
      rw[beq_eq_false_iff_ne];intro e;subst e;exact hxy (HX.1.symm.trans HY.1)
     have hbn:(bv x !=bv y)=true:=by rw[qlA];simp[hxy]
     have HNe:=qe hne;clear hne;go_wp2_with fail
     go_quiet (fail)
     go_wp2_with fail
     go_ret;exact⟨by rw[HNe.1];rfl,_,by rw[←HW.1,World.drewN_drewN]⟩
   ·obtain rfl:k=n:=by omega
    go_wp2_with fail
    go_ret;have hxy:xs=ys:=by
     have h:=htk;rwa[Js (by rw[HN.1];exact QI _),Js (by rw[HM.1];exact QI _)]at h
    exact⟨by simp[hxy],_,rfl⟩
 ·have hne:(xs==ys)=false:=by
   rw[beq_eq_false_iff_ne];intro e;rw[e,HM.1]at HN;exact hnm HN.1.symm
  have hni:¬((n:Int)=(m:Int)):=by omega
  rw[hne];go_enter func70,ntmps70
  go_wp2_with fail
  go_ret;exact⟨rfl,0,rfl⟩
theorem qm0(w:World)(key:qf)(hk:key.length=32)(A C T:Option Addr)(n c l cc m d Bn Bc Bm:Nat)(nonce ctx text:qf)
 (hrn:Rd b8 w Bn A nonce)(hBn:Bn≤w.heap.size)(hn:nonce.length=n)(hnc:n≤c)
 (hrc:Rd b8 w Bc C ctx)(hBc:Bc≤w.heap.size)(hl:ctx.length=l)
 (hrm:Rd b8 w Bm T text)(hBm:Bm≤w.heap.size)(hm:text.length=m)(hmd:m≤d)(hmx:m≤maxLen):
 Calls prog 41 #[jL b8 key,.slice A n c,.slice C l cc,.slice T m d] w fun e w'=>∃v,e= .returned (.tuple #[v,zG (jV key nonce ctx text)])∧Own b8 w' w.heap.size 5 v (j3 key nonce ctx text)∧Below w.heap.size w w':=by
 have HK:=qe hk;have HN:=qe hn;have HL:=qe hl;have HM:=qe hm;have HRn:=qe (hrn.more hBn);have HRc:=qe (hrc.more hBc);have HRm:=qe (hrm.more hBm);have hob:jV key nonce ctx text=if n≠12∨1048592<l∨1048592<m then 1 else if m<16 then 2 else if uc key nonce ctx (text.take (m-16))=text.drop (m-16)then 0 else 2:=by unfold jV;rw[hn,hl,hm]
 have HOv:=qe (show j3 key nonce ctx text=if jV key nonce ctx text=0 then zY key nonce 1 (text.take (m-16))else[] by unfold j3;rw[hm]);clear hk hn hl hm hrn hrc hrm hBn hBc hBm;rw[qn];have HK1:=qe (Arr.new b8 w 92 key);have HB1:=qe (show Below w.heap.size w (w.alloc (.cells (key.map b8).toArray 92))from(QK _ w).alloc (QI _) _);simp only[maxLen]at hmx;by_cases h1:n=12
 ·subst h1
  by_cases h2:l≤1048592
  ·by_cases h3:m≤1048592
   ·have h2i:¬((l:Int)>1048592):=by omega
    have h3i:¬((m:Int)>1048592):=by omega
    rw[if_neg (by omega)]at hob;by_cases h4:m<16
    ·rw[if_pos h4]at hob
     have hov:j3 key nonce ctx text=[]:=by rw[HOv.1,hob];exact if_neg (by decide)
     rw[hob,hov];have h4i:(m:Int)-16<0:=by omega
     clear hob hov;go_enter func41,ntmps41
     go_wp2_with fail
     go_ret2;exact⟨_,rfl,Own.nil_ _ _ _ _,HB1.1⟩
    ·rw[if_neg h4]at hob
     obtain⟨k,hkm⟩:∃k,m=k+16:=⟨m-16,by omega⟩;have hmk0:m-16=k:=by omega
     rw[hmk0]at hob HOv;obtain⟨b,off,rfl,hbl,-⟩:=HRm.1.at_ (k:=0) (by rw[HM.1,hkm];omega);obtain⟨t1,ht1⟩:∃t1,text.take k=t1:=⟨_,rfl⟩;obtain⟨t2,ht2⟩:∃t2,text.drop k=t2:=⟨_,rfl⟩;rw[ht1,ht2]at hob;rw[ht1]at HOv;have H1l:=qe (show t1.length=k by rw[←ht1,List.length_take,HM.1,hkm];omega);have H2l:=qe (show t2.length=16 by rw[←ht2,List.length_drop,HM.1,hkm];omega);have H1r:=qe (show Rd b8 w w.heap.size (some ⟨b,off,none⟩) t1 by rw[←ht1];exact HRm.1.take k)
     have H2r:=qe (show Rd b8 w w.heap.size (some ⟨b,off+k,none⟩) t2 by
      have h:=HRm.1.drop k;rw[ht2,Option.map_some]at h;have eA:(Addr.mk b off none).add k=⟨b,off+k,none⟩:=by by_cases h0:k=0<;>simp[Addr.add,h0]
      rwa[eA]at h)
     clear ht1 ht2;have HOb:=qe hob;have hsi:(m:Int)-16=(k:Int):=by omega
     have hmk:m-k=16:=by omega
     have hkm':k≤m:=by omega
     have hkb:k≤1048576:=by omega
     clear hmk0 hkm;have hkd:¬(d=k):=by omega
     have hkd':k≤d:=by omega
     clear hob h4;go_enter func41,ntmps41
     go_wp2_with fail
     have hz1:w.heap.size<(w.alloc (.cells (key.map b8).toArray 92)).heap.size:=by simp
     change Code.wp _ _ _ _ (w.alloc (.cells (key.map b8).toArray 92));generalize w.alloc (.cells (key.map b8).toArray 92)=w1 at HK1 HB1 hz1 ⊢;obtain⟨G,hG⟩:∃G,uc key nonce ctx t1=G:=⟨_,rfl⟩;have HGl:=qe (show G.length=16 by rw[←hG];exact jT _ _ _ _);obtain⟨Z,hZ⟩:∃Z,Z=key.map b8:=⟨_,rfl⟩;have hZl:Z.length=32:=by rw[hZ,QN,HK.1]
     have HR1:=qe (show∀W',Below w1.heap.size w1 W'→W'.rangeAt w.heap.size 0 Z from fun W' hb=>by
      rw[hZ];exact(HK1.1.below hb hz1).whole)
     have hk1:=HR1.1 _ (QK _ w1).drew;have hu:=underlying92;have hi32:(prog.info? 92).map (·.size)=some Z.length:=by rw[hZl];exact kJ
     have HMk:=qe (show∀W,Below w1.heap.size w1 W→Calls prog 60 #[.agg Z.toArray,.slice A 12 c,.slice C l cc,.slice (some ⟨b,off,none⟩) k d] W fun e w'=>∃g,e= .returned (.tuple #[.slice (some ⟨g,0,none⟩) 16 16,.nilIface])∧W.heap.size≤g∧Arr b8 w' g 147 G∧Below W.heap.size W w' from fun W hb=>by
      have hbw:=HB1.1.trans (hb.mono HB1.1.size);have h:=qfc W key HK.1 A C (some ⟨b,off,none⟩) 12 c l cc k d w.heap.size w.heap.size w.heap.size nonce ctx t1 (HRn.1.below hbw) hbw.size HN.1 rfl hnc (HRc.1.below hbw) hbw.size HL.1 (by omega) (H1r.1.below hbw) hbw.size H1l.1 (by omega);rw[qn,←hZ,hG]at h;exact h)
     have hml:=ka key nonce t1 HN.1 (by rw[H1l.1];omega);rw[H1l.1]at hml;have HMx:=qe (show∀W,Below w1.heap.size w1 W→Calls prog 59 #[.agg Z.toArray,.slice A 12 c,.int .i64 1,.slice (some ⟨b,off,none⟩) k d] W fun e w'=>∃v,e= .returned (.tuple #[v,.nilIface])∧Own b8 w' W.heap.size 5 v (zY key nonce 1 t1)∧Below W.heap.size W w' from fun W hb=>by
      have hbw:=HB1.1.trans (hb.mono HB1.1.size);have h:=qj3 key A 12 c w.heap.size nonce 1 (some ⟨b,off,none⟩) k d w.heap.size t1 W HK.1 (HRn.1.below hbw) hbw.size HN.1 hnc (H1r.1.below hbw) hbw.size H1l.1 (by omega) (by omega) (by omega);rw[hml.1,qW,qn,←hZ]at h;exact h)
     have HGe:=qe hG;have HXl:=qe hml.2;clear hG hZ hZl hml;go_region_held3 (fun w'=>w'.rangeAt w.heap.size 0 Z)
      (first
       |exact HR1.1 _ HX2.1
       |go_keep)
      ((go_simp;go_at_call 60;refine(HMk.1 _ (by(repeat(first|exact QK _ _|refine qB ?_|refine qD ?_)))).mono ?_;rintro e w2 ⟨g2,rfl,hg2,ha2,hb2⟩;have HX2:=qe (show Below w1.heap.size w1 w2 from qV (by(repeat(first|exact QK _ _|refine qB ?_|refine qD ?_))) hb2);have HA2:=qe ha2;clear ha2 hb2))
     have hs2:=HX2.1.size;have HB2:=qe (HB1.1.trans (HX2.1.mono HB1.1.size));go_wp2_with fail
     refine(qlk (xs:=G) 16 (d-k) w2 (HA2.1.rd 0) (H2r.1.below HB2.1) HGl.1 H2l.1 (by omega)).mono ?_;rintro e w3 ⟨rfl,q,rfl⟩;have HX3:=qe (je HX2.1 q);have HB3:=qe (je HB2.1 q);clear HX2 HB2 HA2;generalize w2.drewN q=w3 at HX3 HB3 ⊢;by_cases heq:G=t2
     ·have hbe:(G==t2)=true:=by simp[heq]
      rw[hbe];have hob:=HOb.1;rw[HGe.1,if_pos heq]at hob;have HOb2:=qe hob;clear hob hbe heq;go_wp2_with fail
      have hk3:=HR1.1 _ HX3.1.drew;go_region_held3 (fun w'=>w'.rangeAt w.heap.size 0 Z)
       (first
        |exact HR1.1 _ (HX3.1.trans (HX4.1.mono HX3.1.size))
        |go_keep)
       ((go_simp;go_at_call 59;refine(HMx.1 _ HX3.1.drew).mono ?_;rintro e w4 ⟨v4,rfl,ho4,hb4⟩;have HX4:=qe (show Below w3.heap.size w3 w4 from qV (by(repeat(first|exact QK _ _|refine qB ?_|refine qD ?_))) hb4);have HO4:=qe ho4;clear ho4 hb4))
      go_wp2_with fail
      go_ret2;rw[HOb2.1,show j3 key nonce ctx text=zY key nonce 1 t1 by rw[HOv.1,HOb2.1];exact if_pos rfl];exact⟨_,rfl,HO4.1.less HB3.1.size,HB3.1.trans (HX4.1.mono HB3.1.size)⟩
     ·have hbe:(G==t2)=false:=by simp[heq]
      rw[hbe];have hob:=HOb.1;rw[HGe.1,if_neg heq]at hob;have HOb2:=qe hob;clear hob hbe heq;go_wp2_with fail
      go_ret2;rw[HOb2.1,show j3 key nonce ctx text=[] by rw[HOv.1,HOb2.1];exact if_neg (by decide)];exact⟨_,rfl,Own.nil_ _ _ _ _,HB3.1⟩
   ·have h2i:¬((l:Int)>1048592):=by omega
    have h3i:(m:Int)>1048592:=by omega
    rw[if_pos (by omega)]at hob;have hov:j3 key nonce ctx text=[]:=by rw[HOv.1,hob];exact if_neg (by decide)
    rw[hob,hov];clear hob hov;go_enter func41,ntmps41
    go_wp2_with fail
    go_ret2;exact⟨_,rfl,Own.nil_ _ _ _ _,HB1.1⟩
  ·have h2i:(l:Int)>1048592:=by omega
   rw[if_pos (by omega)]at hob;have hov:j3 key nonce ctx text=[]:=by rw[HOv.1,hob];exact if_neg (by decide)
   rw[hob,hov];clear hob hov;go_enter func41,ntmps41
   go_wp2_with fail
   go_ret2;exact⟨_,rfl,Own.nil_ _ _ _ _,HB1.1⟩
 ·have h1i:¬((n:Int)=12):=by omega
  rw[if_pos (by omega)]at hob;have hov:j3 key nonce ctx text=[]:=by rw[HOv.1,hob];exact if_neg (by decide)
  rw[hob,hov];clear hob hov;go_enter func41,ntmps41
  go_wp2_with fail
  go_ret2;exact⟨_,rfl,Own.nil_ _ _ _ _,HB1.1⟩
end
end Go.Proofs.YtelgjaiknaalkaaGreatDoor
