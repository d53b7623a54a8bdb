/- Lemmas. -/
import Derived.Test.YtelgjaiknaalkaaGreatDoorPu13
open Go.Proofs.Tryz
open List renaming setIfInBounds_toArray → qj
open List renaming set_cons_zero → qz
open List renaming set_cons_succ → qv
open Go.Value renaming int → QM
open List renaming getElem?_eq_some_iff → JS, length_take → QV, mem_of_mem_take → J5, mem_singleton → Je, length_map → QN, map_append → Q9, range → Q6, mem_append → QS, flatMap_append → JG, flatMap_singleton → ZC, mem_flatMap → Jk, mem_append_right → Zf, length_append → QO, replicate → QL, range_succ → JU, getElem?_eq_getElem → QT, mem_cons → Ja, not_mem_nil → JM, getElem?_map → Jn, flatMap_cons → JW, append_assoc → Jb, mem_of_getElem? → Zq, nil_append → Ji, getElem?_append_right → JA, length_set → Jy, mem_or_eq_of_mem_set → Zt, map_cons → Jd, map_nil → Jt, take_of_length_le → Js
open Go.World renaming size_alloc → QQ
open Go.RowKit.Below renaming refl → QK
open Nat renaming le_refl → QI, mul_comm → Jw, add_sub_cancel → Zn, zero_add → JD
open Go.Act renaming put → QJ
open Go.IntWalk renaming i64_in → Jc
set_option linter.unusedVariables false
set_option linter.unusedSimpArgs false
set_option maxRecDepth 100000
set_option maxHeartbeats 8000000
namespace Go.Proofs.YtelgjaiknaalkaaGreatDoor
section
open Go.RowKit
set_option maxRecDepth 100000
theorem jX:jd.toArray= #[QM .u8 0,QM .u8 0,QM .u8 0,QM .u8 0,QM .u8 0,QM .u8 0,QM .u8 0,QM .u8 0,QM .u8 0,QM .u8 0,QM .u8 0,QM .u8 0,QM .u8 0,QM .u8 0,QM .u8 0,QM .u8 0,QM .u8 0,QM .u8 0,QM .u8 0,QM .u8 0,QM .u8 0,QM .u8 0,QM .u8 0,QM .u8 0,QM .u8 0,QM .u8 0,QM .u8 0,QM .u8 0,QM .u8 0,QM .u8 0,QM .u8 0,QM .u8 0,Value.slice none 0 0,Value.bool false]:=rfl
def ja{α:Type}(m:Nat)(es:List α)(k:Nat):List α:=if m<4 then es.take k else(es.take k).drop 1
theorem kG{α:Type}(m:Nat)(es:List α):ja m es 0=[]:=by unfold ja;split<;>simp
theorem qeq{α:Type}{m:Nat}(es:List α)(h:¬m<4):ja m es 1=[]:=by
 unfold ja;rw[if_neg h];cases es<;>rfl
theorem qaO{α:Type}{m:Nat}{es:List α}{k:Nat}{e:α}(he:es[k]?=some e)(h:m<4∨0<k):ja m es (k+1)=ja m es k++ [e]:=by
 have hk:=(JS.1 he).1;have ht:es.take (k+1)=es.take k++ [e]:=by rw[List.take_add_one,he];rfl
 unfold ja;split
 ·exact ht
 ·rw[ht,List.drop_append_of_le_length (by rw[QV];omega)]
theorem qfk{α:Type}(m:Nat)(es:List α)(k:Nat):(ja m es k).length≤es.length:=by
 unfold ja;split<;>simp<;>omega
theorem qfl{α:Type}{m:Nat}{es:List α}{k:Nat}{e:α}(h:e∈ja m es k):e∈es:=by
 unfold ja at h;split at h
 ·exact J5 h
 ·exact J5 (List.mem_of_mem_drop h)
theorem qlp{α:Type}(es:List α)(e:α):ja es.length es es.length++ [e]=yr es e:=by
 unfold ja yr;rw[List.take_length];split
 ·rw[if_neg (by omega)]
 ·rw[if_pos (by omega)]
  cases es with
  |nil=>simp at*
  |cons a r=>rfl
theorem qhU{w:World}{B E K n n' c:Nat}{A:Option Addr}{us:List Value}(h:w.ownsRow B E K (.slice A n' c) n us):∀k∈j7 A,B≤k∧k<w.heap.size:=by
 intro k hk;cases A with
 |none=>simp[j7]at hk
 |some a=>
  simp only[j7,Je]at hk;subst hk;rcases h.2 with⟨e,-⟩|⟨g,cap,cur,e,hb,hg,-⟩
  ·cases e
  ·injection e with e1 e2 e3
   injection e1 with e1;subst e1;refine⟨hb,?_⟩;rcases Nat.lt_or_ge g w.heap.size with h1|h1
   ·exact h1
   ·rw[Array.getElem?_eq_none h1]at hg;cases hg
theorem ownsRow_nil(w:World)(B E K:Nat):w.ownsRow B E K (.slice none 0 0) 0 []:=⟨by simp,.inl ⟨rfl,rfl⟩⟩
theorem qlq{α β:Type}(f:α→β)(es:List α)(e:α):(yr es e).map f=yr (es.map f) (f e):=by
 unfold yr;rw[QN];split
 ·rw[List.map_tail,Q9,List.map_singleton]
 ·rw[Q9,List.map_singleton]
theorem qfm{w wq w8 w9:World}{x:RX}{m L N lf c c7 G:Nat}{A A7:Option Addr}{no:Int}{grp s:qf}{ec C8:List Value}(hx:x.At w)(hm:m=x.es.length)(hL:L=(ja m x.es m).length)(hgl:grp.length=32)(hsl:s.length=32)
 (hec:ec=[QM .i64 no,.int .i64 (lf:Int),.slice A N c])(hC8:C8=zw grp (.slice A7 (L+1) c7) false)(hN:N≤32)(hE:vy x.m grp no (N:Int) (lf:Int)=0)
 (hO:wq.ownsRow (w.heap.size+5) 89 36 (.slice A N c) N (((Q6 N).map (fun i=>zM (vr N i s))).flatMap RL.cells))(hq:w.heap.size+5≤wq.heap.size)(hG:G≤wq.heap.size)(hB8:Below G wq w8)
 (hO8:w8.ownsRow (G+1) 85 3 (.slice A7 (L+1) c7) (L+1) ((ja m x.es m).flatMap RE.cells++ec))(hsame:∀k,w.heap.size+4≤k→k<w8.heap.size→w9.heap[k]?=w8.heap[k]?)(hs:w8.heap.size≤w9.heap.size)
 (hx9:x.At w9)(hB:Below w.heap.size w w9)(hlt:∀k∈x.foot,k<w.heap.size)(hGe:G=wq.heap.size):
 ∃y:RX,Ending.returned (Value.tuple #[.agg C8.toArray,.int .i64 0])=Ending.returned (.tuple #[.agg y.cells.toArray,.int .i64 ((0:Nat):Int)])∧y.m=vO x.m grp no (N:Int) (lf:Int) s∧y.At w9∧(∀k∈y.foot,k∈x.foot∨w.heap.size≤k)∧Below w.heap.size w w9:=by
 subst hm;obtain⟨e,he⟩:∃e:RE,e=⟨no,lf,yo N s,A,c⟩:=⟨_,rfl⟩;have hecc:e.cells=ec:=by rw[he,hec];unfold RE.cells;rw[qi9]
 have hem:e.m=⟨no,lf,vY N s⟩:=by rw[he];unfold RE.m;rw[qm1]
 have hef:e.foot=j7 A:=by rw[he];unfold RE.foot;rw[qhQ,List.append_nil]
 have hfA:=qhU hO;have hf7:=qhU hO8;have hs8:=hB8.size;have hfoot:∀k∈ (⟨grp,ja x.es.length x.es x.es.length++ [e],A7,c7,false⟩:RX).foot,(k∈x.foot∨w.heap.size≤k)∧k<w9.heap.size:=by
  intro k hk;unfold RX.foot at hk;simp only[QS,JG,ZC]at hk;rcases hk with hk|hk|hk
  ·obtain⟨h1,h2⟩:=hf7 k hk
   exact⟨.inr (by omega),by omega⟩
  ·obtain⟨y,hy,hk⟩:=Jk.1 hk
   have hin:k∈x.foot:=by unfold RX.foot;exact Zf _ (Jk.2 ⟨y,qfl hy,hk⟩)
   exact⟨.inl hin,Nat.lt_of_lt_of_le (hlt k hin) hB.size⟩
  ·rw[hef]at hk
   obtain⟨h1,h2⟩:=hfA k hk;exact⟨.inr (by omega),by omega⟩
 refine⟨⟨grp,ja x.es.length x.es x.es.length++ [e],A7,c7,false⟩,?_,?_,⟨hgl,?_,fun y hy=>?_,fun k hk=>(hfoot k hk).2⟩,fun k hk=>(hfoot k hk).1,hB⟩
 ·rw[hC8,hL]
  unfold RX.cells;rw[QO];rfl
 ·unfold vO
  rw[if_pos hE];show(⟨grp,(ja x.es.length x.es x.es.length++ [e]).map RE.m,false⟩:BM)=_;rw[qlp,qlq,hem];rfl
 ·obtain⟨A',c',e1,hrd,-⟩:=qX hO8
  injection e1 with e1 e2 e3;subst e1;show RdV w9 w9.heap.size A7 ((ja x.es.length x.es x.es.length++ [e]).flatMap RE.cells);rw[JG,ZC,hecc];exact yK hrd hs (fun k hk=>by obtain⟨h1,h2⟩:=hf7 k hk;exact hsame k (by omega) h2)
 ·rcases QS.1 hy with hy|hy
  ·exact hx9.each y (qfl hy)
  ·rw[Je]at hy
   subst hy;rw[he];refine⟨?_,qlo w9 N hsl⟩;obtain⟨A',c',e1,hrd,-⟩:=qX hO;injection e1 with e1 e2 e3;subst e1;refine yK hrd (by omega) (fun k hk=>?_);obtain⟨h1,h2⟩:=hfA k hk;exact(hsame k (by omega) (by omega)).trans (hB8.block k (by omega))
theorem qgj(w:World)(x:RX)(hx:x.At w)(h4:x.es.length≤4)(grp s:qf)(hgl:grp.length=32)(hsl:s.length=32)(no leaves leaf:Int):
 Calls prog 11 #[.agg x.cells.toArray,jL b8 grp,.int .i64 no,jL b8 s,.int .i64 leaves,.int .i64 leaf] w fun e w'=>∃y:RX,e= .returned (.tuple #[.agg y.cells.toArray,.int .i64 (vy x.m grp no leaves leaf:Int)])∧
  y.m=vO x.m grp no leaves leaf s∧y.At w'∧(∀k∈y.foot,k∈x.foot∨w.heap.size≤k)∧Below w.heap.size w w':=by
 obtain⟨C,hC⟩:∃C,C=x.cells:=⟨_,rfl⟩;have HCl:=qe (show C.length=34 by rw[hC];exact j8 hx.glen);have HC1:=qe (show∀u∈C,u.oneCell'=true by rw[hC];exact zI rfl);obtain⟨w1,hw1⟩:∃w1,w1=(((w.alloc (.cells C.toArray 34)).alloc (.cells (grp.map b8).toArray 23)).alloc (.cells (s.map b8).toArray 23)).alloc (.cells jd.toArray 34):=⟨_,rfl⟩;have HX1:=qe (show Blk w1 w.heap.size 34 C by rw[hw1];exact(((Blk.new w _ _).alloc _).alloc _).alloc _)
 have HA1:=qe (show Arr b8 w1 (w.heap.size+1) 23 grp by
  rw[hw1];have h1:=Arr.new b8 (w.alloc (.cells C.toArray 34)) 23 grp;rw[QQ]at h1;exact(h1.alloc _).alloc _)
 have HA2:=qe (show Arr b8 w1 (w.heap.size+2) 23 s by
  rw[hw1];have h1:=Arr.new b8 ((w.alloc (.cells C.toArray 34)).alloc (.cells (grp.map b8).toArray 23)) 23 s;rw[QQ,QQ]at h1;exact h1.alloc _)
 have HZ1:=qe (show Blk w1 (w.heap.size+3) 34 jd by rw[hw1];exact Blk.at_size _ _ (by simp));have HB1:=qe (show Below w.heap.size w w1 by rw[hw1];exact((((QK _ w).alloc (QI _) _).alloc (by simp) _).alloc (by simp;omega) _).alloc (by simp;omega) _);have hz1:w1.heap.size=w.heap.size+4:=by rw[hw1];simp
 have HR1:=qe (hx.below HB1.1 (QI _));have HLt:=qe hx.lt;have HW1:=qe hw1;have HCe:=qe hC;have c33:=HX1.1.cell 33 (by rw[hC];exact qnX hx.glen);have HSo:=qe (qb4 leaves w1);have HGl:=qe hgl;have HSl:=qe hsl;have HH:=qe hx;have HH4:=qe h4;obtain⟨E,hE⟩:∃E,E=vy x.m grp no leaves leaf:=⟨_,rfl⟩;have hE0:=hE;unfold vy at hE0;rw[show x.m.clr=x.clr from rfl]at hE0
 rw[←hE,←hC,qn,qn];clear hx hw1 hgl hsl hC h4;cases hclr:x.clr with
 |true=>
  rw[hclr]at hE0 c33;rw[if_pos rfl]at hE0;subst hE0;have HE:=qe hE.symm;clear hE hclr;go_enter func11,ntmps11
  go_upto_region 1 with fail
  have hw1:=HW1.1;simp only[jX]at hw1;rw[←hw1];clear hw1;go_upto_region 2 with fail
  go_wp2_with (first
   |(refine wpList_load_mid rfl 34 (.tmp 6) rfl w.heap.size 0 rfl C _ HX1.1.whole underlying34 rfl (by rw[HCl.1];exact qt) ?_)
   |(refine qi rfl 34 (.tmp 12) (.tmp 21) rfl (w.heap.size+3) 0 rfl C rfl 34 _ [] jd [] HZ1.1 (by simp) rfl (by rw[HCl.1];rfl) (by rw[HCl.1];exact qt) HC1.1 ?_;intro w4 hx4 hg4;have HX4:=qe (show Blk w4 (w.heap.size+3) 34 C from hx4.cast (by simp));have HB4:=qe (HB1.1.grown hg4 HB1.1.size (fun k e=>by cases e;omega));have HR4:=qe (HR1.1.grown hg4 (fun hm=>by have:=HLt.1 _ hm;omega));clear hx4 hg4))
  refine bodyPost_ret (v:= .tuple #[.agg C.toArray,.int .i64 10]) (qu (g:=w.heap.size+3) rfl _ _ _ _ _ _ rfl rfl HX4.1 underlying34 rfl (by rw[HCl.1];exact qt)) rfl ?_;exact⟨x,by rw[HCe.1];rfl,(jx (by rw[HE.1];decide)).symm,HR4.1,fun k hk=> .inl hk,HB4.1⟩
 |false=>
  rw[hclr]at hE0 c33;rw[if_neg (by decide)]at hE0;cases hsd:jB leaves with
  |false=>
   rw[if_pos (.inl hsd)]at hE0;subst hE0;have HE:=qe hE.symm;rw[hsd]at HSo;clear hE hclr hsd;go_enter func11,ntmps11
   go_upto_region 1 with fail
   have hw1:=HW1.1;simp only[jX]at hw1;rw[←hw1];clear hw1;go_upto_region 3 with fail
   go_wp2_with fail
   refine HSo.1.mono ?_;rintro e w3 ⟨rfl,rfl⟩;go_wp2_with (first
    |(refine wpList_load_mid rfl 34 (.tmp 6) rfl w.heap.size 0 rfl C _ HX1.1.whole underlying34 rfl (by rw[HCl.1];exact qt) ?_)
    |(refine qi rfl 34 (.tmp 12) (.tmp 34) rfl (w.heap.size+3) 0 rfl C rfl 34 _ [] jd [] HZ1.1 (by simp) rfl (by rw[HCl.1];rfl) (by rw[HCl.1];exact qt) HC1.1 ?_;intro w4 hx4 hg4;have HX4:=qe (show Blk w4 (w.heap.size+3) 34 C from hx4.cast (by simp));have HB4:=qe (HB1.1.grown hg4 HB1.1.size (fun k e=>by cases e;omega));have HR4:=qe (HR1.1.grown hg4 (fun hm=>by have:=HLt.1 _ hm;omega));clear hx4 hg4))
   refine bodyPost_ret (v:= .tuple #[.agg C.toArray,.int .i64 3]) (qu (g:=w.heap.size+3) rfl _ _ _ _ _ _ rfl rfl HX4.1 underlying34 rfl (by rw[HCl.1];exact qt)) rfl ?_;exact⟨x,by rw[HCe.1];rfl,(jx (by rw[HE.1];decide)).symm,HR4.1,fun k hk=> .inl hk,HB4.1⟩
  |true=>
   rw[hsd]at HSo;by_cases hf0:leaf<0
   ·rw[if_pos (.inr (.inl hf0))]at hE0
    subst hE0;have HE:=qe hE.symm;clear hE hclr hsd;go_enter func11,ntmps11
    go_upto_region 1 with fail
    have hw1:=HW1.1;simp only[jX]at hw1;rw[←hw1];clear hw1;go_upto_region 3 with fail
    go_wp2_with fail
    refine HSo.1.mono ?_;rintro e w3 ⟨rfl,rfl⟩;go_wp2_with (first
     |(refine wpList_load_mid rfl 34 (.tmp 6) rfl w.heap.size 0 rfl C _ HX1.1.whole underlying34 rfl (by rw[HCl.1];exact qt) ?_)
     |(refine qi rfl 34 (.tmp 12) (.tmp 34) rfl (w.heap.size+3) 0 rfl C rfl 34 _ [] jd [] HZ1.1 (by simp) rfl (by rw[HCl.1];rfl) (by rw[HCl.1];exact qt) HC1.1 ?_;intro w4 hx4 hg4;have HX4:=qe (show Blk w4 (w.heap.size+3) 34 C from hx4.cast (by simp));have HB4:=qe (HB1.1.grown hg4 HB1.1.size (fun k e=>by cases e;omega));have HR4:=qe (HR1.1.grown hg4 (fun hm=>by have:=HLt.1 _ hm;omega));clear hx4 hg4))
    refine bodyPost_ret (v:= .tuple #[.agg C.toArray,.int .i64 3]) (qu (g:=w.heap.size+3) rfl _ _ _ _ _ _ rfl rfl HX4.1 underlying34 rfl (by rw[HCl.1];exact qt)) rfl ?_;exact⟨x,by rw[HCe.1];rfl,(jx (by rw[HE.1];decide)).symm,HR4.1,fun k hk=> .inl hk,HB4.1⟩
   ·by_cases hf1:leaves≤leaf
    ·rw[if_pos (.inr (.inr hf1))]at hE0
     subst hE0;have HE:=qe hE.symm;have hf2:leaf≥leaves:=hf1;clear hE hclr hsd;go_enter func11,ntmps11
     go_upto_region 1 with fail
     have hw1:=HW1.1;simp only[jX]at hw1;rw[←hw1];clear hw1;go_upto_region 3 with fail
     go_wp2_with fail
     refine HSo.1.mono ?_;rintro e w3 ⟨rfl,rfl⟩;go_wp2_with (first
      |(refine wpList_load_mid rfl 34 (.tmp 6) rfl w.heap.size 0 rfl C _ HX1.1.whole underlying34 rfl (by rw[HCl.1];exact qt) ?_)
      |(refine qi rfl 34 (.tmp 12) (.tmp 34) rfl (w.heap.size+3) 0 rfl C rfl 34 _ [] jd [] HZ1.1 (by simp) rfl (by rw[HCl.1];rfl) (by rw[HCl.1];exact qt) HC1.1 ?_;intro w4 hx4 hg4;have HX4:=qe (show Blk w4 (w.heap.size+3) 34 C from hx4.cast (by simp));have HB4:=qe (HB1.1.grown hg4 HB1.1.size (fun k e=>by cases e;omega));have HR4:=qe (HR1.1.grown hg4 (fun hm=>by have:=HLt.1 _ hm;omega));clear hx4 hg4))
     refine bodyPost_ret (v:= .tuple #[.agg C.toArray,.int .i64 3]) (qu (g:=w.heap.size+3) rfl _ _ _ _ _ _ rfl rfl HX4.1 underlying34 rfl (by rw[HCl.1];exact qt)) rfl ?_;exact⟨x,by rw[HCe.1];rfl,(jx (by rw[HE.1];decide)).symm,HR4.1,fun k hk=> .inl hk,HB4.1⟩
    ·rw[if_neg (by rw[hsd];simp;omega)]at hE0
     have hf2:¬(leaf≥leaves):=by omega
     have c32:=HX1.1.cell 32 (by rw[HCe.1];exact jG HH.1.glen);obtain⟨m,hm⟩:∃m,m=x.es.length:=⟨_,rfl⟩;rw[←hm]at c32;by_cases hn0:no<0
     ·rw[if_pos (.inl hn0)]at hE0
      subst hE0;have HE:=qe hE.symm;clear hE hclr hsd hm;go_enter func11,ntmps11
      go_upto_region 1 with fail
      have hw1:=HW1.1;simp only[jX]at hw1;rw[←hw1];clear hw1;go_upto_region 3 with fail
      go_wp2_with fail
      refine HSo.1.mono ?_;rintro e w3 ⟨rfl,rfl⟩;go_wp2_with (first
       |(refine wpList_load_mid rfl 34 (.tmp 6) rfl w.heap.size 0 rfl C _ HX1.1.whole underlying34 rfl (by rw[HCl.1];exact qt) ?_)
       |(refine qi rfl 34 (.tmp 12) (.tmp 65) rfl (w.heap.size+3) 0 rfl C rfl 34 _ [] jd [] HZ1.1 (by simp) rfl (by rw[HCl.1];rfl) (by rw[HCl.1];exact qt) HC1.1 ?_;intro w4 hx4 hg4;have HX4:=qe (show Blk w4 (w.heap.size+3) 34 C from hx4.cast (by simp));have HB4:=qe (HB1.1.grown hg4 HB1.1.size (fun k e=>by cases e;omega));have HR4:=qe (HR1.1.grown hg4 (fun hm=>by have:=HLt.1 _ hm;omega));clear hx4 hg4))
      refine bodyPost_ret (v:= .tuple #[.agg C.toArray,.int .i64 6]) (qu (g:=w.heap.size+3) rfl _ _ _ _ _ _ rfl rfl HX4.1 underlying34 rfl (by rw[HCl.1];exact qt)) rfl ?_;exact⟨x,by rw[HCe.1];rfl,(jx (by rw[HE.1];decide)).symm,HR4.1,fun k hk=> .inl hk,HB4.1⟩
     ·by_cases hn1:4294967295<no
      ·rw[if_pos (.inr hn1)]at hE0
       subst hE0;have HE:=qe hE.symm;have hn2:no>4294967295:=hn1;clear hE hclr hsd hm;go_enter func11,ntmps11
       go_upto_region 1 with fail
       have hw1:=HW1.1;simp only[jX]at hw1;rw[←hw1];clear hw1;go_upto_region 3 with fail
       go_wp2_with fail
       refine HSo.1.mono ?_;rintro e w3 ⟨rfl,rfl⟩;go_wp2_with (first
        |(refine wpList_load_mid rfl 34 (.tmp 6) rfl w.heap.size 0 rfl C _ HX1.1.whole underlying34 rfl (by rw[HCl.1];exact qt) ?_)
        |(refine qi rfl 34 (.tmp 12) (.tmp 65) rfl (w.heap.size+3) 0 rfl C rfl 34 _ [] jd [] HZ1.1 (by simp) rfl (by rw[HCl.1];rfl) (by rw[HCl.1];exact qt) HC1.1 ?_;intro w4 hx4 hg4;have HX4:=qe (show Blk w4 (w.heap.size+3) 34 C from hx4.cast (by simp));have HB4:=qe (HB1.1.grown hg4 HB1.1.size (fun k e=>by cases e;omega));have HR4:=qe (HR1.1.grown hg4 (fun hm=>by have:=HLt.1 _ hm;omega));clear hx4 hg4))
       refine bodyPost_ret (v:= .tuple #[.agg C.toArray,.int .i64 6]) (qu (g:=w.heap.size+3) rfl _ _ _ _ _ _ rfl rfl HX4.1 underlying34 rfl (by rw[HCl.1];exact qt)) rfl ?_;exact⟨x,by rw[HCe.1];rfl,(jx (by rw[HE.1];decide)).symm,HR4.1,fun k hk=> .inl hk,HB4.1⟩
      ·rw[if_neg (by omega)]at hE0
       have hn2:¬(no>4294967295):=hn1;have HHm:=qe hm;have hN1:1≤leaves∧leaves≤32:=by
        obtain⟨k,hk,hlv⟩:=qcD hsd;have h1:1≤2^k:=Nat.one_le_two_pow;have h2:2^k≤2^5:=Nat.pow_le_pow_right (by decide) hk;rw[hlv];omega
       obtain⟨N,rfl⟩:∃N:Nat,leaves=(N:Int):=⟨leaves.toNat,by omega⟩;obtain⟨lf,rfl⟩:∃lf:Nat,leaf=(lf:Int):=⟨leaf.toNat,by omega⟩;have hN32:N≤32:=by omega
       have HZz:=qe hz1;have HEe:=qe hE;rcases Nat.eq_zero_or_pos m with he|he
       ·have hes:x.es=[]:=List.eq_nil_of_length_eq_zero (by omega)
        have hmI:¬((m:Int)>0):=by omega
        rw[if_neg (by rw[show x.m.es=[] by unfold RX.m;rw[hes];rfl];simp)]at hE0;subst hE0;clear hE hclr hsd hm hes he;go_enter func11,ntmps11
        go_upto_region 1 with fail
        have hw1:=HW1.1;simp only[jX]at hw1;rw[←hw1];clear hw1;go_upto_region 3 with fail
        go_wp2_with fail
        refine HSo.1.mono ?_;rintro e w3 ⟨rfl,rfl⟩;go_upto_region 8 with fail
        have hmle:m≤4:=by have h1:=HHm.1;have h2:=HH4.1;omega
        have HE:=qe HEe.1.symm;go_upto_region 9 with fail
        obtain⟨w2,hw2⟩:∃w2,w2=w1.alloc (.cells #[.int .i64 no,.int .i64 (lf:Int),.slice none 0 0] 85):=⟨_,rfl⟩;rw[←hw2];have HP2:=qe (show Blk w2 (w.heap.size+4) 85 [.int .i64 no,.int .i64 (lf:Int),.slice none 0 0] by rw[hw2];exact Blk.at_size _ [.int .i64 no,.int .i64 (lf:Int),.slice none 0 0] hz1);have HB2:=qe (show Below (w.heap.size+4) w1 w2 by rw[hw2];exact(QK _ w1).alloc (by omega) _)
        have hz2:w.heap.size+5≤w2.heap.size:=by rw[hw2,QQ];omega
        clear hw2;go_upto_region 10 with fail
        go_loopw [16] (fun iv wr=>∃(j:Nat) (A:Option Addr) (c:Nat),iv= .int .i64 (j:Int)∧j≤N∧Blk wr (w.heap.size+4) 85 [.int .i64 no,.int .i64 (lf:Int),.slice A j c]∧wr.ownsRow (w.heap.size+5) 89 36 (.slice A j c) j (((Q6 j).map (fun i=>zM (vr N i s))).flatMap RL.cells)∧Below (w.heap.size+4) w1 wr∧w.heap.size+5≤wr.heap.size) (fun iv _=>N-(intOf iv).toNat)
        case atStart=>exact⟨0,none,0,rfl,Nat.zero_le _,HP2.1,ownsRow_nil _ _ _ _,HB2.1,hz2⟩
        case round=>
         clear HP2 HB2 hz2;obtain⟨j,A,c,rfl,hj,hp,hown,hb,hzr⟩:=hrel;have HP:=qe hp;have HO:=qe hown;have HB:=qe hb;clear hp hown hb;by_cases hlt:j<N
         ·have hja:(j:Int)<(N:Int):=by omega
          obtain⟨z,hz⟩:∃z,z=vr N j s:=⟨_,rfl⟩;obtain⟨Z,hZ⟩:∃Z,Z=s.map b8:=⟨_,rfl⟩;have hlf:=qdh wr.drew s HSl.1 N j hN32 (by omega);rw[qn,qn,←hz,←hZ]at hlf;have HLf:=qe hlf;have HZl:=qe (show z.length=32 by rw[hz];exact uo _ _ _ _ HSl.1);have HZe:=qe hz;have HZs:=qe hZ;have hbz:=qbu z HZl.1;have HCl2:=qe (show(zM z).cells.length=36 from jS HZl.1)
          have HC12:=qe (show∀u∈ (zM z).cells,u.oneCell'=true from vX rfl rfl);obtain⟨Cz,hCz⟩:∃Cz,Cz=(zM z).cells:=⟨_,rfl⟩;rw[←hCz]at hbz HCl2 HC12;have HCz:=qe hCz;have hu:=underlying23;have hi32:(prog.info? 23).map (·.size)=some Z.length:=by rw[hZ,QN,HSl.1];exact jy
          obtain⟨il,hil,hlz,hls,hlb⟩:=info_parts qcC;have hS:wr.drew.rangeAt (w.heap.size+2) 0 Z∧wr.drew.cell? ⟨w.heap.size+4,2,none⟩=some (.slice A j c)∧True:=⟨by rw[hZ];exact(HA2.1.below HB.1 (by omega)).whole,HP.1.cell 2 rfl,trivial⟩;clear hlf hz hZ hCz;go_upto_region 12 with fail
          refine jr (by kernel_rfl) (fun w'=>w'.rangeAt (w.heap.size+2) 0 Z∧w'.cell? ⟨w.heap.size+4,2,none⟩=some (.slice A j c)∧True) 10 ?_;refine puB 0 (.pointer (some ⟨w.heap.size+4,2,none⟩)) hS ?_;refine tkB 1 (.slice A j c) hS ?_;refine tkL 2 (.agg Z.toArray) rfl rfl (yieldsIf_load_mid (by rfl) 23 (.tmp 9) rfl (w.heap.size+2) 0 rfl Z _ (fun _ h=>h.1) hu rfl hi32) hS ?_;try simp only[QJ,qj,qz,qv]
          refine puB 3 (.int .i64 (N:Int)) hS ?_;refine puB 4 (.int .i64 (j:Int)) hS ?_;try simp only[QJ,qj,qz,qv]
          refine onY 5 (fun K' hK=>?_);go_simp;go_at_call 32;refine HLf.1.mono ?_;rintro e w5 ⟨rfl,hb5⟩;have hB5:Below wr.heap.size wr w5:=(QK wr.heap.size wr).drew.trans hb5;have HP5:=qe (HP.1.below hB5 (by omega));have HB5:=qe (HB.1.trans (hB5.mono (by omega)));have HO5:=qe (jz HO.1 hB5 (QI _));have hz5:=hB5.size;have hS5:w5.rangeAt (w.heap.size+2) 0 Z∧w5.cell? ⟨w.heap.size+4,2,none⟩=some (.slice A j c)∧True:=⟨by rw[HZs.1];exact(HA2.1.below HB5.1 (by omega)).whole,HP5.1.cell 2 rfl,trivial⟩
          clear hb5 hB5 HLf hS;refine hK _ _ (fun _=>hS5) ?_;clear hK K';try simp only[QJ,qj,qz,qv]
          have hS:=hS5;clear hS5;refine puY 6 (.agg Cz.toArray) ?_ hS ?_
          ·intro w' hw'
           exact zn rfl _ rfl hbz w'
          try simp only[QJ,qj,qz,qv]
          refine onY 7 (fun K' hK=>?_);refine jP rfl 83 89 (.tmp 80) rfl il (.agg (jp (QL 32 0#8) 0 (.slice none 0 0) (.slice none 0 0) 0).toArray) 36 Cz.toArray rfl (by simpa using HCl2.1) (by decide) (by decide) underlying83 hil hlz hls rfl ?_;have HO6:=qe (jz HO5.1 ((QK w5.heap.size w5).alloc (QI _) (.cells Cz.toArray 89)) (QI _));have HB6:=qe (HB5.1.alloc (by omega) (.cells Cz.toArray 89))
          have HP6:=qe (HP5.1.alloc (.cells Cz.toArray 89));have hS6:(w5.alloc (.cells Cz.toArray 89)).rangeAt (w.heap.size+2) 0 Z∧(w5.alloc (.cells Cz.toArray 89)).cell? ⟨w.heap.size+4,2,none⟩=some (.slice A j c)∧True:=⟨by rw[HZs.1];exact(HA2.1.below HB6.1 (by omega)).whole,HP6.1.cell 2 rfl,trivial⟩;refine hK _ _ (fun _=>hS6) ?_;clear hK K';try simp only[QJ,qj,qz,qv]
          refine onY 8 (fun K' hK=>?_);refine jH rfl (.tmp 75) (.tmp 81) 83 rfl 36 (by decide) (w.heap.size+5) 89 il (.agg (jp (QL 32 0#8) 0 (.slice none 0 0) (.slice none 0 0) 0).toArray) 96 underlying83 hil hlz hls hlb rfl _ j _ rfl HO6.1 (w5.heap.size+1) (some ⟨w5.heap.size,0,none⟩) 1 1 Cz rfl (by rw[HCl2.1]) (by decide) (vJ w5 89 Cz) HC12.1 (by unfold maxLen;omega) (by omega) (by rw[QQ];omega) ?_
          intro v7 w7 hown7 hg7 hbb7;obtain⟨A7,c7,rfl,-⟩:=qX hown7;have HB7:=qe (hbb7 (w.heap.size+4) w1 (by omega) HB6.1);have HP7:=qe (show Blk w7 (w.heap.size+4) 85 [.int .i64 no,.int .i64 (lf:Int),.slice A j c]from HP6.1.below (hbb7 (w.heap.size+5) _ (QI _) (QK _ _)) (by omega));have HO7:=qe hown7;have hz7:w5.heap.size+1≤w7.heap.size:=by have:=(hbb7 (w.heap.size+5) _ (QI _) (QK _ _)).size;rwa[QQ]at this
          have c72:=HP7.1.cell 2 rfl;have f72:=HP7.1.frozen 2;have hS7:w7.rangeAt (w.heap.size+2) 0 Z∧w7.cell? ⟨w.heap.size+4,2,none⟩=some (.slice A j c)∧True:=⟨by rw[HZs.1];exact(HA2.1.below HB7.1 (by omega)).whole,c72,trivial⟩;clear hown7 hg7 hbb7 hS hS6;refine hK _ _ (fun _=>hS7) ?_;clear hK K';try simp only[QJ,qj,qz,qv]
          have hS:=hS7;clear hS7;refine puB 9 (.pointer (some ⟨w.heap.size+4,2,none⟩)) hS ?_;try simp only[QJ,qj,qz,qv]
          refine onY 10 (fun K' hK=>?_);go_simp;refine hK _ _ (fun h=>absurd rfl h) (jq (by kernel_rfl) ?_ _);clear hK K' c72 f72 hS;have HP8:=qe ((HP7.1.set_ 2 (.slice A7 (j+1) c7)).cast rfl);have HO8:=qe (show(w7.setCell ⟨w.heap.size+4,2,none⟩ (.slice A7 (j+1) c7)).ownsRow (w.heap.size+5) 89 36 (.slice A7 (j+1) c7) (j+1) (((Q6 (j+1)).map (fun i=>zM (vr N i s))).flatMap RL.cells) by
           rw[JU,Q9,JG,List.map_singleton,ZC,←HZe.1,←HCz.1];exact ownsRow_setCell_below HO7.1 (by show w.heap.size+4<w.heap.size+5;omega) _)
          have HB8:=qe (HB7.1.setCell (p:=⟨w.heap.size+4,2,none⟩) (QI _) (.slice A7 (j+1) c7));have hz8:w.heap.size+5≤(w7.setCell ⟨w.heap.size+4,2,none⟩ (.slice A7 (j+1) c7)).heap.size:=by simp[World.setCell];omega
          clear HP HO HB HP5 HB5 HO5 HO6 HB6 HP6 HB7 HP7 HO7;go_wp2_with fail
          go_roundw
          case rel=>exact⟨j+1,A7,c7,by go_num,by omega,HP8.1,HO8.1,HB8.1,hz8⟩
          case measure=>simp[intOf]<;>omega
         ·obtain rfl:N=j:=by omega
          have hja:¬((N:Int)<(N:Int)):=by omega
          go_upto_region 13 with fail
          go_upto_region 14 with(first
           |(refine qm rfl 23 (.tmp 7) rfl (w.heap.size+1) rfl _ grp (HA1.1.below HB.1 (by omega)) _ underlying23 rfl (by rw[HGl.1];exact jy) ?_)
           |(refine jh rfl 34 [(0,.tmp 84)] rfl (zw grp (.slice none 0 0) false).toArray [(0,.agg (grp.map b8).toArray)] rfl (qdg grp HGl.1) ?_)
           |(refine qi rfl 34 (.tmp 17) (.tmp 85) rfl wr.heap.size 0 rfl (zw grp (.slice none 0 0) false) rfl 34 _ [] jd [] (Blk.new wr _ jd) (by simp) rfl (by rw[j8 HGl.1];rfl) (by rw[j8 HGl.1];exact qt) (zI rfl) ?_;intro w3 hx3 hg3))
          try simp only[QJ,qj,qz,qv]
          obtain⟨wq,rfl⟩:∃wq,wq=wr:=⟨_,rfl⟩;obtain⟨G,hG⟩:∃G,G=wq.heap.size:=⟨_,rfl⟩;have HG3:=qe (show Blk w3 G 34 (zw grp (.slice none 0 0) false) by rw[hG];exact hx3.cast (by simp));have HB3:=qe (show Below G wq w3 from((QK _ wq).alloc (by omega) (.cells jd.toArray 34)).grown hg3 (by rw[QQ];omega) (fun k e=>by cases e;omega));have hz3:G+1≤w3.heap.size:=by have:=hg3.size;rw[QQ]at this;omega
          have hGz:w.heap.size+5≤G:=by omega
          have HGe:=qe hG;rw[←hG];clear hx3 hg3 hG;go_upto_region 15 with fail
          go_loopw [18] (fun iv wr=>∃(k:Nat) (A2:Option Addr) (c2:Nat),iv= .int .i64 (k:Int)∧k≤m∧Blk wr G 34 (zw grp (.slice A2 (ja m x.es k).length c2) false)∧wr.ownsRow (G+1) 85 3 (.slice A2 (ja m x.es k).length c2) (ja m x.es k).length ((ja m x.es k).flatMap RE.cells)∧Below G wq wr∧G+1≤wr.heap.size) (fun iv _=>m-(intOf iv).toNat)
          case atStart=>exact⟨0,none,0,rfl,Nat.zero_le _,by rw[kG];exact HG3.1,by rw[kG];exact ownsRow_nil _ _ _ _,HB3.1,hz3⟩
          case round=>
           clear HG3 HB3 hz3;obtain⟨k,A2,c2,rfl,hk,hgb,hrow,hbx,hzx⟩:=hrel;obtain⟨L,hL⟩:∃L,L=(ja m x.es k).length:=⟨_,rfl⟩;rw[←hL]at hgb hrow;have hL4:L≤4:=by have:=qfk m x.es k;have:=HH4.1;omega
           have HGb:=qe hgb;have HRo:=qe hrow;have HBx:=qe hbx;have HB9:=qe (HB.1.trans (hbx.mono (by omega)));have HL:=qe hL;clear hgb hrow hbx hL;by_cases hlt2:k<m
           ·have hkx:k<x.es.length:=by rw[←HHm.1];exact hlt2
            obtain⟨e,he0⟩:∃e,e=x.es[k]:=⟨_,rfl⟩;have hke:x.es[k]?=some e:=by rw[he0,QT hkx]
            obtain⟨b,off,hA,hbl,hcl⟩:=RdV.elem HR1.1.rows (fun y _=>RE.cells_len y) (by decide) hke;have hbw:b<w.heap.size:=HLt.1 b (by unfold RX.foot;rw[hA];simp[j7]);obtain⟨ec,hec⟩:∃ec,ec=e.cells:=⟨_,rfl⟩;rw[←hec]at hcl;have hel:ec.length=3:=by rw[hec];rfl
            have hsz1:=HB1.1.size;have hrg:wr.drew.rangeAt b (off+k*3) ec:=fun j u hu=>by
             have h:=hcl j u hu;rw[Jw 3 k]at h;exact(HB9.1.cell (p:=⟨b,off+k*3+j,none⟩) (by show b<_;omega)).trans h
            have hcx:wr.drew.cell? ⟨w.heap.size,32,none⟩=some (.slice (some ⟨b,off,none⟩) m x.c):=by
             rw[←hA];exact(HB9.1.cell (p:=⟨w.heap.size,32,none⟩) (by show w.heap.size<_;omega)).trans c32
            have hcg:wr.drew.cell? ⟨G,32,none⟩=some (.slice A2 L c2):=HGb.1.cell 32 (jG HGl.1);have hlk:(k:Int)<(m:Int):=by omega
            have hi1:(0:Int)≤(k:Int):=by omega
            have HKe:=qe hke;have HEc:=qe hec;have HEl:=qe hel;have HAx:=qe hA;have Hrg:=qe hrg;have Hcx:=qe hcx;have Hcg:=qe hcg;have Hcl:=qe hcl;clear he0 hke hA hec hel hrg hcx hcg hcl;by_cases hm4:m<4
            ·have hm4i:(m:Int)<4:=by omega
             have hkp:m<4∨0<k:= .inl hm4;go_upto_region 17 with fail
             go_upto_region 18 with fail
             have hS:wr.drew.cell? ⟨G,32,none⟩=some (.slice A2 L c2)∧wr.drew.cell? ⟨w.heap.size,32,none⟩=some (.slice (some ⟨b,off,none⟩) m x.c)∧wr.drew.rangeAt b (off+k*3) ec:=⟨Hcg.1,Hcx.1,Hrg.1⟩;obtain⟨ie,hie,hez,hes,heb⟩:=info_parts vT;have hu:=underlying85;have hi3:(prog.info? 85).map (·.size)=some ec.length:=by rw[HEl.1];exact vc
             have hiw:IntKind.i64.wrap (k:Int)=(k:Int):=Jc _ (by omega);refine jr (by kernel_rfl) (fun w'=>w'.cell? ⟨G,32,none⟩=some (.slice A2 L c2)∧w'.cell? ⟨w.heap.size,32,none⟩=some (.slice (some ⟨b,off,none⟩) m x.c)∧w'.rangeAt b (off+k*3) ec) 10 ?_;refine puB 0 (.pointer (some ⟨G,32,none⟩)) hS ?_;refine tkB 1 (.slice A2 L c2) hS ?_;refine puB 2 (.pointer (some ⟨w.heap.size,32,none⟩)) hS ?_
             try simp only[QJ,qj,qz,qv]
             refine tkB 3 (.slice (some ⟨b,off,none⟩) m x.c) hS ?_;refine puB 4 (.int .i64 (k:Int)) hS ?_;refine puB 5 (.pointer (some ⟨b,off+k*3,none⟩)) hS ?_;try simp only[QJ,qj,qz,qv]
             refine tkL 6 (.agg ec.toArray) rfl rfl (yieldsIf_load_mid (by rfl) 85 (.tmp 102) rfl b (off+k*3) rfl ec _ (fun _ h=>h.2.2) hu rfl hi3) hS ?_;try simp only[QJ,qj,qz,qv]
             refine onY 7 (fun K' hK=>?_);refine jP rfl 32 85 (.tmp 103) rfl ie (.agg #[.int .i64 0,.int .i64 0,.slice none 0 0]) 3 ec.toArray rfl (by simpa using HEl.1) (by decide) (by decide) underlying32 hie hez hes rfl ?_;have HBa:=qe (show Below (G+1) wr (wr.drew.alloc (.cells ec.toArray 85))from(QK (G+1) wr).drew.alloc (by show G+1≤wr.heap.size;omega) _);have HRa:=qe (show(wr.drew.alloc (.cells ec.toArray 85)).ownsRow (G+1) 85 3 (.slice A2 L c2) L ((ja m x.es k).flatMap RE.cells)from jz HRo.1 ((QK wr.heap.size wr).drew.alloc (QI _) (.cells ec.toArray 85)) (QI _))
             have HGa:=qe (show Blk (wr.drew.alloc (.cells ec.toArray 85)) G 34 _ from HGb.1.drew.alloc (.cells ec.toArray 85));have hSa:(wr.drew.alloc (.cells ec.toArray 85)).cell? ⟨G,32,none⟩=some (.slice A2 L c2)∧(wr.drew.alloc (.cells ec.toArray 85)).cell? ⟨w.heap.size,32,none⟩=some (.slice (some ⟨b,off,none⟩) m x.c)∧(wr.drew.alloc (.cells ec.toArray 85)).rangeAt b (off+k*3) ec:=
              ⟨HGa.1.cell 32 (jG HGl.1),(HBa.1.cell (p:=⟨w.heap.size,32,none⟩) (by show w.heap.size<_;omega)).trans Hcx.1,fun j u hu=>(HBa.1.cell (p:=⟨b,off+k*3+j,none⟩) (by show b<_;omega)).trans (Hrg.1 j u hu)⟩
             refine hK _ _ (fun _=>hSa) ?_;clear hK K';try simp only[QJ,qj,qz,qv]
             refine onY 8 (fun K' hK=>?_);refine jH rfl (.tmp 98) (.tmp 104) 32 rfl 3 (by decide) (G+1) 85 ie (.agg #[.int .i64 0,.int .i64 0,.slice none 0 0]) 40 underlying32 hie hez hes heb rfl _ L _ rfl HRa.1 (wr.drew.heap.size+1) (some ⟨wr.drew.heap.size,0,none⟩) 1 1 ec rfl (by rw[HEl.1]) (by decide) (vJ wr.drew 85 ec) (by rw[HEc.1];exact RE.cells_one e) (by unfold maxLen;omega) (by omega) (by rw[QQ];show G+1≤wr.heap.size+1;omega) ?_
             intro v7 w7 hown7 hg7 hbb7;obtain⟨A7,c7,rfl,-⟩:=qX hown7;have HB7:=qe (hbb7 (G+1) _ (QI _) HBa.1);have HG7:=qe (show Blk w7 G 34 (zw grp (.slice A2 L c2) false)from HGa.1.below (hbb7 (G+1) _ (QI _) (QK _ _)) (by omega));have HO7:=qe hown7;have c7g:=HG7.1.cell 32 (jG HGl.1);have f7g:=HG7.1.frozen 32;have hS7:w7.cell? ⟨G,32,none⟩=some (.slice A2 L c2)∧w7.cell? ⟨w.heap.size,32,none⟩=some (.slice (some ⟨b,off,none⟩) m x.c)∧w7.rangeAt b (off+k*3) ec:=
              ⟨c7g,(HB7.1.cell (p:=⟨w.heap.size,32,none⟩) (by show w.heap.size<_;omega)).trans Hcx.1,fun j u hu=>(HB7.1.cell (p:=⟨b,off+k*3+j,none⟩) (by show b<_;omega)).trans (Hrg.1 j u hu)⟩
             clear hown7 hg7 hbb7 hS hSa;refine hK _ _ (fun _=>hS7) ?_;clear hK K';try simp only[QJ,qj,qz,qv]
             have hS:=hS7;clear hS7;refine puB 9 (.pointer (some ⟨G,32,none⟩)) hS ?_;try simp only[QJ,qj,qz,qv]
             refine onY 10 (fun K' hK=>?_);go_simp;refine hK _ _ (fun h=>absurd rfl h) (jq (by kernel_rfl) ?_ _);clear hK K' c7g f7g hS;have hks:ja m x.es (k+1)=ja m x.es k++ [e]:=qaO HKe.1 hkp;have HG8:=qe (show Blk (w7.setCell ⟨G,32,none⟩ (.slice A7 (L+1) c7)) G 34 (zw grp (.slice A7 (ja m x.es (k+1)).length c7) false)from(HG7.1.set_ 32 _).cast (by rw[vS HGl.1,hks,QO,←HL.1];rfl))
             have HO8:=qe (show(w7.setCell ⟨G,32,none⟩ (.slice A7 (L+1) c7)).ownsRow (G+1) 85 3 (.slice A7 (ja m x.es (k+1)).length c7) (ja m x.es (k+1)).length ((ja m x.es (k+1)).flatMap RE.cells) by
              rw[hks,QO,JG,ZC,←HL.1,←HEc.1];exact ownsRow_setCell_below HO7.1 (by show G<G+1;omega) _)
             have HB8:=qe (show Below G wq (w7.setCell ⟨G,32,none⟩ (.slice A7 (L+1) c7))from(HBx.1.trans (HB7.1.mono (by omega))).setCell (QI _) _);have hz8:G+1≤(w7.setCell ⟨G,32,none⟩ (.slice A7 (L+1) c7)).heap.size:=by have:=HB7.1.size;simp[World.setCell];omega
             clear hks HGb HRo HBx HB9 HBa HRa HGa HB7 HG7 HO7;go_wp2_with fail
             go_roundw
             case rel=>exact⟨k+1,A7,c7,by go_num,by omega,HG8.1,HO8.1,HB8.1,hz8⟩
             case measure=>simp[intOf]<;>omega
            ·have hm4i:¬((m:Int)<4):=by omega
             by_cases hk0:0<k
             ·have hk0i:(k:Int)>0:=by omega
              have hkp:m<4∨0<k:= .inr hk0;go_upto_region 17 with fail
              go_upto_region 18 with fail
              have hS:wr.drew.cell? ⟨G,32,none⟩=some (.slice A2 L c2)∧wr.drew.cell? ⟨w.heap.size,32,none⟩=some (.slice (some ⟨b,off,none⟩) m x.c)∧wr.drew.rangeAt b (off+k*3) ec:=⟨Hcg.1,Hcx.1,Hrg.1⟩;obtain⟨ie,hie,hez,hes,heb⟩:=info_parts vT;have hu:=underlying85;have hi3:(prog.info? 85).map (·.size)=some ec.length:=by rw[HEl.1];exact vc
              have hiw:IntKind.i64.wrap (k:Int)=(k:Int):=Jc _ (by omega);refine jr (by kernel_rfl) (fun w'=>w'.cell? ⟨G,32,none⟩=some (.slice A2 L c2)∧w'.cell? ⟨w.heap.size,32,none⟩=some (.slice (some ⟨b,off,none⟩) m x.c)∧w'.rangeAt b (off+k*3) ec) 10 ?_;refine puB 0 (.pointer (some ⟨G,32,none⟩)) hS ?_;refine tkB 1 (.slice A2 L c2) hS ?_;refine puB 2 (.pointer (some ⟨w.heap.size,32,none⟩)) hS ?_
              try simp only[QJ,qj,qz,qv]
              refine tkB 3 (.slice (some ⟨b,off,none⟩) m x.c) hS ?_;refine puB 4 (.int .i64 (k:Int)) hS ?_;refine puB 5 (.pointer (some ⟨b,off+k*3,none⟩)) hS ?_;try simp only[QJ,qj,qz,qv]
              refine tkL 6 (.agg ec.toArray) rfl rfl (yieldsIf_load_mid (by rfl) 85 (.tmp 102) rfl b (off+k*3) rfl ec _ (fun _ h=>h.2.2) hu rfl hi3) hS ?_;try simp only[QJ,qj,qz,qv]
              refine onY 7 (fun K' hK=>?_);refine jP rfl 32 85 (.tmp 103) rfl ie (.agg #[.int .i64 0,.int .i64 0,.slice none 0 0]) 3 ec.toArray rfl (by simpa using HEl.1) (by decide) (by decide) underlying32 hie hez hes rfl ?_;have HBa:=qe (show Below (G+1) wr (wr.drew.alloc (.cells ec.toArray 85))from(QK (G+1) wr).drew.alloc (by show G+1≤wr.heap.size;omega) _);have HRa:=qe (show(wr.drew.alloc (.cells ec.toArray 85)).ownsRow (G+1) 85 3 (.slice A2 L c2) L ((ja m x.es k).flatMap RE.cells)from jz HRo.1 ((QK wr.heap.size wr).drew.alloc (QI _) (.cells ec.toArray 85)) (QI _))
              have HGa:=qe (show Blk (wr.drew.alloc (.cells ec.toArray 85)) G 34 _ from HGb.1.drew.alloc (.cells ec.toArray 85));have hSa:(wr.drew.alloc (.cells ec.toArray 85)).cell? ⟨G,32,none⟩=some (.slice A2 L c2)∧(wr.drew.alloc (.cells ec.toArray 85)).cell? ⟨w.heap.size,32,none⟩=some (.slice (some ⟨b,off,none⟩) m x.c)∧(wr.drew.alloc (.cells ec.toArray 85)).rangeAt b (off+k*3) ec:=
               ⟨HGa.1.cell 32 (jG HGl.1),(HBa.1.cell (p:=⟨w.heap.size,32,none⟩) (by show w.heap.size<_;omega)).trans Hcx.1,fun j u hu=>(HBa.1.cell (p:=⟨b,off+k*3+j,none⟩) (by show b<_;omega)).trans (Hrg.1 j u hu)⟩
              refine hK _ _ (fun _=>hSa) ?_;clear hK K';try simp only[QJ,qj,qz,qv]
              refine onY 8 (fun K' hK=>?_);refine jH rfl (.tmp 98) (.tmp 104) 32 rfl 3 (by decide) (G+1) 85 ie (.agg #[.int .i64 0,.int .i64 0,.slice none 0 0]) 40 underlying32 hie hez hes heb rfl _ L _ rfl HRa.1 (wr.drew.heap.size+1) (some ⟨wr.drew.heap.size,0,none⟩) 1 1 ec rfl (by rw[HEl.1]) (by decide) (vJ wr.drew 85 ec) (by rw[HEc.1];exact RE.cells_one e) (by unfold maxLen;omega) (by omega) (by rw[QQ];show G+1≤wr.heap.size+1;omega) ?_
              intro v7 w7 hown7 hg7 hbb7;obtain⟨A7,c7,rfl,-⟩:=qX hown7;have HB7:=qe (hbb7 (G+1) _ (QI _) HBa.1);have HG7:=qe (show Blk w7 G 34 (zw grp (.slice A2 L c2) false)from HGa.1.below (hbb7 (G+1) _ (QI _) (QK _ _)) (by omega));have HO7:=qe hown7;have c7g:=HG7.1.cell 32 (jG HGl.1);have f7g:=HG7.1.frozen 32;have hS7:w7.cell? ⟨G,32,none⟩=some (.slice A2 L c2)∧w7.cell? ⟨w.heap.size,32,none⟩=some (.slice (some ⟨b,off,none⟩) m x.c)∧w7.rangeAt b (off+k*3) ec:=
               ⟨c7g,(HB7.1.cell (p:=⟨w.heap.size,32,none⟩) (by show w.heap.size<_;omega)).trans Hcx.1,fun j u hu=>(HB7.1.cell (p:=⟨b,off+k*3+j,none⟩) (by show b<_;omega)).trans (Hrg.1 j u hu)⟩
              clear hown7 hg7 hbb7 hS hSa;refine hK _ _ (fun _=>hS7) ?_;clear hK K';try simp only[QJ,qj,qz,qv]
              have hS:=hS7;clear hS7;refine puB 9 (.pointer (some ⟨G,32,none⟩)) hS ?_;try simp only[QJ,qj,qz,qv]
              refine onY 10 (fun K' hK=>?_);go_simp;refine hK _ _ (fun h=>absurd rfl h) (jq (by kernel_rfl) ?_ _);clear hK K' c7g f7g hS;have hks:ja m x.es (k+1)=ja m x.es k++ [e]:=qaO HKe.1 hkp;have HG8:=qe (show Blk (w7.setCell ⟨G,32,none⟩ (.slice A7 (L+1) c7)) G 34 (zw grp (.slice A7 (ja m x.es (k+1)).length c7) false)from(HG7.1.set_ 32 _).cast (by rw[vS HGl.1,hks,QO,←HL.1];rfl))
              have HO8:=qe (show(w7.setCell ⟨G,32,none⟩ (.slice A7 (L+1) c7)).ownsRow (G+1) 85 3 (.slice A7 (ja m x.es (k+1)).length c7) (ja m x.es (k+1)).length ((ja m x.es (k+1)).flatMap RE.cells) by
               rw[hks,QO,JG,ZC,←HL.1,←HEc.1];exact ownsRow_setCell_below HO7.1 (by show G<G+1;omega) _)
              have HB8:=qe (show Below G wq (w7.setCell ⟨G,32,none⟩ (.slice A7 (L+1) c7))from(HBx.1.trans (HB7.1.mono (by omega))).setCell (QI _) _);have hz8:G+1≤(w7.setCell ⟨G,32,none⟩ (.slice A7 (L+1) c7)).heap.size:=by have:=HB7.1.size;simp[World.setCell];omega
              clear hks HGb HRo HBx HB9 HBa HRa HGa HB7 HG7 HO7;go_wp2_with fail
              go_roundw
              case rel=>exact⟨k+1,A7,c7,by go_num,by omega,HG8.1,HO8.1,HB8.1,hz8⟩
              case measure=>simp[intOf]<;>omega
             ·have hk0i:¬((k:Int)>0):=by omega
              go_wp2_with fail
              go_roundw
              case rel=>
               have hkk:ja m x.es (k+1)=ja m x.es k:=by
                have:k=0:=by omega
                rw[this,qeq _ hm4,kG]
               exact⟨k+1,A2,c2,by go_num,by omega,by rw[hkk,←HL.1];exact HGb.1,by rw[hkk,←HL.1];exact HRo.1,HBx.1,hzx⟩
              case measure=>simp[intOf]<;>omega
           ·obtain rfl:m=k:=by omega
            have hlk:¬((m:Int)<(m:Int)):=by omega
            go_upto_region 19 with fail
            obtain⟨ie,hie,hez,hes,heb⟩:=info_parts vT;obtain⟨ec,hec⟩:∃ec,ec=[QM .i64 no,.int .i64 (lf:Int),.slice A N c]:=⟨_,rfl⟩;have HPx:=qe (show Blk wr (w.heap.size+4) 85 ec by rw[hec];exact HP.1.below HBx.1 (by omega));have HEl:=qe (show ec.length=3 by rw[hec];rfl);have HE1:=qe (show∀u∈ec,u.oneCell'=true by rw[hec];intro u hu;simp only[Ja,JM,or_false]at hu;rcases hu with rfl|rfl|rfl<;>rfl)
            have HEc:=qe hec;have hcg:wr.cell? ⟨G,32,none⟩=some (.slice A2 L c2):=HGb.1.cell 32 (jG HGl.1);have HRb:=qe (jz HRo.1 ((QK wr.heap.size wr).alloc (QI _) (.cells ec.toArray 85)) (QI _));clear hec;have tokL:True:=trivial;have tokB:True:=trivial;have tokA:True:=trivial;go_upto_region 20 with(first
             |(have _t:=tokA;at_builtin;refine jD rfl _ _ 32 rfl 3 (by decide) (G+1) 85 ie (.agg #[.int .i64 0,.int .i64 0,.slice none 0 0]) 40 underlying32 hie hez hes heb rfl _ L _ rfl HRb.1 (wr.heap.size+1) (some ⟨wr.heap.size,0,none⟩) 1 1 ec rfl (by rw[HEl.1]) (by decide) (vJ wr 85 ec) HE1.1 (by unfold maxLen;omega) (by omega) (by rw[QQ];omega) ?_
               intro v7 w7 hown7 hg7 hbb7;obtain⟨A7,c7,rfl,-⟩:=qX hown7;have HBa:=qe (show Below (G+1) wr (wr.alloc (.cells ec.toArray 85))from(QK (G+1) wr).alloc (by omega) _);have HB7:=qe (hbb7 (G+1) _ (QI _) HBa.1);have HG7:=qe (show Blk w7 G 34 (zw grp (.slice A2 L c2) false)from HGb.1.below HB7.1 (by omega));have HO7:=qe hown7;have c7g:=HG7.1.cell 32 (jG HGl.1)
               have f7g:=HG7.1.frozen 32;clear hown7 hg7 hbb7 tokA _t)
             |(have _t:=tokL;refine wpList_load_mid rfl 85 (.tmp 15) rfl (w.heap.size+4) 0 rfl ec _ HPx.1.whole underlying85 rfl (by rw[HEl.1];exact vc) ?_;clear tokL _t)
             |(have _t:=tokB;refine qac rfl 32 85 (.tmp 109) rfl ie (.agg #[.int .i64 0,.int .i64 0,.slice none 0 0]) 3 ec.toArray rfl (by simpa using HEl.1) (by decide) (by decide) underlying32 hie hez hes rfl ?_;clear tokB _t))
            have HG8:=qe (show Blk (w7.setCell ⟨G,32,none⟩ (.slice A7 (L+1) c7)) G 34 (zw grp (.slice A7 (L+1) c7) false)from(HG7.1.set_ 32 _).cast (vS HGl.1 _));have HO8:=qe (show(w7.setCell ⟨G,32,none⟩ (.slice A7 (L+1) c7)).ownsRow (G+1) 85 3 (.slice A7 (L+1) c7) (L+1) ((ja m x.es m).flatMap RE.cells++ec)from ownsRow_setCell_below HO7.1 (by show G<G+1;omega) _);have HB8:=qe (show Below G wq (w7.setCell ⟨G,32,none⟩ (.slice A7 (L+1) c7))from(HBx.1.trans (HB7.1.mono (by omega))).setCell (QI _) _)
            obtain⟨w8,hw8⟩:∃w8,w8=w7.setCell ⟨G,32,none⟩ (.slice A7 (L+1) c7):=⟨_,rfl⟩;rw[←hw8]at HG8 HO8 HB8;rw[←hw8];have HBt:=qe (HB.1.trans (HB8.1.mono (by omega)));have HZ8:=qe (HZ1.1.below HBt.1 (by omega));obtain⟨C8,hC8⟩:∃C8,C8=zw grp (.slice A7 (L+1) c7) false:=⟨_,rfl⟩;rw[←hC8]at HG8;have HC8l:=qe (show C8.length=34 by rw[hC8];exact j8 HGl.1);have HC81:=qe (show∀u∈C8,u.oneCell'=true by rw[hC8];exact zI rfl)
            have HC8:=qe hC8;clear hw8 hC8 c7g f7g hcg;go_wp2_with (first
             |(refine wpList_load_mid rfl 34 (.tmp 17) rfl G 0 rfl C8 _ HG8.1.whole underlying34 rfl (by rw[HC8l.1];exact qt) ?_)
             |(refine qi rfl 34 (.tmp 12) (.tmp 113) rfl (w.heap.size+3) 0 rfl C8 rfl 34 _ [] jd [] HZ8.1 (by simp) rfl (by rw[HC8l.1];rfl) (by rw[HC8l.1];exact qt) HC81.1 ?_;intro w9 hx9 hg9))
            have HX9:=qe (show Blk w9 (w.heap.size+3) 34 C8 from hx9.cast (by simp));refine bodyPost_ret (v:= .tuple #[.agg C8.toArray,.int .i64 0]) (qu (g:=w.heap.size+3) rfl _ _ _ _ _ _ rfl rfl HX9.1 underlying34 rfl (by rw[HC8l.1];exact qt)) rfl ?_;have hs89:=hg9.size;have hB19:Below w.heap.size w w9:=(HB1.1.trans (HBt.1.mono (by omega))).grown hg9 (by have:=HBt.1.size;omega) (fun k e=>by cases e;omega)
            have hpl:(Below (w.heap.size+3) w1 w9):=(HBt.1.mono (by omega)).grown hg9 (by have:=HBt.1.size;omega) (fun k e=>by cases e;omega);have hx9':x.At w9:=HR1.1.same hpl.size (fun k hk=>hpl.block k (by have:=HLt.1 k hk;omega));have hsame:∀k,w.heap.size+4≤k→k<w8.heap.size→w9.heap[k]?=w8.heap[k]?:=fun k hk1 hk2=>hg9.block k hk2 (fun e=>by injection e with e;omega)
            refine qfm HH.1 HHm.1 HL.1 HGl.1 HSl.1 HEc.1 HC8.1 hN32 HE.1 (HO.1) (by have:=hzr;omega) (Nat.le_of_eq HGe.1) HB8.1 HO8.1 hsame hs89 hx9' hB19 (fun k hk=>HLt.1 k hk) HGe.1
       ·have hnl:m-1<x.es.length:=by omega
        obtain⟨n,hn⟩:∃n,n=m-1:=⟨_,rfl⟩;rw[←hn]at hnl;have hmn:m=n+1:=by omega
        obtain⟨e,he0⟩:∃e,e=x.es[n]:=⟨_,rfl⟩;have hke:x.es[n]?=some e:=by rw[he0,QT hnl]
        obtain⟨b,off,hA,hbl,hcl⟩:=RdV.elem HR1.1.rows (fun y _=>RE.cells_len y) (by decide) hke;have hne:x.m.es≠ []:=fun h=>by
         have h2:x.m.es.length=0:=by rw[h];rfl
         unfold RX.m at h2;simp at h2;rw[h2]at hnl;simp at hnl
        have hlno:kX x.m.es=e.no:=by
         unfold kX RX.m;simp only[List.getLast?_eq_getElem?,QN,←hm,hmn,Zn,Jn,hke,Option.map_some,RE.m]
        have c1:w1.cell? ⟨b,off+n*3,none⟩=some (.int .i64 e.no):=by have h:=hcl 0 _ rfl;rw[Jw 3 n]at h;exact h
        have c32r:=c32;rw[hA]at c32r;obtain⟨last,hlast⟩:∃last,last=e.no:=⟨_,rfl⟩;rw[←hlast]at c1 hlno;obtain⟨q1,hq1⟩:∃q1,q1=!(grp==x.grp):=⟨_,rfl⟩;rw[hlno,show x.m.grp=x.grp from rfl]at hE0;have hneq:∀w,(binOp .neq 23 (.agg (grp.map b8).toArray) (.agg (x.grp.map b8).toArray)).run prog w= .ok (.bool q1) w:=fun w=>by
         rw[hq1];exact kz w 23 5 32 underlying23 underlying5 (fun _=>by kernel_rfl) _ _ HGl.1 HH.1.glen
        have hsi:(m:Int)-1=(n:Int):=by omega
        have hi1:(0:Int)≤(n:Int):=by omega
        have hi2:(n:Int)<(m:Int):=by omega
        have hi3:n<m:=by omega
        have hi4:0<m:=by omega
        have hmI:(m:Int)>0:=by omega
        have hiw:IntKind.i64.wrap (n:Int)=(n:Int):=Jc _ (by have:=HH4.1;omega);have hr1:w1.rangeAt (w.heap.size+1) 0 (grp.map b8):=HA1.1.whole;have hr2:w1.rangeAt w.heap.size 0 (x.grp.map b8):=by have h:=HX1.1;rw[HCe.1]at h;exact qhP HH.1.glen w1 w.heap.size _ h
        have hi32:(prog.info? 23).map (·.size)=some (grp.map b8).length:=by rw[QN,HGl.1];exact jy
        have hi33:(prog.info? 23).map (·.size)=some (x.grp.map b8).length:=by rw[QN,HH.1.glen];exact jy
        have Hr1:=qe hr1;have Hr2:=qe hr2;have Hi32:=qe hi32;have Hi33:=qe hi33;have HE0:=qe hE0;have HQ1:=qe hq1;have HNe:=qe hne;have C32:=qe c32;clear hE hE0 hclr hsd hm he hn hmn he0 hke hA hcl hbl hlno hlast hq1 hr1 hr2 hi32 hi33 hne c32;cases q1 with
        |true=>
         have hgn:grp≠x.grp:=fun e=>by have h5:=HQ1.1;rw[e]at h5;simp at h5
         have hE6:E=6:=by have h5:=HE0.1;rw[if_pos ⟨HNe.1,.inl hgn⟩]at h5;exact h5
         subst hE6;have HE:=qe HEe.1.symm;clear hgn;go_enter func11,ntmps11
         go_upto_region 1 with fail
         have hw1:=HW1.1;simp only[jX]at hw1;rw[←hw1];clear hw1;go_upto_region 3 with fail
         go_wp2_with fail
         refine HSo.1.mono ?_;rintro e w3 ⟨rfl,rfl⟩;have tok1:True:=trivial;have tok2:True:=trivial;go_upto_region 7 with(first
          |(have _t:=tok1;refine jA (by rfl) 23 (.tmp 7) rfl (w.heap.size+1) 0 rfl (grp.map b8) _ Hr1.1 underlying23 rfl Hi32.1 ?_;clear tok1 _t)
          |(have _t:=tok2;refine jA (by rfl) 23 (.tmp 49) rfl w.heap.size 0 rfl (x.grp.map b8) _ Hr2.1 underlying23 rfl Hi33.1 ?_;clear tok2 _t))
         go_wp2_with (first
          |(refine wpList_load_mid rfl 34 (.tmp 6) rfl w.heap.size 0 rfl C _ HX1.1.whole underlying34 rfl (by rw[HCl.1];exact qt) ?_)
          |(refine qi rfl 34 (.tmp 12) (.tmp 65) rfl (w.heap.size+3) 0 rfl C rfl 34 _ [] jd [] HZ1.1 (by simp) rfl (by rw[HCl.1];rfl) (by rw[HCl.1];exact qt) HC1.1 ?_;intro w4 hx4 hg4;have HX4:=qe (show Blk w4 (w.heap.size+3) 34 C from hx4.cast (by simp));have HB4:=qe (HB1.1.grown hg4 HB1.1.size (fun k e=>by cases e;omega));have HR4:=qe (HR1.1.grown hg4 (fun hm=>by have:=HLt.1 _ hm;omega));clear hx4 hg4))
         refine bodyPost_ret (v:= .tuple #[.agg C.toArray,.int .i64 6]) (qu (g:=w.heap.size+3) rfl _ _ _ _ _ _ rfl rfl HX4.1 underlying34 rfl (by rw[HCl.1];exact qt)) rfl ?_;exact⟨x,by rw[HCe.1];rfl,(jx (by rw[HE.1];decide)).symm,HR4.1,fun k hk=> .inl hk,HB4.1⟩
        |false=>
         have hge:grp=x.grp:=by have h5:=HQ1.1;simpa using h5
         by_cases hle:no≤last
         ·have hE6:E=6:=by have h5:=HE0.1;rw[if_pos ⟨HNe.1,.inr hle⟩]at h5;exact h5
          subst hE6;have HE:=qe HEe.1.symm;clear hge;go_enter func11,ntmps11
          go_upto_region 1 with fail
          have hw1:=HW1.1;simp only[jX]at hw1;rw[←hw1];clear hw1;go_upto_region 3 with fail
          go_wp2_with fail
          refine HSo.1.mono ?_;rintro e w3 ⟨rfl,rfl⟩;have tok1:True:=trivial;have tok2:True:=trivial;go_upto_region 7 with(first
           |(have _t:=tok1;refine jA (by rfl) 23 (.tmp 7) rfl (w.heap.size+1) 0 rfl (grp.map b8) _ Hr1.1 underlying23 rfl Hi32.1 ?_;clear tok1 _t)
           |(have _t:=tok2;refine jA (by rfl) 23 (.tmp 49) rfl w.heap.size 0 rfl (x.grp.map b8) _ Hr2.1 underlying23 rfl Hi33.1 ?_;clear tok2 _t))
          go_wp2_with (first
           |(refine wpList_load_mid rfl 34 (.tmp 6) rfl w.heap.size 0 rfl C _ HX1.1.whole underlying34 rfl (by rw[HCl.1];exact qt) ?_)
           |(refine qi rfl 34 (.tmp 12) (.tmp 65) rfl (w.heap.size+3) 0 rfl C rfl 34 _ [] jd [] HZ1.1 (by simp) rfl (by rw[HCl.1];rfl) (by rw[HCl.1];exact qt) HC1.1 ?_;intro w4 hx4 hg4;have HX4:=qe (show Blk w4 (w.heap.size+3) 34 C from hx4.cast (by simp));have HB4:=qe (HB1.1.grown hg4 HB1.1.size (fun k e=>by cases e;omega));have HR4:=qe (HR1.1.grown hg4 (fun hm=>by have:=HLt.1 _ hm;omega));clear hx4 hg4))
          refine bodyPost_ret (v:= .tuple #[.agg C.toArray,.int .i64 6]) (qu (g:=w.heap.size+3) rfl _ _ _ _ _ _ rfl rfl HX4.1 underlying34 rfl (by rw[HCl.1];exact qt)) rfl ?_;exact⟨x,by rw[HCe.1];rfl,(jx (by rw[HE.1];decide)).symm,HR4.1,fun k hk=> .inl hk,HB4.1⟩
         ·have hE6:E=0:=by have h5:=HE0.1;rw[if_neg (by rintro⟨-,h6|h6⟩;exact h6 hge;exact hle h6)]at h5;exact h5
          subst hE6;clear hge;go_enter func11,ntmps11
          go_upto_region 1 with fail
          have hw1:=HW1.1;simp only[jX]at hw1;rw[←hw1];clear hw1;go_upto_region 3 with fail
          go_wp2_with fail
          refine HSo.1.mono ?_;rintro e w3 ⟨rfl,rfl⟩;have tok1:True:=trivial;have tok2:True:=trivial;go_upto_region 8 with(first
           |(have _t:=tok1;refine jA (by rfl) 23 (.tmp 7) rfl (w.heap.size+1) 0 rfl (grp.map b8) _ Hr1.1 underlying23 rfl Hi32.1 ?_;clear tok1 _t)
           |(have _t:=tok2;refine jA (by rfl) 23 (.tmp 49) rfl w.heap.size 0 rfl (x.grp.map b8) _ Hr2.1 underlying23 rfl Hi33.1 ?_;clear tok2 _t))
          have c32:=C32.1;clear hneq c32r c1 hsi hi1 hi2 hi3 hi4 hiw;have hmle:m≤4:=by have h1:=HHm.1;have h2:=HH4.1;omega
          have HE:=qe HEe.1.symm;go_upto_region 9 with fail
          obtain⟨w2,hw2⟩:∃w2,w2=w1.alloc (.cells #[.int .i64 no,.int .i64 (lf:Int),.slice none 0 0] 85):=⟨_,rfl⟩;rw[←hw2];have HP2:=qe (show Blk w2 (w.heap.size+4) 85 [.int .i64 no,.int .i64 (lf:Int),.slice none 0 0] by rw[hw2];exact Blk.at_size _ [.int .i64 no,.int .i64 (lf:Int),.slice none 0 0] hz1);have HB2:=qe (show Below (w.heap.size+4) w1 w2 by rw[hw2];exact(QK _ w1).alloc (by omega) _)
          have hz2:w.heap.size+5≤w2.heap.size:=by rw[hw2,QQ];omega
          clear hw2;go_upto_region 10 with fail
          go_loopw [16] (fun iv wr=>∃(j:Nat) (A:Option Addr) (c:Nat),iv= .int .i64 (j:Int)∧j≤N∧Blk wr (w.heap.size+4) 85 [.int .i64 no,.int .i64 (lf:Int),.slice A j c]∧wr.ownsRow (w.heap.size+5) 89 36 (.slice A j c) j (((Q6 j).map (fun i=>zM (vr N i s))).flatMap RL.cells)∧Below (w.heap.size+4) w1 wr∧w.heap.size+5≤wr.heap.size) (fun iv _=>N-(intOf iv).toNat)
          case atStart=>exact⟨0,none,0,rfl,Nat.zero_le _,HP2.1,ownsRow_nil _ _ _ _,HB2.1,hz2⟩
          case round=>
           clear HP2 HB2 hz2;obtain⟨j,A,c,rfl,hj,hp,hown,hb,hzr⟩:=hrel;have HP:=qe hp;have HO:=qe hown;have HB:=qe hb;clear hp hown hb;by_cases hlt:j<N
           ·have hja:(j:Int)<(N:Int):=by omega
            obtain⟨z,hz⟩:∃z,z=vr N j s:=⟨_,rfl⟩;obtain⟨Z,hZ⟩:∃Z,Z=s.map b8:=⟨_,rfl⟩;have hlf:=qdh wr.drew s HSl.1 N j hN32 (by omega);rw[qn,qn,←hz,←hZ]at hlf;have HLf:=qe hlf;have HZl:=qe (show z.length=32 by rw[hz];exact uo _ _ _ _ HSl.1);have HZe:=qe hz;have HZs:=qe hZ;have hbz:=qbu z HZl.1;have HCl2:=qe (show(zM z).cells.length=36 from jS HZl.1)
            have HC12:=qe (show∀u∈ (zM z).cells,u.oneCell'=true from vX rfl rfl);obtain⟨Cz,hCz⟩:∃Cz,Cz=(zM z).cells:=⟨_,rfl⟩;rw[←hCz]at hbz HCl2 HC12;have HCz:=qe hCz;have hu:=underlying23;have hi32:(prog.info? 23).map (·.size)=some Z.length:=by rw[hZ,QN,HSl.1];exact jy
            obtain⟨il,hil,hlz,hls,hlb⟩:=info_parts qcC;have hS:wr.drew.rangeAt (w.heap.size+2) 0 Z∧wr.drew.cell? ⟨w.heap.size+4,2,none⟩=some (.slice A j c)∧True:=⟨by rw[hZ];exact(HA2.1.below HB.1 (by omega)).whole,HP.1.cell 2 rfl,trivial⟩;clear hlf hz hZ hCz;go_upto_region 12 with fail
            refine jr (by kernel_rfl) (fun w'=>w'.rangeAt (w.heap.size+2) 0 Z∧w'.cell? ⟨w.heap.size+4,2,none⟩=some (.slice A j c)∧True) 10 ?_;refine puB 0 (.pointer (some ⟨w.heap.size+4,2,none⟩)) hS ?_;refine tkB 1 (.slice A j c) hS ?_;refine tkL 2 (.agg Z.toArray) rfl rfl (yieldsIf_load_mid (by rfl) 23 (.tmp 9) rfl (w.heap.size+2) 0 rfl Z _ (fun _ h=>h.1) hu rfl hi32) hS ?_;try simp only[QJ,qj,qz,qv]
            refine puB 3 (.int .i64 (N:Int)) hS ?_;refine puB 4 (.int .i64 (j:Int)) hS ?_;try simp only[QJ,qj,qz,qv]
            refine onY 5 (fun K' hK=>?_);go_simp;go_at_call 32;refine HLf.1.mono ?_;rintro e w5 ⟨rfl,hb5⟩;have hB5:Below wr.heap.size wr w5:=(QK wr.heap.size wr).drew.trans hb5;have HP5:=qe (HP.1.below hB5 (by omega));have HB5:=qe (HB.1.trans (hB5.mono (by omega)));have HO5:=qe (jz HO.1 hB5 (QI _));have hz5:=hB5.size;have hS5:w5.rangeAt (w.heap.size+2) 0 Z∧w5.cell? ⟨w.heap.size+4,2,none⟩=some (.slice A j c)∧True:=⟨by rw[HZs.1];exact(HA2.1.below HB5.1 (by omega)).whole,HP5.1.cell 2 rfl,trivial⟩
            clear hb5 hB5 HLf hS;refine hK _ _ (fun _=>hS5) ?_;clear hK K';try simp only[QJ,qj,qz,qv]
            have hS:=hS5;clear hS5;refine puY 6 (.agg Cz.toArray) ?_ hS ?_
            ·intro w' hw'
             exact zn rfl _ rfl hbz w'
            try simp only[QJ,qj,qz,qv]
            refine onY 7 (fun K' hK=>?_);refine jP rfl 83 89 (.tmp 80) rfl il (.agg (jp (QL 32 0#8) 0 (.slice none 0 0) (.slice none 0 0) 0).toArray) 36 Cz.toArray rfl (by simpa using HCl2.1) (by decide) (by decide) underlying83 hil hlz hls rfl ?_;have HO6:=qe (jz HO5.1 ((QK w5.heap.size w5).alloc (QI _) (.cells Cz.toArray 89)) (QI _))
            have HB6:=qe (HB5.1.alloc (by omega) (.cells Cz.toArray 89));have HP6:=qe (HP5.1.alloc (.cells Cz.toArray 89));have hS6:(w5.alloc (.cells Cz.toArray 89)).rangeAt (w.heap.size+2) 0 Z∧(w5.alloc (.cells Cz.toArray 89)).cell? ⟨w.heap.size+4,2,none⟩=some (.slice A j c)∧True:=⟨by rw[HZs.1];exact(HA2.1.below HB6.1 (by omega)).whole,HP6.1.cell 2 rfl,trivial⟩;refine hK _ _ (fun _=>hS6) ?_
            clear hK K';try simp only[QJ,qj,qz,qv]
            refine onY 8 (fun K' hK=>?_);refine jH rfl (.tmp 75) (.tmp 81) 83 rfl 36 (by decide) (w.heap.size+5) 89 il (.agg (jp (QL 32 0#8) 0 (.slice none 0 0) (.slice none 0 0) 0).toArray) 96 underlying83 hil hlz hls hlb rfl _ j _ rfl HO6.1 (w5.heap.size+1) (some ⟨w5.heap.size,0,none⟩) 1 1 Cz rfl (by rw[HCl2.1]) (by decide) (vJ w5 89 Cz) HC12.1 (by unfold maxLen;omega) (by omega) (by rw[QQ];omega) ?_
            intro v7 w7 hown7 hg7 hbb7;obtain⟨A7,c7,rfl,-⟩:=qX hown7;have HB7:=qe (hbb7 (w.heap.size+4) w1 (by omega) HB6.1);have HP7:=qe (show Blk w7 (w.heap.size+4) 85 [.int .i64 no,.int .i64 (lf:Int),.slice A j c]from HP6.1.below (hbb7 (w.heap.size+5) _ (QI _) (QK _ _)) (by omega));have HO7:=qe hown7;have hz7:w5.heap.size+1≤w7.heap.size:=by have:=(hbb7 (w.heap.size+5) _ (QI _) (QK _ _)).size;rwa[QQ]at this
            have c72:=HP7.1.cell 2 rfl;have f72:=HP7.1.frozen 2;have hS7:w7.rangeAt (w.heap.size+2) 0 Z∧w7.cell? ⟨w.heap.size+4,2,none⟩=some (.slice A j c)∧True:=⟨by rw[HZs.1];exact(HA2.1.below HB7.1 (by omega)).whole,c72,trivial⟩;clear hown7 hg7 hbb7 hS hS6;refine hK _ _ (fun _=>hS7) ?_;clear hK K';try simp only[QJ,qj,qz,qv]
            have hS:=hS7;clear hS7;refine puB 9 (.pointer (some ⟨w.heap.size+4,2,none⟩)) hS ?_;try simp only[QJ,qj,qz,qv]
            refine onY 10 (fun K' hK=>?_);go_simp;refine hK _ _ (fun h=>absurd rfl h) (jq (by kernel_rfl) ?_ _);clear hK K' c72 f72 hS;have HP8:=qe ((HP7.1.set_ 2 (.slice A7 (j+1) c7)).cast rfl);have HO8:=qe (show(w7.setCell ⟨w.heap.size+4,2,none⟩ (.slice A7 (j+1) c7)).ownsRow (w.heap.size+5) 89 36 (.slice A7 (j+1) c7) (j+1) (((Q6 (j+1)).map (fun i=>zM (vr N i s))).flatMap RL.cells) by
             rw[JU,Q9,JG,List.map_singleton,ZC,←HZe.1,←HCz.1];exact ownsRow_setCell_below HO7.1 (by show w.heap.size+4<w.heap.size+5;omega) _)
            have HB8:=qe (HB7.1.setCell (p:=⟨w.heap.size+4,2,none⟩) (QI _) (.slice A7 (j+1) c7));have hz8:w.heap.size+5≤(w7.setCell ⟨w.heap.size+4,2,none⟩ (.slice A7 (j+1) c7)).heap.size:=by simp[World.setCell];omega
            clear HP HO HB HP5 HB5 HO5 HO6 HB6 HP6 HB7 HP7 HO7;go_wp2_with fail
            go_roundw
            case rel=>exact⟨j+1,A7,c7,by go_num,by omega,HP8.1,HO8.1,HB8.1,hz8⟩
            case measure=>simp[intOf]<;>omega
           ·obtain rfl:N=j:=by omega
            have hja:¬((N:Int)<(N:Int)):=by omega
            go_upto_region 13 with fail
            go_upto_region 14 with(first
             |(refine qm rfl 23 (.tmp 7) rfl (w.heap.size+1) rfl _ grp (HA1.1.below HB.1 (by omega)) _ underlying23 rfl (by rw[HGl.1];exact jy) ?_)
             |(refine jh rfl 34 [(0,.tmp 84)] rfl (zw grp (.slice none 0 0) false).toArray [(0,.agg (grp.map b8).toArray)] rfl (qdg grp HGl.1) ?_)
             |(refine qi rfl 34 (.tmp 17) (.tmp 85) rfl wr.heap.size 0 rfl (zw grp (.slice none 0 0) false) rfl 34 _ [] jd [] (Blk.new wr _ jd) (by simp) rfl (by rw[j8 HGl.1];rfl) (by rw[j8 HGl.1];exact qt) (zI rfl) ?_;intro w3 hx3 hg3))
            try simp only[QJ,qj,qz,qv]
            obtain⟨wq,rfl⟩:∃wq,wq=wr:=⟨_,rfl⟩;obtain⟨G,hG⟩:∃G,G=wq.heap.size:=⟨_,rfl⟩;have HG3:=qe (show Blk w3 G 34 (zw grp (.slice none 0 0) false) by rw[hG];exact hx3.cast (by simp));have HB3:=qe (show Below G wq w3 from((QK _ wq).alloc (by omega) (.cells jd.toArray 34)).grown hg3 (by rw[QQ];omega) (fun k e=>by cases e;omega));have hz3:G+1≤w3.heap.size:=by have:=hg3.size;rw[QQ]at this;omega
            have hGz:w.heap.size+5≤G:=by omega
            have HGe:=qe hG;rw[←hG];clear hx3 hg3 hG;go_upto_region 15 with fail
            go_loopw [18] (fun iv wr=>∃(k:Nat) (A2:Option Addr) (c2:Nat),iv= .int .i64 (k:Int)∧k≤m∧Blk wr G 34 (zw grp (.slice A2 (ja m x.es k).length c2) false)∧wr.ownsRow (G+1) 85 3 (.slice A2 (ja m x.es k).length c2) (ja m x.es k).length ((ja m x.es k).flatMap RE.cells)∧Below G wq wr∧G+1≤wr.heap.size) (fun iv _=>m-(intOf iv).toNat)
            case atStart=>exact⟨0,none,0,rfl,Nat.zero_le _,by rw[kG];exact HG3.1,by rw[kG];exact ownsRow_nil _ _ _ _,HB3.1,hz3⟩
            case round=>
             clear HG3 HB3 hz3;obtain⟨k,A2,c2,rfl,hk,hgb,hrow,hbx,hzx⟩:=hrel;obtain⟨L,hL⟩:∃L,L=(ja m x.es k).length:=⟨_,rfl⟩;rw[←hL]at hgb hrow;have hL4:L≤4:=by have:=qfk m x.es k;have:=HH4.1;omega
             have HGb:=qe hgb;have HRo:=qe hrow;have HBx:=qe hbx;have HB9:=qe (HB.1.trans (hbx.mono (by omega)));have HL:=qe hL;clear hgb hrow hbx hL;by_cases hlt2:k<m
             ·have hkx:k<x.es.length:=by rw[←HHm.1];exact hlt2
              obtain⟨e,he0⟩:∃e,e=x.es[k]:=⟨_,rfl⟩;have hke:x.es[k]?=some e:=by rw[he0,QT hkx]
              obtain⟨b,off,hA,hbl,hcl⟩:=RdV.elem HR1.1.rows (fun y _=>RE.cells_len y) (by decide) hke;have hbw:b<w.heap.size:=HLt.1 b (by unfold RX.foot;rw[hA];simp[j7]);obtain⟨ec,hec⟩:∃ec,ec=e.cells:=⟨_,rfl⟩;rw[←hec]at hcl;have hel:ec.length=3:=by rw[hec];rfl
              have hsz1:=HB1.1.size;have hrg:wr.drew.rangeAt b (off+k*3) ec:=fun j u hu=>by
               have h:=hcl j u hu;rw[Jw 3 k]at h;exact(HB9.1.cell (p:=⟨b,off+k*3+j,none⟩) (by show b<_;omega)).trans h
              have hcx:wr.drew.cell? ⟨w.heap.size,32,none⟩=some (.slice (some ⟨b,off,none⟩) m x.c):=by
               rw[←hA];exact(HB9.1.cell (p:=⟨w.heap.size,32,none⟩) (by show w.heap.size<_;omega)).trans c32
              have hcg:wr.drew.cell? ⟨G,32,none⟩=some (.slice A2 L c2):=HGb.1.cell 32 (jG HGl.1);have hlk:(k:Int)<(m:Int):=by omega
              have hi1:(0:Int)≤(k:Int):=by omega
              have HKe:=qe hke;have HEc:=qe hec;have HEl:=qe hel;have HAx:=qe hA;have Hrg:=qe hrg;have Hcx:=qe hcx;have Hcg:=qe hcg;have Hcl:=qe hcl;clear he0 hke hA hec hel hrg hcx hcg hcl;by_cases hm4:m<4
              ·have hm4i:(m:Int)<4:=by omega
               have hkp:m<4∨0<k:= .inl hm4;go_upto_region 17 with fail
               go_upto_region 18 with fail
               have hS:wr.drew.cell? ⟨G,32,none⟩=some (.slice A2 L c2)∧wr.drew.cell? ⟨w.heap.size,32,none⟩=some (.slice (some ⟨b,off,none⟩) m x.c)∧wr.drew.rangeAt b (off+k*3) ec:=⟨Hcg.1,Hcx.1,Hrg.1⟩;obtain⟨ie,hie,hez,hes,heb⟩:=info_parts vT;have hu:=underlying85;have hi3:(prog.info? 85).map (·.size)=some ec.length:=by rw[HEl.1];exact vc
               have hiw:IntKind.i64.wrap (k:Int)=(k:Int):=Jc _ (by omega);refine jr (by kernel_rfl) (fun w'=>w'.cell? ⟨G,32,none⟩=some (.slice A2 L c2)∧w'.cell? ⟨w.heap.size,32,none⟩=some (.slice (some ⟨b,off,none⟩) m x.c)∧w'.rangeAt b (off+k*3) ec) 10 ?_;refine puB 0 (.pointer (some ⟨G,32,none⟩)) hS ?_;refine tkB 1 (.slice A2 L c2) hS ?_;refine puB 2 (.pointer (some ⟨w.heap.size,32,none⟩)) hS ?_
               try simp only[QJ,qj,qz,qv]
               refine tkB 3 (.slice (some ⟨b,off,none⟩) m x.c) hS ?_;refine puB 4 (.int .i64 (k:Int)) hS ?_;refine puB 5 (.pointer (some ⟨b,off+k*3,none⟩)) hS ?_;try simp only[QJ,qj,qz,qv]
               refine tkL 6 (.agg ec.toArray) rfl rfl (yieldsIf_load_mid (by rfl) 85 (.tmp 102) rfl b (off+k*3) rfl ec _ (fun _ h=>h.2.2) hu rfl hi3) hS ?_;try simp only[QJ,qj,qz,qv]
               refine onY 7 (fun K' hK=>?_);refine jP rfl 32 85 (.tmp 103) rfl ie (.agg #[.int .i64 0,.int .i64 0,.slice none 0 0]) 3 ec.toArray rfl (by simpa using HEl.1) (by decide) (by decide) underlying32 hie hez hes rfl ?_;have HBa:=qe (show Below (G+1) wr (wr.drew.alloc (.cells ec.toArray 85))from(QK (G+1) wr).drew.alloc (by show G+1≤wr.heap.size;omega) _);have HRa:=qe (show(wr.drew.alloc (.cells ec.toArray 85)).ownsRow (G+1) 85 3 (.slice A2 L c2) L ((ja m x.es k).flatMap RE.cells)from jz HRo.1 ((QK wr.heap.size wr).drew.alloc (QI _) (.cells ec.toArray 85)) (QI _))
               have HGa:=qe (show Blk (wr.drew.alloc (.cells ec.toArray 85)) G 34 _ from HGb.1.drew.alloc (.cells ec.toArray 85));have hSa:(wr.drew.alloc (.cells ec.toArray 85)).cell? ⟨G,32,none⟩=some (.slice A2 L c2)∧(wr.drew.alloc (.cells ec.toArray 85)).cell? ⟨w.heap.size,32,none⟩=some (.slice (some ⟨b,off,none⟩) m x.c)∧(wr.drew.alloc (.cells ec.toArray 85)).rangeAt b (off+k*3) ec:=
                ⟨HGa.1.cell 32 (jG HGl.1),(HBa.1.cell (p:=⟨w.heap.size,32,none⟩) (by show w.heap.size<_;omega)).trans Hcx.1,fun j u hu=>(HBa.1.cell (p:=⟨b,off+k*3+j,none⟩) (by show b<_;omega)).trans (Hrg.1 j u hu)⟩
               refine hK _ _ (fun _=>hSa) ?_;clear hK K';try simp only[QJ,qj,qz,qv]
               refine onY 8 (fun K' hK=>?_);refine jH rfl (.tmp 98) (.tmp 104) 32 rfl 3 (by decide) (G+1) 85 ie (.agg #[.int .i64 0,.int .i64 0,.slice none 0 0]) 40 underlying32 hie hez hes heb rfl _ L _ rfl HRa.1 (wr.drew.heap.size+1) (some ⟨wr.drew.heap.size,0,none⟩) 1 1 ec rfl (by rw[HEl.1]) (by decide) (vJ wr.drew 85 ec) (by rw[HEc.1];exact RE.cells_one e) (by unfold maxLen;omega) (by omega) (by rw[QQ];show G+1≤wr.heap.size+1;omega) ?_
               intro v7 w7 hown7 hg7 hbb7;obtain⟨A7,c7,rfl,-⟩:=qX hown7;have HB7:=qe (hbb7 (G+1) _ (QI _) HBa.1);have HG7:=qe (show Blk w7 G 34 (zw grp (.slice A2 L c2) false)from HGa.1.below (hbb7 (G+1) _ (QI _) (QK _ _)) (by omega));have HO7:=qe hown7;have c7g:=HG7.1.cell 32 (jG HGl.1);have f7g:=HG7.1.frozen 32;have hS7:w7.cell? ⟨G,32,none⟩=some (.slice A2 L c2)∧w7.cell? ⟨w.heap.size,32,none⟩=some (.slice (some ⟨b,off,none⟩) m x.c)∧w7.rangeAt b (off+k*3) ec:=
                ⟨c7g,(HB7.1.cell (p:=⟨w.heap.size,32,none⟩) (by show w.heap.size<_;omega)).trans Hcx.1,fun j u hu=>(HB7.1.cell (p:=⟨b,off+k*3+j,none⟩) (by show b<_;omega)).trans (Hrg.1 j u hu)⟩
               clear hown7 hg7 hbb7 hS hSa;refine hK _ _ (fun _=>hS7) ?_;clear hK K';try simp only[QJ,qj,qz,qv]
               have hS:=hS7;clear hS7;refine puB 9 (.pointer (some ⟨G,32,none⟩)) hS ?_;try simp only[QJ,qj,qz,qv]
               refine onY 10 (fun K' hK=>?_);go_simp;refine hK _ _ (fun h=>absurd rfl h) (jq (by kernel_rfl) ?_ _);clear hK K' c7g f7g hS;have hks:ja m x.es (k+1)=ja m x.es k++ [e]:=qaO HKe.1 hkp;have HG8:=qe (show Blk (w7.setCell ⟨G,32,none⟩ (.slice A7 (L+1) c7)) G 34 (zw grp (.slice A7 (ja m x.es (k+1)).length c7) false)from(HG7.1.set_ 32 _).cast (by rw[vS HGl.1,hks,QO,←HL.1];rfl))
               have HO8:=qe (show(w7.setCell ⟨G,32,none⟩ (.slice A7 (L+1) c7)).ownsRow (G+1) 85 3 (.slice A7 (ja m x.es (k+1)).length c7) (ja m x.es (k+1)).length ((ja m x.es (k+1)).flatMap RE.cells) by
                rw[hks,QO,JG,ZC,←HL.1,←HEc.1];exact ownsRow_setCell_below HO7.1 (by show G<G+1;omega) _)
               have HB8:=qe (show Below G wq (w7.setCell ⟨G,32,none⟩ (.slice A7 (L+1) c7))from(HBx.1.trans (HB7.1.mono (by omega))).setCell (QI _) _);have hz8:G+1≤(w7.setCell ⟨G,32,none⟩ (.slice A7 (L+1) c7)).heap.size:=by have:=HB7.1.size;simp[World.setCell];omega
               clear hks HGb HRo HBx HB9 HBa HRa HGa HB7 HG7 HO7;go_wp2_with fail
               go_roundw
               case rel=>exact⟨k+1,A7,c7,by go_num,by omega,HG8.1,HO8.1,HB8.1,hz8⟩
               case measure=>simp[intOf]<;>omega
              ·have hm4i:¬((m:Int)<4):=by omega
               by_cases hk0:0<k
               ·have hk0i:(k:Int)>0:=by omega
                have hkp:m<4∨0<k:= .inr hk0;go_upto_region 17 with fail
                go_upto_region 18 with fail
                have hS:wr.drew.cell? ⟨G,32,none⟩=some (.slice A2 L c2)∧wr.drew.cell? ⟨w.heap.size,32,none⟩=some (.slice (some ⟨b,off,none⟩) m x.c)∧wr.drew.rangeAt b (off+k*3) ec:=⟨Hcg.1,Hcx.1,Hrg.1⟩;obtain⟨ie,hie,hez,hes,heb⟩:=info_parts vT;have hu:=underlying85;have hi3:(prog.info? 85).map (·.size)=some ec.length:=by rw[HEl.1];exact vc
                have hiw:IntKind.i64.wrap (k:Int)=(k:Int):=Jc _ (by omega);refine jr (by kernel_rfl) (fun w'=>w'.cell? ⟨G,32,none⟩=some (.slice A2 L c2)∧w'.cell? ⟨w.heap.size,32,none⟩=some (.slice (some ⟨b,off,none⟩) m x.c)∧w'.rangeAt b (off+k*3) ec) 10 ?_;refine puB 0 (.pointer (some ⟨G,32,none⟩)) hS ?_;refine tkB 1 (.slice A2 L c2) hS ?_;refine puB 2 (.pointer (some ⟨w.heap.size,32,none⟩)) hS ?_
                try simp only[QJ,qj,qz,qv]
                refine tkB 3 (.slice (some ⟨b,off,none⟩) m x.c) hS ?_;refine puB 4 (.int .i64 (k:Int)) hS ?_;refine puB 5 (.pointer (some ⟨b,off+k*3,none⟩)) hS ?_;try simp only[QJ,qj,qz,qv]
                refine tkL 6 (.agg ec.toArray) rfl rfl (yieldsIf_load_mid (by rfl) 85 (.tmp 102) rfl b (off+k*3) rfl ec _ (fun _ h=>h.2.2) hu rfl hi3) hS ?_;try simp only[QJ,qj,qz,qv]
                refine onY 7 (fun K' hK=>?_);refine jP rfl 32 85 (.tmp 103) rfl ie (.agg #[.int .i64 0,.int .i64 0,.slice none 0 0]) 3 ec.toArray rfl (by simpa using HEl.1) (by decide) (by decide) underlying32 hie hez hes rfl ?_;have HBa:=qe (show Below (G+1) wr (wr.drew.alloc (.cells ec.toArray 85))from(QK (G+1) wr).drew.alloc (by show G+1≤wr.heap.size;omega) _);have HRa:=qe (show(wr.drew.alloc (.cells ec.toArray 85)).ownsRow (G+1) 85 3 (.slice A2 L c2) L ((ja m x.es k).flatMap RE.cells)from jz HRo.1 ((QK wr.heap.size wr).drew.alloc (QI _) (.cells ec.toArray 85)) (QI _))
                have HGa:=qe (show Blk (wr.drew.alloc (.cells ec.toArray 85)) G 34 _ from HGb.1.drew.alloc (.cells ec.toArray 85));have hSa:(wr.drew.alloc (.cells ec.toArray 85)).cell? ⟨G,32,none⟩=some (.slice A2 L c2)∧(wr.drew.alloc (.cells ec.toArray 85)).cell? ⟨w.heap.size,32,none⟩=some (.slice (some ⟨b,off,none⟩) m x.c)∧(wr.drew.alloc (.cells ec.toArray 85)).rangeAt b (off+k*3) ec:=
                 ⟨HGa.1.cell 32 (jG HGl.1),(HBa.1.cell (p:=⟨w.heap.size,32,none⟩) (by show w.heap.size<_;omega)).trans Hcx.1,fun j u hu=>(HBa.1.cell (p:=⟨b,off+k*3+j,none⟩) (by show b<_;omega)).trans (Hrg.1 j u hu)⟩
                refine hK _ _ (fun _=>hSa) ?_;clear hK K';try simp only[QJ,qj,qz,qv]
                refine onY 8 (fun K' hK=>?_);refine jH rfl (.tmp 98) (.tmp 104) 32 rfl 3 (by decide) (G+1) 85 ie (.agg #[.int .i64 0,.int .i64 0,.slice none 0 0]) 40 underlying32 hie hez hes heb rfl _ L _ rfl HRa.1 (wr.drew.heap.size+1) (some ⟨wr.drew.heap.size,0,none⟩) 1 1 ec rfl (by rw[HEl.1]) (by decide) (vJ wr.drew 85 ec) (by rw[HEc.1];exact RE.cells_one e) (by unfold maxLen;omega) (by omega) (by rw[QQ];show G+1≤wr.heap.size+1;omega) ?_
                intro v7 w7 hown7 hg7 hbb7;obtain⟨A7,c7,rfl,-⟩:=qX hown7;have HB7:=qe (hbb7 (G+1) _ (QI _) HBa.1);have HG7:=qe (show Blk w7 G 34 (zw grp (.slice A2 L c2) false)from HGa.1.below (hbb7 (G+1) _ (QI _) (QK _ _)) (by omega));have HO7:=qe hown7;have c7g:=HG7.1.cell 32 (jG HGl.1);have f7g:=HG7.1.frozen 32;have hS7:w7.cell? ⟨G,32,none⟩=some (.slice A2 L c2)∧w7.cell? ⟨w.heap.size,32,none⟩=some (.slice (some ⟨b,off,none⟩) m x.c)∧w7.rangeAt b (off+k*3) ec:=
                 ⟨c7g,(HB7.1.cell (p:=⟨w.heap.size,32,none⟩) (by show w.heap.size<_;omega)).trans Hcx.1,fun j u hu=>(HB7.1.cell (p:=⟨b,off+k*3+j,none⟩) (by show b<_;omega)).trans (Hrg.1 j u hu)⟩
                clear hown7 hg7 hbb7 hS hSa;refine hK _ _ (fun _=>hS7) ?_;clear hK K';try simp only[QJ,qj,qz,qv]
                have hS:=hS7;clear hS7;refine puB 9 (.pointer (some ⟨G,32,none⟩)) hS ?_;try simp only[QJ,qj,qz,qv]
                refine onY 10 (fun K' hK=>?_);go_simp;refine hK _ _ (fun h=>absurd rfl h) (jq (by kernel_rfl) ?_ _);clear hK K' c7g f7g hS;have hks:ja m x.es (k+1)=ja m x.es k++ [e]:=qaO HKe.1 hkp;have HG8:=qe (show Blk (w7.setCell ⟨G,32,none⟩ (.slice A7 (L+1) c7)) G 34 (zw grp (.slice A7 (ja m x.es (k+1)).length c7) false)from(HG7.1.set_ 32 _).cast (by rw[vS HGl.1,hks,QO,←HL.1];rfl))
                have HO8:=qe (show(w7.setCell ⟨G,32,none⟩ (.slice A7 (L+1) c7)).ownsRow (G+1) 85 3 (.slice A7 (ja m x.es (k+1)).length c7) (ja m x.es (k+1)).length ((ja m x.es (k+1)).flatMap RE.cells) by
                 rw[hks,QO,JG,ZC,←HL.1,←HEc.1];exact ownsRow_setCell_below HO7.1 (by show G<G+1;omega) _)
                have HB8:=qe (show Below G wq (w7.setCell ⟨G,32,none⟩ (.slice A7 (L+1) c7))from(HBx.1.trans (HB7.1.mono (by omega))).setCell (QI _) _);have hz8:G+1≤(w7.setCell ⟨G,32,none⟩ (.slice A7 (L+1) c7)).heap.size:=by have:=HB7.1.size;simp[World.setCell];omega
                clear hks HGb HRo HBx HB9 HBa HRa HGa HB7 HG7 HO7;go_wp2_with fail
                go_roundw
                case rel=>exact⟨k+1,A7,c7,by go_num,by omega,HG8.1,HO8.1,HB8.1,hz8⟩
                case measure=>simp[intOf]<;>omega
               ·have hk0i:¬((k:Int)>0):=by omega
                go_wp2_with fail
                go_roundw
                case rel=>
                 have hkk:ja m x.es (k+1)=ja m x.es k:=by
                  have:k=0:=by omega
                  rw[this,qeq _ hm4,kG]
                 exact⟨k+1,A2,c2,by go_num,by omega,by rw[hkk,←HL.1];exact HGb.1,by rw[hkk,←HL.1];exact HRo.1,HBx.1,hzx⟩
                case measure=>simp[intOf]<;>omega
             ·obtain rfl:m=k:=by omega
              have hlk:¬((m:Int)<(m:Int)):=by omega
              go_upto_region 19 with fail
              obtain⟨ie,hie,hez,hes,heb⟩:=info_parts vT;obtain⟨ec,hec⟩:∃ec,ec=[QM .i64 no,.int .i64 (lf:Int),.slice A N c]:=⟨_,rfl⟩;have HPx:=qe (show Blk wr (w.heap.size+4) 85 ec by rw[hec];exact HP.1.below HBx.1 (by omega));have HEl:=qe (show ec.length=3 by rw[hec];rfl);have HE1:=qe (show∀u∈ec,u.oneCell'=true by rw[hec];intro u hu;simp only[Ja,JM,or_false]at hu;rcases hu with rfl|rfl|rfl<;>rfl)
              have HEc:=qe hec;have hcg:wr.cell? ⟨G,32,none⟩=some (.slice A2 L c2):=HGb.1.cell 32 (jG HGl.1);have HRb:=qe (jz HRo.1 ((QK wr.heap.size wr).alloc (QI _) (.cells ec.toArray 85)) (QI _));clear hec;have tokL:True:=trivial;have tokB:True:=trivial;have tokA:True:=trivial;go_upto_region 20 with(first
               |(have _t:=tokA;at_builtin;refine jD rfl _ _ 32 rfl 3 (by decide) (G+1) 85 ie (.agg #[.int .i64 0,.int .i64 0,.slice none 0 0]) 40 underlying32 hie hez hes heb rfl _ L _ rfl HRb.1 (wr.heap.size+1) (some ⟨wr.heap.size,0,none⟩) 1 1 ec rfl (by rw[HEl.1]) (by decide) (vJ wr 85 ec) HE1.1 (by unfold maxLen;omega) (by omega) (by rw[QQ];omega) ?_
                 intro v7 w7 hown7 hg7 hbb7;obtain⟨A7,c7,rfl,-⟩:=qX hown7;have HBa:=qe (show Below (G+1) wr (wr.alloc (.cells ec.toArray 85))from(QK (G+1) wr).alloc (by omega) _);have HB7:=qe (hbb7 (G+1) _ (QI _) HBa.1);have HG7:=qe (show Blk w7 G 34 (zw grp (.slice A2 L c2) false)from HGb.1.below HB7.1 (by omega));have HO7:=qe hown7;have c7g:=HG7.1.cell 32 (jG HGl.1)
                 have f7g:=HG7.1.frozen 32;clear hown7 hg7 hbb7 tokA _t)
               |(have _t:=tokL;refine wpList_load_mid rfl 85 (.tmp 15) rfl (w.heap.size+4) 0 rfl ec _ HPx.1.whole underlying85 rfl (by rw[HEl.1];exact vc) ?_;clear tokL _t)
               |(have _t:=tokB;refine qac rfl 32 85 (.tmp 109) rfl ie (.agg #[.int .i64 0,.int .i64 0,.slice none 0 0]) 3 ec.toArray rfl (by simpa using HEl.1) (by decide) (by decide) underlying32 hie hez hes rfl ?_;clear tokB _t))
              have HG8:=qe (show Blk (w7.setCell ⟨G,32,none⟩ (.slice A7 (L+1) c7)) G 34 (zw grp (.slice A7 (L+1) c7) false)from(HG7.1.set_ 32 _).cast (vS HGl.1 _));have HO8:=qe (show(w7.setCell ⟨G,32,none⟩ (.slice A7 (L+1) c7)).ownsRow (G+1) 85 3 (.slice A7 (L+1) c7) (L+1) ((ja m x.es m).flatMap RE.cells++ec)from ownsRow_setCell_below HO7.1 (by show G<G+1;omega) _);have HB8:=qe (show Below G wq (w7.setCell ⟨G,32,none⟩ (.slice A7 (L+1) c7))from(HBx.1.trans (HB7.1.mono (by omega))).setCell (QI _) _)
              obtain⟨w8,hw8⟩:∃w8,w8=w7.setCell ⟨G,32,none⟩ (.slice A7 (L+1) c7):=⟨_,rfl⟩;rw[←hw8]at HG8 HO8 HB8;rw[←hw8];have HBt:=qe (HB.1.trans (HB8.1.mono (by omega)));have HZ8:=qe (HZ1.1.below HBt.1 (by omega));obtain⟨C8,hC8⟩:∃C8,C8=zw grp (.slice A7 (L+1) c7) false:=⟨_,rfl⟩;rw[←hC8]at HG8;have HC8l:=qe (show C8.length=34 by rw[hC8];exact j8 HGl.1);have HC81:=qe (show∀u∈C8,u.oneCell'=true by rw[hC8];exact zI rfl)
              have HC8:=qe hC8;clear hw8 hC8 c7g f7g hcg;go_wp2_with (first
               |(refine wpList_load_mid rfl 34 (.tmp 17) rfl G 0 rfl C8 _ HG8.1.whole underlying34 rfl (by rw[HC8l.1];exact qt) ?_)
               |(refine qi rfl 34 (.tmp 12) (.tmp 113) rfl (w.heap.size+3) 0 rfl C8 rfl 34 _ [] jd [] HZ8.1 (by simp) rfl (by rw[HC8l.1];rfl) (by rw[HC8l.1];exact qt) HC81.1 ?_;intro w9 hx9 hg9))
              have HX9:=qe (show Blk w9 (w.heap.size+3) 34 C8 from hx9.cast (by simp));refine bodyPost_ret (v:= .tuple #[.agg C8.toArray,.int .i64 0]) (qu (g:=w.heap.size+3) rfl _ _ _ _ _ _ rfl rfl HX9.1 underlying34 rfl (by rw[HC8l.1];exact qt)) rfl ?_;have hs89:=hg9.size;have hB19:Below w.heap.size w w9:=(HB1.1.trans (HBt.1.mono (by omega))).grown hg9 (by have:=HBt.1.size;omega) (fun k e=>by cases e;omega)
              have hpl:(Below (w.heap.size+3) w1 w9):=(HBt.1.mono (by omega)).grown hg9 (by have:=HBt.1.size;omega) (fun k e=>by cases e;omega);have hx9':x.At w9:=HR1.1.same hpl.size (fun k hk=>hpl.block k (by have:=HLt.1 k hk;omega));have hsame:∀k,w.heap.size+4≤k→k<w8.heap.size→w9.heap[k]?=w8.heap[k]?:=fun k hk1 hk2=>hg9.block k hk2 (fun e=>by injection e with e;omega)
              refine qfm HH.1 HHm.1 HL.1 HGl.1 HSl.1 HEc.1 HC8.1 hN32 HE.1 (HO.1) (by have:=hzr;omega) (Nat.le_of_eq HGe.1) HB8.1 HO8.1 hsame hs89 hx9' hB19 (fun k hk=>HLt.1 k hk) HGe.1
theorem qhV{w:World}{base E K n:Nat}{v:Value}{us:List Value}(h:w.ownsRow base E K v n us)(hn:0<n):∃g c rest,v= .slice (some ⟨g,0,none⟩) n c∧base≤g∧n≤c∧Blk w g E (us++rest):=by
 rcases h.2 with⟨-,h0⟩|⟨g,cap,cur,hv,hbg,hg,hnc,hcm,hcs,htake⟩
 ·omega
 ·refine⟨g,cap,cur.toList.drop (n*K),hv,hbg,hnc,?_⟩
  show w.heap[g]?=some (.cells _ E (0,0));rw[hg,←htake,List.take_append_drop]
theorem qj7{w:World}{g E B:Nat}{us rest:List Value}(h:Blk w g E (us++rest))(hB:g<B):RdV w B (some ⟨g,0,none⟩) us:=fun hn=>⟨g,0,rfl,hB,fun j u hu=>by
 rw[JD];exact h.cell j (by rw[List.getElem?_append_left (JS.1 hu).1];exact hu)⟩
theorem qbf{α:Type}{f:α→List Value}{K:Nat}:∀{xs:List α} {k:Nat} {x:α},(∀y∈xs,(f y).length=K)→xs[k]?=some x→∃pre post,xs.flatMap f=pre++(f x++post)∧pre.length=k*K∧∀y,(xs.set k y).flatMap f=pre++(f y++post)
 | [],k,x,_,h=>by simp at h
 |z::xs,0,x,_,h=>by
  simp at h;subst h;exact⟨[],xs.flatMap f,by simp,by simp,fun y=>by simp⟩
 |z::xs,k+1,x,hK,h=>by
  obtain⟨pre,post,h1,h2,h3⟩:=qbf (xs:=xs) (k:=k) (x:=x) (fun y hy=>hK y (by simp[hy])) (by simpa using h);exact⟨f z++pre,post,by rw[JW,h1,Jb],by rw[QO,h2,hK z (by simp),Nat.add_mul,Nat.one_mul,Nat.add_comm],fun y=>by rw[qv,JW,h3,Jb]⟩
theorem qhW(w:World)(x:RX)(hx:x.At w)(hxl:x.es.length≤4)(i j:Nat)(e:RE)(he:x.es[i]?=some e)(hle:e.ls.length≤32)(z:RL)(hz:e.ls[j]?=some z)(y:RL)(hy:y.At w)(hyf:∀k∈y.foot,k<w.heap.size):
 Calls prog 47 #[.agg x.cells.toArray,.int .i64 (i:Int),.int .i64 (j:Int),.agg y.cells.toArray] w fun r w'=>
  ∃x':RX,r= .returned (.agg x'.cells.toArray)∧x'.m=⟨x.m.grp,zD x.m.es i j y.l,x.m.clr⟩∧x'.At w'∧(∀k∈x'.foot,k∈x.foot∨k∈y.foot∨w.heap.size≤k)∧Below w.heap.size w w':=by
 obtain⟨ie,hie,hez,hes,heb⟩:=info_parts vT;obtain⟨il,hil,hlz,hls,hlb⟩:=info_parts qcC;obtain⟨n,hn⟩:∃n,n=x.es.length:=⟨_,rfl⟩;obtain⟨m,hm⟩:∃m,m=e.ls.length:=⟨_,rfl⟩;have hi:i<n:=by rw[hn];exact(JS.1 he).1
 have hj:j<m:=by rw[hm];exact(JS.1 hz).1
 have heA:=hx.each e (Zq he);obtain⟨C,hC⟩:∃C,C=x.cells:=⟨_,rfl⟩;obtain⟨D,hD⟩:∃D,D=y.cells:=⟨_,rfl⟩;have HCl:=qe (show C.length=34 by rw[hC];exact j8 hx.glen);have HC1:=qe (show∀u∈C,u.oneCell'=true by rw[hC];exact zI rfl);have HDl:=qe (show D.length=36 by rw[hD];exact jS hy.ok.len);have HD1:=qe (show∀u∈D,u.oneCell'=true by rw[hD];exact vX rfl rfl)
 obtain⟨w3,hw3⟩:∃w3,w3=((w.alloc (.cells C.toArray 34)).alloc (.cells D.toArray 89)).alloc (.cells jd.toArray 34):=⟨_,rfl⟩;have hz3:w3.heap.size=w.heap.size+3:=by rw[hw3];simp
 have HX3:=qe (show Blk w3 w.heap.size 34 C by rw[hw3];exact((Blk.new w _ C).alloc _).alloc _);have HD3:=qe (show Blk w3 (w.heap.size+1) 89 D by rw[hw3];exact(Blk.at_size _ D (by simp)).alloc _);have HZ3:=qe (show Blk w3 (w.heap.size+2) 34 jd by rw[hw3];exact Blk.at_size _ jd (by simp));have HB3:=qe (show Below w.heap.size w w3 by rw[hw3];exact(((QK _ w).alloc (QI _) _).alloc (by simp) _).alloc (by simp;omega) _)
 have HxA3:=qe (hx.below HB3.1 (QI _));have c32:w3.cell? ⟨w.heap.size,32,none⟩=some (.slice x.A n x.c):=HX3.1.cell 32 (by rw[hC,hn];exact jG hx.glen);have HRx:=qe HxA3.1.rows;have HFl:=qe (show(x.es.flatMap RE.cells).length=n*3 by rw[hn];exact vm (fun y _=>RE.cells_len y));have HF1:=qe (show∀u∈x.es.flatMap RE.cells,u.oneCell'=true from fun u hu=>by obtain⟨q,hq,hu⟩:=Jk.1 hu;exact q.cells_one u hu)
 have HGl:=qe (show(e.ls.flatMap RL.cells).length=m*36 by rw[hm];exact vm (fun q hq=>jS (heA.each q hq).ok.len));have HG1:=qe (show∀u∈e.ls.flatMap RL.cells,u.oneCell'=true from fun u hu=>by obtain⟨q,hq,hu⟩:=Jk.1 hu;exact vX rfl rfl u hu);obtain⟨pE,qE,hE1,hE2,hE3⟩:=qbf (f:=RE.cells) (K:=3) (fun y _=>RE.cells_len y) he;obtain⟨pL,qL,hL1,hL2,hL3⟩:=qbf (f:=RL.cells) (K:=36) (fun q hq=>jS (heA.each q hq).ok.len) hz
 have hZl:z.cells.length=36:=jS (heA.each z (Zq hz)).ok.len;have HHx:=qe hx;have HHy:=qe hy;have HHf:=qe hyf;have HE:=qe (And.intro hE1 (And.intro hE2 hE3));have HL:=qe (And.intro hL1 (And.intro hL2 hL3));have HZl:=qe hZl;have Hn:=qe hn;have Hm:=qe hm;have HC:=qe hC;have HD:=qe hD;simp only[jX]at hw3;have HW3:=qe hw3;have He:=qe he
 have HeA:=qe heA;have Hz:=qe hz;have hn4:n≤4:=by omega
 have hm32:m≤32:=by omega
 rw[←hC,←hD];clear hx hy hyf hE1 hE2 hE3 hL1 hL2 hL3 hZl hn hm hC hD hw3 he heA hz hxl hle;go_enter func47,ntmps47
 go_upto_region 1 with fail
 rw[←HW3.1];have HOw4:=qe (show(w3.alloc (.cells #[] 85)).ownsRow (w.heap.size+3) 85 3 (.slice (some ⟨w.heap.size+3,0,none⟩) 0 0) 0 []from by
  rw[←hz3];have h:=World.ownsRow_lit (base:=w3.heap.size) (e:=85) (size:=3) w3 #[] 0 (QI _) (by decide) (by simp);simpa using h)
 have c324:(w3.alloc (.cells #[] 85)).cell? ⟨w.heap.size,32,none⟩=some (.slice x.A n x.c):=(HX3.1.alloc _).cell 32 (by rw[HC.1,Hn.1];exact jG HHx.1.glen);have HR4:=qe (show RdV (w3.alloc (.cells #[] 85)) w3.heap.size x.A (x.es.flatMap RE.cells)from Rd.below HRx.1 ((QK _ w3).alloc (QI _) _));go_upto_region 2 with(at_builtin;refine jD rfl _ _ 32 rfl 3 (by decide) (w.heap.size+3) 85 ie (.agg #[.int .i64 0,.int .i64 0,.slice none 0 0]) 40 underlying32 hie hez hes heb rfl _ _ _ rfl HOw4.1 w3.heap.size x.A n x.c (x.es.flatMap RE.cells) rfl HFl.1 (by omega) HR4.1 HF1.1 (by simp only[maxLen];omega) (by omega) (by simp;omega) ?_;intro v5 w5 hown5 hg5 hbb5)
 have hz5:w3.heap.size≤w5.heap.size:=by have:=hg5.size;simp at this;omega
 have HB5:=qe (show Below w3.heap.size w3 w5 from hbb5 w3.heap.size w3 (by omega) ((QK _ w3).alloc (QI _) _));rw[JD,Ji]at hown5;obtain⟨g1,c1,q1,rfl,hg1,hc1,hb1⟩:=qhV hown5 (by omega);have HK5:=qe hb1;have hg15:=hb1.lt;have c1c:w5.cell? ⟨g1,i*3+2,none⟩=some (.slice e.A m e.c):=hb1.cell (i*3+2) (by
  rw[HE.1.1,Jb,JA (by rw[HE.1.2.1];omega),HE.1.2.1,Nat.add_sub_cancel_left,Hm.1];rfl)
 have HOl:=qe (show(w5.alloc (.cells #[] 89)).ownsRow w5.heap.size 89 36 (.slice (some ⟨w5.heap.size,0,none⟩) 0 0) 0 []from by
  have h:=World.ownsRow_lit (base:=w5.heap.size) (e:=89) (size:=36) w5 #[] 0 (QI _) (by decide) (by simp);simpa using h)
 have HRl:=qe (show RdV (w5.alloc (.cells #[] 89)) w.heap.size e.A (e.ls.flatMap RL.cells)from Rd.below HeA.1.rows ((HB3.1.trans (HB5.1.mono (by omega))).alloc (by omega) _));have c1l:(w5.alloc (.cells #[] 89)).cell? ⟨g1,i*3+2,none⟩=some (.slice e.A m e.c):=(World.cell?_of_block (Below.heap_alloc w5 _ g1 hg15)).trans c1c;clear hown5 hg5 hbb5 hb1 c32 c324 HOw4 HR4 HRx HxA3;go_upto_region 3 with(at_builtin;refine jD rfl _ _ 83 rfl 36 (by decide) w5.heap.size 89 il _ 96 underlying83 hil hlz hls hlb rfl _ _ _ rfl HOl.1 w.heap.size e.A m e.c (e.ls.flatMap RL.cells) rfl HGl.1 (by omega) HRl.1 HG1.1 (by simp only[maxLen];omega) (by omega) (by simp) ?_;intro v7 w7 hown7 hg7 hbb7)
 have HB7:=qe (show Below w5.heap.size w5 w7 from hbb7 w5.heap.size w5 (QI _) ((QK _ w5).alloc (QI _) _));rw[JD,Ji]at hown7;obtain⟨g2,c2,q2,rfl,hg2,hc2,hb2⟩:=qhV hown7 (by omega);have HL7:=qe (hb2.cast (show _=pL++(z.cells++(qL++q2)) by rw[HL.1.1,Jb,Jb]));have hz7:=HB7.1.size;have hb35:Below w3.heap.size w3 w7:=HB5.1.trans (HB7.1.mono hz5)
 have HD7:=qe (HD3.1.below hb35 (by omega));have HX7:=qe (HX3.1.below hb35 (by omega));have HZ7:=qe (HZ3.1.below hb35 (by omega));have HK7:=qe (HK5.1.below HB7.1 hg15);have hg27:=hb2.lt;clear hown7 hg7 hbb7 hb2 c1c c1l HOl HRl hb35 HD3 HX3 HZ3 HK5;go_upto_region 4 with(first
  |(refine wpList_load_mid rfl 89 (.tmp 7) rfl (w.heap.size+1) 0 rfl D _ HD7.1.whole underlying89 rfl (by rw[HDl.1];exact qT) ?_)
  |(refine qi rfl 89 (.tmp 25) (.tmp 24) rfl g2 (j*36) rfl D rfl 89 _ pL z.cells (qL++q2) HL7.1 rfl HL.1.2.1 (by rw[HDl.1,HZl.1]) (by rw[HDl.1];exact qT) HD1.1 ?_;intro w8 hx8 hg8))
 have HL8:=qe hx8;have HX8:=qe (HX7.1.grown hg8 (fun h=>by injection h with h;omega));have HZ8:=qe (HZ7.1.grown hg8 (fun h=>by injection h with h;omega));have HK8:=qe (HK7.1.grown hg8 (fun h=>by injection h with h;omega));have HG8:=qe hg8;have hz8:=hg8.size;have c8:w8.cell? ⟨g1,i*3+2,none⟩=some (.slice e.A m e.c):=HK8.1.cell (i*3+2) (by
  rw[HE.1.1,Jb,JA (by rw[HE.1.2.1];omega),HE.1.2.1,Nat.add_sub_cancel_left,Hm.1];rfl)
 have f8:=HK8.1.frozen (i*3+2);clear hx8 hg8 HL7 HX7 HZ7 HD7 HK7;go_upto_region 5 with fail
 obtain⟨e',he'⟩:∃e':RE,e'=⟨e.no,e.leaf,e.ls.set j y,some ⟨g2,0,none⟩,c2⟩:=⟨_,rfl⟩;have hel:e'.ls.length=m:=by rw[he',Jy,Hm.1]
 obtain⟨w9,hw9⟩:∃w9,w9=w8.setCell ⟨g1,i*3+2,none⟩ (.slice (some ⟨g2,0,none⟩) m c2):=⟨_,rfl⟩;rw[←hw9];have HG9:=qe (show w8.grownBy w9 (some g1) by rw[hw9];exact qM _ _ _ _);have HK9:=qe (show Blk w9 g1 85 ((x.es.set i e').flatMap RE.cells++q1) by
  rw[hw9,HE.1.2.2 e',Jb];refine(HK8.1.put_one (pre:=pE++ [.int .i64 e.no,.int .i64 (e.leaf:Int)]) (u:= .slice e.A m e.c) (post:=qE++q1) (by rw[HE.1.1,Hm.1];simp[RE.cells]) (by rw[QO,HE.1.2.1];rfl) _).cast ?_;unfold RE.cells;rw[hel,he'];simp)
 have HX9:=qe (HX8.1.grown HG9.1 (fun h=>by injection h with h;omega));have HZ9:=qe (HZ8.1.grown HG9.1 (fun h=>by injection h with h;omega));have HL9:=qe (HL8.1.grown HG9.1 (fun h=>by injection h with h;omega));have hz9:=HG9.1.size;have c9:w9.cell? ⟨w.heap.size,32,none⟩=some (.slice x.A n x.c):=HX9.1.cell 32 (by rw[HC.1,Hn.1];exact jG HHx.1.glen);have f9:=HX9.1.frozen 32;have He':=qe he'
 clear hw9 c8 f8 HX8 HZ8 HL8 HK8 he';go_upto_region 6 with fail
 obtain⟨C',hC'⟩:∃C',C'=zw x.grp (.slice (some ⟨g1,0,none⟩) n c1) x.clr:=⟨_,rfl⟩;obtain⟨w10,hw10⟩:∃w10,w10=w9.setCell ⟨w.heap.size,32,none⟩ (.slice (some ⟨g1,0,none⟩) n c1):=⟨_,rfl⟩;rw[←hw10];have HG10:=qe (show w9.grownBy w10 (some w.heap.size) by rw[hw10];exact qM _ _ _ _);have HX10:=qe (show Blk w10 w.heap.size 34 C' by rw[hw10];exact(HX9.1.set_ 32 _).cast (by rw[HC.1,hC'];exact vS HHx.1.glen _))
 have HZ10:=qe (HZ9.1.grown HG10.1 (fun h=>by injection h with h;omega));have HK10:=qe (HK9.1.grown HG10.1 (fun h=>by injection h with h;omega));have HL10:=qe (HL9.1.grown HG10.1 (fun h=>by injection h with h;omega));have HCl':=qe (show C'.length=34 by rw[hC'];exact j8 HHx.1.glen);have HC1':=qe (show∀u∈C',u.oneCell'=true by rw[hC'];exact zI rfl);have hz10:=HG10.1.size;have HC':=qe hC'
 clear hw10 c9 f9 HX9 HZ9 HL9 HK9 hC';go_wp2_with (first
  |(refine wpList_load_mid rfl 34 (.tmp 4) rfl w.heap.size 0 rfl C' _ HX10.1.whole underlying34 rfl (by rw[HCl'.1];exact qt) ?_)
  |(refine qi rfl 34 (.tmp 8) (.tmp 33) rfl (w.heap.size+2) 0 rfl C' rfl 34 _ [] jd [] HZ10.1 (by simp) rfl (by rw[HCl'.1];rfl) (by rw[HCl'.1];exact qt) HC1'.1 ?_;intro w11 hx11 hg11))
 have HX11:=qe (show Blk w11 (w.heap.size+2) 34 C' from hx11.cast (by simp));have HK11:=qe (HK10.1.grown hg11 (fun h=>by injection h with h;omega));have HL11:=qe (HL10.1.grown hg11 (fun h=>by injection h with h;omega));have HB11:=qe (show Below w.heap.size w w11 from by
  have h1:Below w.heap.size w w8:=((HB3.1.trans (HB5.1.mono (by omega))).trans (HB7.1.mono (by omega))).grown HG8.1 (by omega) (fun k h=>by injection h with h;omega);exact((h1.grown HG9.1 (by omega) (fun k h=>by injection h with h;omega)).grown HG10.1 (by omega) (fun k h=>by injection h with h;omega)).grown hg11 (by omega) (fun k h=>by injection h with h;omega))
 have hz11:=hg11.size;clear hx11 hg11;refine bodyPost_ret (v:= .agg C'.toArray) (qcZ (g:=w.heap.size+2) rfl _ _ _ _ _ rfl HX11.1 underlying34 rfl (by rw[HCl'.1];exact qt)) rfl ?_;have hfe:∀k∈e'.foot,(k∈x.foot∨k∈y.foot∨w.heap.size≤k)∧k<w11.heap.size:=fun k hk=>by
  have hin:∀q∈e.ls,∀k∈q.foot,k∈x.foot:=fun q hq k hk=>by
   unfold RX.foot;exact Zf _ (Jk.2 ⟨e,Zq He.1,by unfold RE.foot;exact Zf _ (Jk.2 ⟨q,hq,hk⟩)⟩)
  rw[He'.1]at hk;unfold RE.foot at hk;rcases QS.1 hk with hk|hk
  ·have hk':k=g2:=by simpa[j7]using hk
   exact⟨.inr (.inr (by omega)),by omega⟩
  ·obtain⟨q,hq,hk2⟩:=Jk.1 hk
   rcases Zt hq with h|h
   ·have h2:=hin q h k hk2
    have:=HHx.1.lt k h2;exact⟨.inl h2,by omega⟩
   ·subst h
    have:=HHf.1 k hk2;exact⟨.inr (.inl hk2),by omega⟩
 have hft:∀k∈ (⟨x.grp,x.es.set i e',some ⟨g1,0,none⟩,c1,x.clr⟩:RX).foot,(k∈x.foot∨k∈y.foot∨w.heap.size≤k)∧k<w11.heap.size:=fun k hk=>by
  unfold RX.foot at hk;rcases QS.1 hk with hk|hk
  ·have hk':k=g1:=by simpa[j7]using hk
   exact⟨.inr (.inr (by omega)),by omega⟩
  ·obtain⟨q,hq,hk2⟩:=Jk.1 hk
   rcases Zt hq with h|h
   ·have h2:k∈x.foot:=by unfold RX.foot;exact Zf _ (Jk.2 ⟨q,h,hk2⟩)
    have:=HHx.1.lt k h2;exact⟨.inl h2,by omega⟩
   ·subst h;exact hfe k hk2
 refine⟨⟨x.grp,x.es.set i e',some ⟨g1,0,none⟩,c1,x.clr⟩,?_,?_,⟨HHx.1.glen,qj7 HK11.1 (by omega),fun q hq=>?_,fun k hk=>(hft k hk).2⟩,fun k hk=>(hft k hk).1,HB11.1⟩
 ·rw[HC'.1]
  unfold RX.cells;rw[Jy,Hn.1]
 ·have h1:(x.es.map RE.m)[i]?=some e.m:=by rw[Jn,He.1];rfl
  unfold RX.m zD;dsimp only;rw[h1];dsimp only;rw[List.map_set,He'.1];unfold RE.m;dsimp only;rw[List.map_set]
 ·rcases Zt hq with h|h
  ·exact(HHx.1.each q h).same (by have:=HB11.1.size;omega) (fun k hk=>HB11.1.block k (HHx.1.lt k (by unfold RX.foot;exact Zf _ (Jk.2 ⟨q,h,hk⟩))))
  ·subst h
   rw[He'.1];refine⟨?_,fun l hl=>?_⟩
   ·show RdV w11 w11.heap.size (some ⟨g2,0,none⟩) ((e.ls.set j y).flatMap RL.cells)
    exact qj7 (HL11.1.cast (show _=(e.ls.set j y).flatMap RL.cells++q2 by rw[HL.1.2.2 y,Jb,Jb,HD.1])) (by omega)
   ·rcases Zt hl with h|h
    ·exact(HeA.1.each l h).below HB11.1 (QI _)
    ·subst h;exact HHy.1.below HB11.1 (QI _)
theorem qm4{ep fr:Int}(e0:0≤ep)(e1:ep≤4294967295)(f0:0≤fr)(f1:fr≤31):((be ep 4++be fr 1).map b8).toArray= #[.int .u8 (ep/16777216),.int .u8 (ep/65536 % 256),.int .u8 (ep/256 % 256),.int .u8 (ep % 256),.int .u8 fr]:=by
 rw[qfW,qfX];simp only[List.cons_append,Ji,Jd,Jt,qce];rw[Int.emod_eq_of_lt (a:=ep/16777216) (by omega) (by omega),Int.emod_eq_of_lt f0 (by omega)]
theorem qm5{nu:Int}(n0:0≤nu)(n1:nu≤4294967295):((be nu 4).map b8).toArray= #[.int .u8 (nu/16777216),.int .u8 (nu/65536 % 256),.int .u8 (nu/256 % 256),.int .u8 (nu % 256)]:=by
 rw[qfW];simp only[Jd,Jt,qce];rw[Int.emod_eq_of_lt (a:=nu/16777216) (by omega) (by omega)]
theorem qer(grp:qf)(hg:grp.length=32)(ep fr nu:Int)(e0:0≤ep)(e1:ep≤4294967295)(f0:0≤fr)(f1:fr≤31)(n0:0≤nu)(n1:nu≤4294967295)(A:Option Addr)(n c:Nat)(w:World):
 Calls prog 46 #[.agg (qq grp ep fr nu A n c).toArray] w fun e w'=>∃v,e= .returned v∧Own b8 w' w.heap.size 5 v (vF grp ep fr nu)∧Below w.heap.size w w':=by
 obtain⟨i0,hi0,hz0,hz1,hz2⟩:=info_parts jN;have HG:=qe hg;have HBx:=qe (show qZ (w.alloc (.cells (qq grp ep fr nu A n c).toArray 41)) w.heap.size grp ep fr nu A n c from Blk.new w _ _);have HB0:=qe ((QK w.heap.size w).alloc (QI _) (.cells (qq grp ep fr nu A n c).toArray 41));have hz:=QQ w (.cells (qq grp ep fr nu A n c).toArray 41);clear hg
 go_enter func46,ntmps46
 go_upto_region 1 with fail
 generalize World.alloc w _=w0 at HBx HB0 hz ⊢;obtain⟨w1,hw1⟩:∃w1,w1=w0.alloc (.cells #[] 5):=⟨_,rfl⟩;have hb1:Below w0.heap.size w0 w1:=by rw[hw1];exact(QK _ w0).alloc (QI _) _
 have HO1:=qe (show Own b8 w1 (w.heap.size+1) 5 (.slice (some ⟨w.heap.size+1,0,none⟩) 0 0) [] by
  rw[hw1,←hz];have:=Own.lit b8 w0 w0.heap.size 5 [] (QI _) (by simp[maxLen]);simpa using this)
 have HX1:=qe (HBx.1.below hb1 (by omega));have HB1:=qe (HB0.1.trans (hb1.mono (by omega)));have hz1':w1.heap.size=w.heap.size+2:=by rw[hw1,QQ];omega
 have HR1:=qe (show Rd b8 w1 w1.heap.size (some ⟨w.heap.size,0,none⟩) grp from fun _=>⟨w.heap.size,0,rfl,by omega,fun j u hu=>(HX1.1.r0 HG.1) j (b8 u) (by rw[Jn,hu];rfl)⟩);have HW1:=qe hw1;clear hw1 hb1;go_upto_region 2 with(at_builtin;rw[←HW1.1];refine qh rfl _ _ 28 rfl qH (w.heap.size+1) 5 i0 _ 1 underlying28 hi0 hz0 hz1 hz2 rfl _ [] rfl HO1.1 w1.heap.size (some ⟨w.heap.size,0,none⟩) 32 32 grp rfl HG.1.symm HR1.1 (by rw[HG.1];decide) (by rw[HG.1];decide) (by omega) ?_;intro v3 w3 hown3 hg3 hbb3)
 have hbw:=hbb3 (w.heap.size+1) w1 (QI _) (QK _ w1);obtain⟨c32,c33,c34,-⟩:=(HX1.1.below hbw (by omega)).all5 HG.1;have HB3:=qe (HB1.1.trans (hbw.mono (by omega)));have HX3:=qe (HX1.1.below hbw (by omega));have HO3:=qe hown3;have hz3:=hbw.size;clear hown3 hg3 hbb3 hbw HX1 HB1 HO1 HR1;obtain⟨A3,d3,e3,hr3,-,hd3,-⟩:=HO3.1.shape' (n:=32) (by rw[Ji];exact HG.1);subst e3
 obtain⟨w4,hw4⟩:∃w4,w4=w3.alloc (.cells ((be ep 4++be fr 1).map b8).toArray 5):=⟨_,rfl⟩;have hb4:Below w3.heap.size w3 w4:=by rw[hw4];exact(QK _ w3).alloc (QI _) _
 have HO4:=qe (show Own b8 w4 (w.heap.size+1) 5 (.slice A3 32 d3) grp from by rw[hw4];exact HO3.1.alloc _);have HR4:=qe (show Rd b8 w4 w4.heap.size (some ⟨w3.heap.size,0,none⟩) (be ep 4++be fr 1)from by rw[hw4];have h:=Rd.new b8 w3 5 (be ep 4++be fr 1);rwa[←QQ w3 (.cells ((be ep 4++be fr 1).map b8).toArray 5)]at h);have hz4:=hb4.size;have HB4:=qe (HB3.1.trans (hb4.mono (by omega)))
 have HX4:=qe (HX3.1.below hb4 (by omega));rw[qm4 e0 e1 f0 f1]at hw4;have HW4:=qe hw4;have hbl:(be ep 4++be fr 1).length=5:=by rw[QO,qK,qK]
 have HBl:=qe hbl;clear hw4 hb4 hbl hr3 HO3 HX3 HB3;go_upto_region 3 with(at_builtin;rw[←HW4.1];refine qh rfl _ _ 28 rfl qH (w.heap.size+1) 5 i0 _ 1 underlying28 hi0 hz0 hz1 hz2 rfl _ grp rfl HO4.1 w4.heap.size (some ⟨w3.heap.size,0,none⟩) 5 5 (be ep 4++be fr 1) rfl HBl.1.symm HR4.1 (by rw[HG.1,HBl.1];decide) (by rw[HG.1,HBl.1];decide) (by omega) ?_;intro v5 w5 hown5 hg5 hbb5)
 have hbw:=hbb5 (w.heap.size+1) w4 (QI _) (QK _ w4);obtain⟨-,-,d34,-⟩:=(HX4.1.below hbw (by omega)).all5 HG.1;have HB5:=qe (HB4.1.trans (hbw.mono (by omega)));have hz5:=hbw.size;obtain⟨A5,d5,e5,hr5,-,hd5,-⟩:=hown5.shape' (n:=37) (by rw[QO,HG.1,HBl.1]);subst e5;obtain⟨w6,hw6⟩:∃w6,w6=w5.alloc (.cells ((be nu 4).map b8).toArray 5):=⟨_,rfl⟩;have hb6:Below w5.heap.size w5 w6:=by rw[hw6];exact(QK _ w5).alloc (QI _) _
 have HO6:=qe (show Own b8 w6 (w.heap.size+1) 5 (.slice A5 37 d5) (grp++(be ep 4++be fr 1))from by rw[hw6];exact hown5.alloc _);have HR6:=qe (show Rd b8 w6 w6.heap.size (some ⟨w5.heap.size,0,none⟩) (be nu 4)from by rw[hw6];have h:=Rd.new b8 w5 5 (be nu 4);rwa[←QQ w5 (.cells ((be nu 4).map b8).toArray 5)]at h);have hz6:=hb6.size;have HB6:=qe (HB5.1.trans (hb6.mono (by omega)))
 rw[qm5 n0 n1]at hw6;have HW6:=qe hw6;have HNl:=qe (qK nu 4);clear hw6 hb6 hr5 hown5 hg5 hbb5 hbw HO4 HX4 HB4 HR4 c32 c33 c34;go_wp2_with (at_builtin;rw[←HW6.1];refine qh rfl _ _ 28 rfl qH (w.heap.size+1) 5 i0 _ 1 underlying28 hi0 hz0 hz1 hz2 rfl _ (grp++(be ep 4++be fr 1)) rfl HO6.1 w6.heap.size (some ⟨w5.heap.size,0,none⟩) 4 4 (be nu 4) rfl HNl.1.symm HR6.1 (by rw[QO,HG.1,HBl.1,HNl.1];decide) (by rw[QO,HG.1,HBl.1,HNl.1];decide) (by omega) ?_;intro v7 w7 hown7 hg7 hbb7)
 have hb7:=hbb7 (w.heap.size+1) w6 (QI _) (QK _ w6);have HB7:=qe (HB6.1.trans (hb7.mono (by omega)));have HO7:=qe (show Own b8 w7 w.heap.size 5 v7 (vF grp ep fr nu)from by
  have h:Own b8 w7 w.heap.size 5 v7 (grp++(be ep 4++be fr 1)++be nu 4):=hown7.less (by omega);rw[show vF grp ep fr nu=grp++(be ep 4++be fr 1)++be nu 4 from by unfold vF vP;simp];exact h)
 clear hown7 hg7 hbb7 hb7;go_ret;exact⟨_,rfl,HO7.1,HB7.1⟩
end
section
open Go.RowKit
theorem qbg:(prog.info? 3).map (fun i=>(i.zero,i.size,i.bytes))=some (some (.int .i64 0),1,8):=by kernel_rfl
def dN(n:Nat):Value:= .int .i64 (n:Int)
theorem vU(n:Nat):(dN n).oneCell'=true:=rfl
def qoT:Value→Int
 | .slice _ n _=>n
 |_=>0
theorem ke(w:World)(B n c:Nat)(A:Option Addr)(xs:qf)(hr:Rd b8 w B A xs)(hB:B≤w.heap.size)(hn:n=xs.length)(hbig:n≤1000):
 Calls prog 121 #[.slice A n c] w fun e w'=>∃v,e= .returned v∧Own dN w' w.heap.size 3 v (xs.map BitVec.toNat)∧Below w.heap.size w w':=by
 obtain⟨i0,hi0,hz0,hz1,hz2⟩:=info_parts qbg;have HR:=qe (hr.more hB);have HN:=qe hn;clear hr hn hB;go_enter func121,ntmps121
 go_wp2_with fail
 go_loopw [3,4] (fun v iv wr=>∃k:Nat,k≤n∧iv= .int .i64 (k:Int)∧Own dN wr w.heap.size 3 v ((xs.take k).map BitVec.toNat)∧Below w.heap.size w wr) (fun _ iv _=>n-(intOf iv).toNat)
 case atStart=>exact⟨0,by omega,rfl,Own.nil_ _ _ _ _,QK _ _⟩
 case round=>
  obtain⟨k,hk,rfl,ho,hb⟩:=hrel;obtain⟨Ao,co,rfl,-,-,-,-⟩:=ho.shape' (n:=k) (by rw[QN,QV,←HN.1];omega);have HO:=qe ho;have HB:=qe hb;have hz:=hb.size;clear ho hb;by_cases hlt:k<n
  ·obtain⟨b,off,rfl,hbb,hc⟩:=(HR.1.below HB.1).at_ (k:=k) (by rw[←HN.1];omega)
   obtain⟨x,hx⟩:∃x,x=xs[k]'(by rw[←HN.1];omega):=⟨_,rfl⟩;rw[←hx]at hc;have hc':wr.cell? ⟨b,off+k,none⟩=some (.int .u8 (bv x)):=hc;have HX:=qe hx;have hlt':(k:Int)<(n:Int):=by omega
   clear hc hx;go_wp2_with (at_builtin;refine qh rfl (.tmp 11) (.tmp 17) 70 rfl vU w.heap.size 3 i0 _ 8 underlying70 hi0 hz0 hz1 hz2 rfl _ _ rfl (HO.1.alloc _) (wr.heap.size+1) _ 1 1 [x.toNat] rfl rfl (Rd.new dN wr 3 [x.toNat]) (by have:=HN.1;simp[maxLen];omega) (by have:=HN.1;simp;omega) (by(first|omega|(simp;done)|(simp;omega)|(simp at*;omega))) ?_;intro v7 w7 hown7 hg7 hbb7)
   go_roundw
   case rel=>
    refine⟨k+1,by omega,by simp,hown7.cast ?_,hbb7 _ _ (QI _) (HB.1.alloc (by omega) _)⟩;have h1:k<xs.length:=by rw[←HN.1];omega
    rw[List.take_add_one,Q9,QT h1,HX.1];rfl
   case measure=>simp[intOf];omega
  ·obtain rfl:k=n:=by omega
   go_wp2_with fail
   go_ret;exact⟨_,rfl,HO.1.cast (by rw[Js (by rw[←HN.1];omega)]),HB.1⟩
theorem qhX(a:Option Addr)(h m s:Nat):sliced a 0 h m s= .slice a h m:=by
 unfold sliced;rw[Nat.zero_mul,Nat.sub_zero,Nat.sub_zero];cases a<;>simp[Addr.add]
attribute [local go_sem high] qhX
theorem qbh(xs:List Nat)(k:Nat)(h:k<xs.length):qC (xs.take (k+1))=qC (xs.take k)+256^k*xs[k]:=by
 rw[List.take_add_one,QT h];simp only[Option.toList_some];rw[up,QV,Nat.min_eq_left (by omega)]
theorem j4(xs:List Nat)(k:Nat)(h:xs.length≤k):qC (xs.take k)=qC xs:=by rw[Js h]
theorem uX(w:World)(B n c:Nat)(A:Option Addr)(xs:List Nat)(hr:Rd dN w B A xs)(hn:n=xs.length)(hc:n≤c)(hbig:n≤1000000):
 Calls prog 123 #[.slice A n c] w fun e w'=>∃m,e= .returned (.slice A m c)∧m≤n∧qC (xs.take m)=qC xs∧(m=0∨256^(m-1)≤qC xs)∧w=w':=by
 have HR:=qe hr;have HN:=qe hn;clear hr hn;go_enter func123,ntmps123
 go_wp2_with fail
 go_loopw [0] (fun va wr=>∃k:Nat,k≤n∧va= .slice A k c∧qC (xs.take k)=qC xs∧wr=w) (fun va _=>(qoT va).toNat)
 case atStart=>exact⟨n,by omega,rfl,j4 _ _ (by rw[HN.1];omega),rfl⟩
 case round=>
  obtain⟨k,hk,rfl,hv,rfl⟩:=hrel;have HV:=qe hv;clear hv;by_cases h0:k=0
  ·subst h0
   go_wp2_with fail
   go_ret;exact⟨0,rfl,by omega,HV.1,.inl rfl,rfl⟩
  ·obtain⟨j,rfl⟩:∃j,k=j+1:=⟨k-1,by omega⟩
   obtain⟨b,off,rfl,hb,hcl⟩:=HR.1.at_ (k:=j) (by rw[←HN.1];omega);obtain⟨x,hx⟩:∃x,x=xs[j]'(by rw[←HN.1];omega):=⟨_,rfl⟩;rw[←hx]at hcl;have hc':wr.cell? ⟨b,off+j,none⟩=some (.int .i64 (x:Int)):=hcl;have HS:=qe (show qC (xs.take (j+1))=qC (xs.take j)+256^j*x by rw[hx];exact qbh xs j (by rw[←HN.1];omega));have e1:((j+1:Nat):Int)-1=(j:Int):=by omega
   have hjc:j≤c:=by omega
   clear hcl hx h0;by_cases hx0:x=0
   ·subst hx0
    go_wp2_with fail
    go_roundw
    case rel=>exact⟨j,by omega,rfl,by have:=HS.1;rw[←HV.1,this];omega,trivial⟩
    case measure=>simp[qoT]
   ·have hx1:¬((x:Int)=0):=by omega
    go_wp2_with fail
    go_ret;exact⟨j+1,rfl,by omega,HV.1,.inr (by
     have h1:=HS.1;rw[HV.1]at h1;have h2:256^j*1≤256^j*x:=Nat.mul_le_mul_left _ (by omega);simp only[Zn];omega),rfl⟩
end
end Go.Proofs.YtelgjaiknaalkaaGreatDoor
