/- Lemmas, joined and made smaller by a program. -/
import Derived.Test.YtelgjaiknaalkaaGreatDoorPm23
import Derived.Test.YtelgjaiknaalkaaGreatDoorPm28
import Derived.Test.YtelgjaiknaalkaaGreatDoorPm29
import Derived.Test.YtelgjaiknaalkaaGreatDoorPm22
import Derived.Test.YtelgjaiknaalkaaGreatDoorPm20
open Go.Lib renaming hid → qq
open List renaming setIfInBounds_toArray → qj
open List renaming set_cons_zero → qz
open List renaming set_cons_succ → qv
set_option linter.unusedVariables false
set_option linter.unusedSimpArgs false
namespace Go.Proofs.YtelgjaiknaalkaaGreatDoor
open Go.RowKit
set_option maxRecDepth 100000
theorem zeroRB_lit:zeroRB.toArray= #[Value.int .u8 0,Value.int .u8 0,Value.int .u8 0,Value.int .u8 0,Value.int .u8 0,Value.int .u8 0,Value.int .u8 0,Value.int .u8 0,Value.int .u8 0,Value.int .u8 0,Value.int .u8 0,Value.int .u8 0,Value.int .u8 0,Value.int .u8 0,Value.int .u8 0,Value.int .u8 0,Value.int .u8 0,Value.int .u8 0,Value.int .u8 0,Value.int .u8 0,Value.int .u8 0,Value.int .u8 0,Value.int .u8 0,Value.int .u8 0,Value.int .u8 0,Value.int .u8 0,Value.int .u8 0,Value.int .u8 0,Value.int .u8 0,Value.int .u8 0,Value.int .u8 0,Value.int .u8 0,Value.slice none 0 0,Value.bool false]:=rfl
def keepR{α:Type}(m:Nat)(es:List α)(k:Nat):List α:=if m<4 then es.take k else(es.take k).drop 1
theorem keepR_zero{α:Type}(m:Nat)(es:List α):keepR m es 0=[]:=by unfold keepR;split<;>simp
theorem keepR_skip{α:Type}{m:Nat}(es:List α)(h:¬m<4):keepR m es 1=[]:=by
 unfold keepR;rw[if_neg h];cases es<;>rfl
theorem keepR_succ{α:Type}{m:Nat}{es:List α}{k:Nat}{e:α}(he:es[k]?=some e)(h:m<4∨0<k):keepR m es (k+1)=keepR m es k++ [e]:=by
 have hk:=(List.getElem?_eq_some_iff.1 he).1
 have ht:es.take (k+1)=es.take k++ [e]:=by rw[List.take_add_one,he];rfl
 unfold keepR
 split
 ·exact ht
 ·rw[ht,List.drop_append_of_le_length (by rw[List.length_take];omega)]
theorem keepR_len{α:Type}(m:Nat)(es:List α)(k:Nat):(keepR m es k).length≤es.length:=by
 unfold keepR;split<;>simp<;>omega
theorem keepR_mem{α:Type}{m:Nat}{es:List α}{k:Nat}{e:α}(h:e∈keepR m es k):e∈es:=by
 unfold keepR at h
 split at h
 ·exact List.mem_of_mem_take h
 ·exact List.mem_of_mem_take (List.mem_of_mem_drop h)
theorem keepR_all{α:Type}(es:List α)(e:α):keepR es.length es es.length++ [e]=pushE es e:=by
 unfold keepR pushE
 rw[List.take_length]
 split
 ·rw[if_neg (by omega)]
 ·rw[if_pos (by omega)]
  cases es with
  |nil=>simp at*
  |cons a r=>rfl
theorem row_foot{w:World}{B E K n n' c:Nat}{A:Option Addr}{us:List Value}(h:w.ownsRow B E K (.slice A n' c) n us):∀k∈optBlk A,B≤k∧k<w.heap.size:=by
 intro k hk
 cases A with
 |none=>simp[optBlk]at hk
 |some a=>
  simp only[optBlk,List.mem_singleton]at hk
  subst hk
  rcases h.2 with⟨e,-⟩|⟨g,cap,cur,e,hb,hg,-⟩
  ·cases e
  ·injection e with e1 e2 e3
   injection e1 with e1
   subst e1
   refine⟨hb,?_⟩
   rcases Nat.lt_or_ge g w.heap.size with h1|h1
   ·exact h1
   ·rw[Array.getElem?_eq_none h1]at hg;cases hg
theorem ownsRow_nil(w:World)(B E K:Nat):w.ownsRow B E K (.slice none 0 0) 0 []:=⟨by simp,.inl ⟨rfl,rfl⟩⟩
theorem pushE_map{α β:Type}(f:α→β)(es:List α)(e:α):(pushE es e).map f=pushE (es.map f) (f e):=by
 unfold pushE
 rw[List.length_map]
 split
 ·rw[List.map_tail,List.map_append,List.map_singleton]
 ·rw[List.map_append,List.map_singleton]
theorem enter_fin{w wq w8 w9:World}{x:RX}{m L N lf c c7 G:Nat}{A A7:Option Addr}{no:Int}{grp s:List (BitVec 8)}{ec C8:List Value}(hx:x.At w)(hm:m=x.es.length)(hL:L=(keepR m x.es m).length)(hgl:grp.length=32)(hsl:s.length=32)
 (hec:ec=[Value.int .i64 no,.int .i64 (lf:Int),.slice A N c])(hC8:C8=boxR grp (.slice A7 (L+1) c7) false)(hN:N≤32)(hE:enterE x.m grp no (N:Int) (lf:Int)=0)
 (hO:wq.ownsRow (w.heap.size+5) 89 36 (.slice A N c) N (((List.range N).map (fun i=>startRL (leafS N i s))).flatMap RL.cells))(hq:w.heap.size+5≤wq.heap.size)(hG:G≤wq.heap.size)(hB8:Below G wq w8)
 (hO8:w8.ownsRow (G+1) 85 3 (.slice A7 (L+1) c7) (L+1) ((keepR m x.es m).flatMap RE.cells++ec))(hsame:∀k,w.heap.size+4≤k→k<w8.heap.size→w9.heap[k]?=w8.heap[k]?)(hs:w8.heap.size≤w9.heap.size)
 (hx9:x.At w9)(hB:Below w.heap.size w w9)(hlt:∀k∈x.foot,k<w.heap.size)(hGe:G=wq.heap.size):
 ∃y:RX,Ending.returned (Value.tuple #[.agg C8.toArray,.int .i64 0])=Ending.returned (.tuple #[.agg y.cells.toArray,.int .i64 ((0:Nat):Int)])∧y.m=enterM x.m grp no (N:Int) (lf:Int) s∧y.At w9∧(∀k∈y.foot,k∈x.foot∨w.heap.size≤k)∧Below w.heap.size w w9:=by
 subst hm
 obtain⟨e,he⟩:∃e:RE,e=⟨no,lf,newRLs N s,A,c⟩:=⟨_,rfl⟩
 have hecc:e.cells=ec:=by rw[he,hec];unfold RE.cells;rw[newRLs_len]
 have hem:e.m=⟨no,lf,newLs N s⟩:=by rw[he];unfold RE.m;rw[newRLs_m]
 have hef:e.foot=optBlk A:=by rw[he];unfold RE.foot;rw[newRLs_foot,List.append_nil]
 have hfA:=row_foot hO
 have hf7:=row_foot hO8
 have hs8:=hB8.size
 have hfoot:∀k∈ (⟨grp,keepR x.es.length x.es x.es.length++ [e],A7,c7,false⟩:RX).foot,(k∈x.foot∨w.heap.size≤k)∧k<w9.heap.size:=by
  intro k hk
  unfold RX.foot at hk
  simp only[List.mem_append,List.flatMap_append,List.flatMap_singleton]at hk
  rcases hk with hk|hk|hk
  ·obtain⟨h1,h2⟩:=hf7 k hk
   exact⟨.inr (by omega),by omega⟩
  ·obtain⟨y,hy,hk⟩:=List.mem_flatMap.1 hk
   have hin:k∈x.foot:=by unfold RX.foot;exact List.mem_append_right _ (List.mem_flatMap.2 ⟨y,keepR_mem hy,hk⟩)
   exact⟨.inl hin,Nat.lt_of_lt_of_le (hlt k hin) hB.size⟩
  ·rw[hef]at hk
   obtain⟨h1,h2⟩:=hfA k hk
   exact⟨.inr (by omega),by omega⟩
 refine⟨⟨grp,keepR x.es.length x.es x.es.length++ [e],A7,c7,false⟩,?_,?_,⟨hgl,?_,fun y hy=>?_,fun k hk=>(hfoot k hk).2⟩,fun k hk=>(hfoot k hk).1,hB⟩
 ·rw[hC8,hL]
  unfold RX.cells
  rw[List.length_append]
  rfl
 ·unfold enterM
  rw[if_pos hE]
  show(⟨grp,(keepR x.es.length x.es x.es.length++ [e]).map RE.m,false⟩:BM)=_
  rw[keepR_all,pushE_map,hem]
  rfl
 ·obtain⟨A',c',e1,hrd,-⟩:=rowS_shape hO8
  injection e1 with e1 e2 e3
  subst e1
  show RdV w9 w9.heap.size A7 ((keepR x.es.length x.es x.es.length++ [e]).flatMap RE.cells)
  rw[List.flatMap_append,List.flatMap_singleton,hecc]
  exact rd_same hrd hs (fun k hk=>by obtain⟨h1,h2⟩:=hf7 k hk;exact hsame k (by omega) h2)
 ·rcases List.mem_append.1 hy with hy|hy
  ·exact hx9.each y (keepR_mem hy)
  ·rw[List.mem_singleton]at hy
   subst hy
   rw[he]
   refine⟨?_,newRLs_at w9 N hsl⟩
   obtain⟨A',c',e1,hrd,-⟩:=rowS_shape hO
   injection e1 with e1 e2 e3
   subst e1
   refine rd_same hrd (by omega) (fun k hk=>?_)
   obtain⟨h1,h2⟩:=hfA k hk
   exact(hsame k (by omega) (by omega)).trans (hB8.block k (by omega))
set_option maxHeartbeats 8000000 in
theorem refEnter_any(w:World)(x:RX)(hx:x.At w)(h4:x.es.length≤4)(grp s:List (BitVec 8))(hgl:grp.length=32)(hsl:s.length=32)(no leaves leaf:Int):
 Calls Tryz.prog 11 #[.agg x.cells.toArray,arrV b8 grp,.int .i64 no,arrV b8 s,.int .i64 leaves,.int .i64 leaf] w fun e w'=>∃y:RX,e= .returned (.tuple #[.agg y.cells.toArray,.int .i64 (enterE x.m grp no leaves leaf:Int)])∧
  y.m=enterM x.m grp no leaves leaf s∧y.At w'∧(∀k∈y.foot,k∈x.foot∨w.heap.size≤k)∧Below w.heap.size w w':=by
 obtain⟨C,hC⟩:∃C,C=x.cells:=⟨_,rfl⟩
 have HCl:=qq (show C.length=34 by rw[hC];exact boxR_len hx.glen)
 have HC1:=qq (show∀u∈C,u.oneCell'=true by rw[hC];exact boxR_one rfl)
 obtain⟨w1,hw1⟩:∃w1,w1=(((w.alloc (.cells C.toArray 34)).alloc (.cells (grp.map b8).toArray 23)).alloc (.cells (s.map b8).toArray 23)).alloc (.cells zeroRB.toArray 34):=⟨_,rfl⟩
 have HX1:=qq (show Blk w1 w.heap.size 34 C by rw[hw1];exact(((Blk.new w _ _).alloc _).alloc _).alloc _)
 have HA1:=qq (show Arr b8 w1 (w.heap.size+1) 23 grp by
  rw[hw1]
  have h1:=Arr.new b8 (w.alloc (.cells C.toArray 34)) 23 grp
  rw[World.size_alloc]at h1
  exact(h1.alloc _).alloc _)
 have HA2:=qq (show Arr b8 w1 (w.heap.size+2) 23 s by
  rw[hw1]
  have h1:=Arr.new b8 ((w.alloc (.cells C.toArray 34)).alloc (.cells (grp.map b8).toArray 23)) 23 s
  rw[World.size_alloc,World.size_alloc]at h1
  exact h1.alloc _)
 have HZ1:=qq (show Blk w1 (w.heap.size+3) 34 zeroRB by rw[hw1];exact Blk.at_size _ _ (by simp))
 have HB1:=qq (show Below w.heap.size w w1 by rw[hw1];exact((((Below.refl _ w).alloc (Nat.le_refl _) _).alloc (by simp) _).alloc (by simp;omega) _).alloc (by simp;omega) _)
 have hz1:w1.heap.size=w.heap.size+4:=by rw[hw1];simp
 have HR1:=qq (hx.below HB1.out (Nat.le_refl _))
 have HLt:=qq hx.lt
 have HW1:=qq hw1
 have HCe:=qq hC
 have c33:=HX1.out.cell 33 (by rw[hC];exact boxR_33 hx.glen)
 have HSo:=qq (refSound_any leaves w1)
 have HGl:=qq hgl
 have HSl:=qq hsl
 have HH:=qq hx
 have HH4:=qq h4
 obtain⟨E,hE⟩:∃E,E=enterE x.m grp no leaves leaf:=⟨_,rfl⟩
 have hE0:=hE
 unfold enterE at hE0
 rw[show x.m.clr=x.clr from rfl]at hE0
 rw[←hE,←hC,arrV_mk,arrV_mk]
 clear hx hw1 hgl hsl hC h4
 cases hclr:x.clr with
 |true=>
  rw[hclr]at hE0 c33
  rw[if_pos rfl]at hE0
  subst hE0
  have HE:=qq hE.symm
  clear hE hclr
  go_enter Tryz.func11,Tryz.ntmps11
  go_upto_region 1 with fail
  have hw1:=HW1.out
  simp only[zeroRB_lit]at hw1
  rw[←hw1]
  clear hw1
  go_upto_region 2 with fail
  go_wp2_with (first
   |(refine wpList_load_mid rfl 34 (.tmp 6) rfl w.heap.size 0 rfl C _ HX1.out.whole Tryz.underlying34 rfl (by rw[HCl.out];exact infoRBox) ?_)
   |(refine wpList_store_piece rfl 34 (.tmp 12) (.tmp 21) rfl (w.heap.size+3) 0 rfl C rfl 34 _ [] zeroRB [] HZ1.out (by simp) rfl (by rw[HCl.out];rfl) (by rw[HCl.out];exact infoRBox) HC1.out ?_;intro w4 hx4 hg4;have HX4:=qq (show Blk w4 (w.heap.size+3) 34 C from hx4.cast (by simp));have HB4:=qq (HB1.out.grown hg4 HB1.out.size (fun k e=>by cases e;omega));have HR4:=qq (HR1.out.grown hg4 (fun hm=>by have:=HLt.out _ hm;omega));clear hx4 hg4))
  refine bodyPost_ret (v:= .tuple #[.agg C.toArray,.int .i64 10]) (results_blk_tmp (g:=w.heap.size+3) rfl _ _ _ _ _ _ rfl rfl HX4.out Tryz.underlying34 rfl (by rw[HCl.out];exact infoRBox)) rfl ?_
  exact⟨x,by rw[HCe.out];rfl,(enterM_bad (by rw[HE.out];decide)).symm,HR4.out,fun k hk=> .inl hk,HB4.out⟩
 |false=>
  rw[hclr]at hE0 c33
  rw[if_neg (by decide)]at hE0
  cases hsd:soundB leaves with
  |false=>
   rw[if_pos (.inl hsd)]at hE0
   subst hE0
   have HE:=qq hE.symm
   rw[hsd]at HSo
   clear hE hclr hsd
   go_enter Tryz.func11,Tryz.ntmps11
   go_upto_region 1 with fail
   have hw1:=HW1.out
   simp only[zeroRB_lit]at hw1
   rw[←hw1]
   clear hw1
   go_upto_region 3 with fail
   go_wp2_with fail
   refine HSo.out.mono ?_
   rintro e w3 ⟨rfl,rfl⟩
   go_wp2_with (first
    |(refine wpList_load_mid rfl 34 (.tmp 6) rfl w.heap.size 0 rfl C _ HX1.out.whole Tryz.underlying34 rfl (by rw[HCl.out];exact infoRBox) ?_)
    |(refine wpList_store_piece rfl 34 (.tmp 12) (.tmp 34) rfl (w.heap.size+3) 0 rfl C rfl 34 _ [] zeroRB [] HZ1.out (by simp) rfl (by rw[HCl.out];rfl) (by rw[HCl.out];exact infoRBox) HC1.out ?_;intro w4 hx4 hg4;have HX4:=qq (show Blk w4 (w.heap.size+3) 34 C from hx4.cast (by simp));have HB4:=qq (HB1.out.grown hg4 HB1.out.size (fun k e=>by cases e;omega));have HR4:=qq (HR1.out.grown hg4 (fun hm=>by have:=HLt.out _ hm;omega));clear hx4 hg4))
   refine bodyPost_ret (v:= .tuple #[.agg C.toArray,.int .i64 3]) (results_blk_tmp (g:=w.heap.size+3) rfl _ _ _ _ _ _ rfl rfl HX4.out Tryz.underlying34 rfl (by rw[HCl.out];exact infoRBox)) rfl ?_
   exact⟨x,by rw[HCe.out];rfl,(enterM_bad (by rw[HE.out];decide)).symm,HR4.out,fun k hk=> .inl hk,HB4.out⟩
  |true=>
   rw[hsd]at HSo
   by_cases hf0:leaf<0
   ·rw[if_pos (.inr (.inl hf0))]at hE0
    subst hE0
    have HE:=qq hE.symm
    clear hE hclr hsd
    go_enter Tryz.func11,Tryz.ntmps11
    go_upto_region 1 with fail
    have hw1:=HW1.out
    simp only[zeroRB_lit]at hw1
    rw[←hw1]
    clear hw1
    go_upto_region 3 with fail
    go_wp2_with fail
    refine HSo.out.mono ?_
    rintro e w3 ⟨rfl,rfl⟩
    go_wp2_with (first
     |(refine wpList_load_mid rfl 34 (.tmp 6) rfl w.heap.size 0 rfl C _ HX1.out.whole Tryz.underlying34 rfl (by rw[HCl.out];exact infoRBox) ?_)
     |(refine wpList_store_piece rfl 34 (.tmp 12) (.tmp 34) rfl (w.heap.size+3) 0 rfl C rfl 34 _ [] zeroRB [] HZ1.out (by simp) rfl (by rw[HCl.out];rfl) (by rw[HCl.out];exact infoRBox) HC1.out ?_;intro w4 hx4 hg4;have HX4:=qq (show Blk w4 (w.heap.size+3) 34 C from hx4.cast (by simp));have HB4:=qq (HB1.out.grown hg4 HB1.out.size (fun k e=>by cases e;omega));have HR4:=qq (HR1.out.grown hg4 (fun hm=>by have:=HLt.out _ hm;omega));clear hx4 hg4))
    refine bodyPost_ret (v:= .tuple #[.agg C.toArray,.int .i64 3]) (results_blk_tmp (g:=w.heap.size+3) rfl _ _ _ _ _ _ rfl rfl HX4.out Tryz.underlying34 rfl (by rw[HCl.out];exact infoRBox)) rfl ?_
    exact⟨x,by rw[HCe.out];rfl,(enterM_bad (by rw[HE.out];decide)).symm,HR4.out,fun k hk=> .inl hk,HB4.out⟩
   ·by_cases hf1:leaves≤leaf
    ·rw[if_pos (.inr (.inr hf1))]at hE0
     subst hE0
     have HE:=qq hE.symm
     have hf2:leaf≥leaves:=hf1
     clear hE hclr hsd
     go_enter Tryz.func11,Tryz.ntmps11
     go_upto_region 1 with fail
     have hw1:=HW1.out
     simp only[zeroRB_lit]at hw1
     rw[←hw1]
     clear hw1
     go_upto_region 3 with fail
     go_wp2_with fail
     refine HSo.out.mono ?_
     rintro e w3 ⟨rfl,rfl⟩
     go_wp2_with (first
      |(refine wpList_load_mid rfl 34 (.tmp 6) rfl w.heap.size 0 rfl C _ HX1.out.whole Tryz.underlying34 rfl (by rw[HCl.out];exact infoRBox) ?_)
      |(refine wpList_store_piece rfl 34 (.tmp 12) (.tmp 34) rfl (w.heap.size+3) 0 rfl C rfl 34 _ [] zeroRB [] HZ1.out (by simp) rfl (by rw[HCl.out];rfl) (by rw[HCl.out];exact infoRBox) HC1.out ?_;intro w4 hx4 hg4;have HX4:=qq (show Blk w4 (w.heap.size+3) 34 C from hx4.cast (by simp));have HB4:=qq (HB1.out.grown hg4 HB1.out.size (fun k e=>by cases e;omega));have HR4:=qq (HR1.out.grown hg4 (fun hm=>by have:=HLt.out _ hm;omega));clear hx4 hg4))
     refine bodyPost_ret (v:= .tuple #[.agg C.toArray,.int .i64 3]) (results_blk_tmp (g:=w.heap.size+3) rfl _ _ _ _ _ _ rfl rfl HX4.out Tryz.underlying34 rfl (by rw[HCl.out];exact infoRBox)) rfl ?_
     exact⟨x,by rw[HCe.out];rfl,(enterM_bad (by rw[HE.out];decide)).symm,HR4.out,fun k hk=> .inl hk,HB4.out⟩
    ·rw[if_neg (by rw[hsd];simp;omega)]at hE0
     have hf2:¬(leaf≥leaves):=by omega
     have c32:=HX1.out.cell 32 (by rw[HCe.out];exact boxR_32 HH.out.glen)
     obtain⟨m,hm⟩:∃m,m=x.es.length:=⟨_,rfl⟩
     rw[←hm]at c32
     by_cases hn0:no<0
     ·rw[if_pos (.inl hn0)]at hE0
      subst hE0
      have HE:=qq hE.symm
      clear hE hclr hsd hm
      go_enter Tryz.func11,Tryz.ntmps11
      go_upto_region 1 with fail
      have hw1:=HW1.out
      simp only[zeroRB_lit]at hw1
      rw[←hw1]
      clear hw1
      go_upto_region 3 with fail
      go_wp2_with fail
      refine HSo.out.mono ?_
      rintro e w3 ⟨rfl,rfl⟩
      go_wp2_with (first
       |(refine wpList_load_mid rfl 34 (.tmp 6) rfl w.heap.size 0 rfl C _ HX1.out.whole Tryz.underlying34 rfl (by rw[HCl.out];exact infoRBox) ?_)
       |(refine wpList_store_piece rfl 34 (.tmp 12) (.tmp 65) rfl (w.heap.size+3) 0 rfl C rfl 34 _ [] zeroRB [] HZ1.out (by simp) rfl (by rw[HCl.out];rfl) (by rw[HCl.out];exact infoRBox) HC1.out ?_;intro w4 hx4 hg4;have HX4:=qq (show Blk w4 (w.heap.size+3) 34 C from hx4.cast (by simp));have HB4:=qq (HB1.out.grown hg4 HB1.out.size (fun k e=>by cases e;omega));have HR4:=qq (HR1.out.grown hg4 (fun hm=>by have:=HLt.out _ hm;omega));clear hx4 hg4))
      refine bodyPost_ret (v:= .tuple #[.agg C.toArray,.int .i64 6]) (results_blk_tmp (g:=w.heap.size+3) rfl _ _ _ _ _ _ rfl rfl HX4.out Tryz.underlying34 rfl (by rw[HCl.out];exact infoRBox)) rfl ?_
      exact⟨x,by rw[HCe.out];rfl,(enterM_bad (by rw[HE.out];decide)).symm,HR4.out,fun k hk=> .inl hk,HB4.out⟩
     ·by_cases hn1:4294967295<no
      ·rw[if_pos (.inr hn1)]at hE0
       subst hE0
       have HE:=qq hE.symm
       have hn2:no>4294967295:=hn1
       clear hE hclr hsd hm
       go_enter Tryz.func11,Tryz.ntmps11
       go_upto_region 1 with fail
       have hw1:=HW1.out
       simp only[zeroRB_lit]at hw1
       rw[←hw1]
       clear hw1
       go_upto_region 3 with fail
       go_wp2_with fail
       refine HSo.out.mono ?_
       rintro e w3 ⟨rfl,rfl⟩
       go_wp2_with (first
        |(refine wpList_load_mid rfl 34 (.tmp 6) rfl w.heap.size 0 rfl C _ HX1.out.whole Tryz.underlying34 rfl (by rw[HCl.out];exact infoRBox) ?_)
        |(refine wpList_store_piece rfl 34 (.tmp 12) (.tmp 65) rfl (w.heap.size+3) 0 rfl C rfl 34 _ [] zeroRB [] HZ1.out (by simp) rfl (by rw[HCl.out];rfl) (by rw[HCl.out];exact infoRBox) HC1.out ?_;intro w4 hx4 hg4;have HX4:=qq (show Blk w4 (w.heap.size+3) 34 C from hx4.cast (by simp));have HB4:=qq (HB1.out.grown hg4 HB1.out.size (fun k e=>by cases e;omega));have HR4:=qq (HR1.out.grown hg4 (fun hm=>by have:=HLt.out _ hm;omega));clear hx4 hg4))
       refine bodyPost_ret (v:= .tuple #[.agg C.toArray,.int .i64 6]) (results_blk_tmp (g:=w.heap.size+3) rfl _ _ _ _ _ _ rfl rfl HX4.out Tryz.underlying34 rfl (by rw[HCl.out];exact infoRBox)) rfl ?_
       exact⟨x,by rw[HCe.out];rfl,(enterM_bad (by rw[HE.out];decide)).symm,HR4.out,fun k hk=> .inl hk,HB4.out⟩
      ·rw[if_neg (by omega)]at hE0
       have hn2:¬(no>4294967295):=hn1
       have HHm:=qq hm
       have hN1:1≤leaves∧leaves≤32:=by
        obtain⟨k,hk,hlv⟩:=sound_two hsd
        have h1:1≤2^k:=Nat.one_le_two_pow
        have h2:2^k≤2^5:=Nat.pow_le_pow_right (by decide) hk
        rw[hlv];omega
       obtain⟨N,rfl⟩:∃N:Nat,leaves=(N:Int):=⟨leaves.toNat,by omega⟩
       obtain⟨lf,rfl⟩:∃lf:Nat,leaf=(lf:Int):=⟨leaf.toNat,by omega⟩
       have hN32:N≤32:=by omega
       have HZz:=qq hz1
       have HEe:=qq hE
       rcases Nat.eq_zero_or_pos m with he|he
       ·have hes:x.es=[]:=List.eq_nil_of_length_eq_zero (by omega)
        have hmI:¬((m:Int)>0):=by omega
        rw[if_neg (by rw[show x.m.es=[] by unfold RX.m;rw[hes];rfl];simp)]at hE0
        subst hE0
        clear hE hclr hsd hm hes he
        go_enter Tryz.func11,Tryz.ntmps11
        go_upto_region 1 with fail
        have hw1:=HW1.out
        simp only[zeroRB_lit]at hw1
        rw[←hw1]
        clear hw1
        go_upto_region 3 with fail
        go_wp2_with fail
        refine HSo.out.mono ?_
        rintro e w3 ⟨rfl,rfl⟩
        go_upto_region 8 with fail
        have hmle:m≤4:=by have h1:=HHm.out;have h2:=HH4.out;omega
        have HE:=qq HEe.out.symm
        go_upto_region 9 with fail
        obtain⟨w2,hw2⟩:∃w2,w2=w1.alloc (.cells #[.int .i64 no,.int .i64 (lf:Int),.slice none 0 0] 85):=⟨_,rfl⟩
        rw[←hw2]
        have HP2:=qq (show Blk w2 (w.heap.size+4) 85 [.int .i64 no,.int .i64 (lf:Int),.slice none 0 0] by rw[hw2];exact Blk.at_size _ [.int .i64 no,.int .i64 (lf:Int),.slice none 0 0] hz1)
        have HB2:=qq (show Below (w.heap.size+4) w1 w2 by rw[hw2];exact(Below.refl _ w1).alloc (by omega) _)
        have hz2:w.heap.size+5≤w2.heap.size:=by rw[hw2,World.size_alloc];omega
        clear hw2
        go_upto_region 10 with fail
        go_loopw [16] (fun iv wr=>∃(j:Nat) (A:Option Addr) (c:Nat),iv= .int .i64 (j:Int)∧j≤N∧Blk wr (w.heap.size+4) 85 [.int .i64 no,.int .i64 (lf:Int),.slice A j c]∧wr.ownsRow (w.heap.size+5) 89 36 (.slice A j c) j (((List.range j).map (fun i=>startRL (leafS N i s))).flatMap RL.cells)∧Below (w.heap.size+4) w1 wr∧w.heap.size+5≤wr.heap.size) (fun iv _=>N-(intOf iv).toNat)
        case atStart=>exact⟨0,none,0,rfl,Nat.zero_le _,HP2.out,ownsRow_nil _ _ _ _,HB2.out,hz2⟩
        case round=>
         clear HP2 HB2 hz2
         obtain⟨j,A,c,rfl,hj,hp,hown,hb,hzr⟩:=hrel
         have HP:=qq hp
         have HO:=qq hown
         have HB:=qq hb
         clear hp hown hb
         by_cases hlt:j<N
         ·have hja:(j:Int)<(N:Int):=by omega
          obtain⟨z,hz⟩:∃z,z=leafS N j s:=⟨_,rfl⟩
          obtain⟨Z,hZ⟩:∃Z,Z=s.map b8:=⟨_,rfl⟩
          have hlf:=refLeaf_any wr.drew s HSl.out N j hN32 (by omega)
          rw[arrV_mk,arrV_mk,←hz,←hZ]at hlf
          have HLf:=qq hlf
          have HZl:=qq (show z.length=32 by rw[hz];exact downS_len _ _ _ _ HSl.out)
          have HZe:=qq hz
          have HZs:=qq hZ
          have hbz:=built_startRL z HZl.out
          have HCl2:=qq (show(startRL z).cells.length=36 from lineR_len HZl.out)
          have HC12:=qq (show∀u∈ (startRL z).cells,u.oneCell'=true from lineR_one rfl rfl)
          obtain⟨Cz,hCz⟩:∃Cz,Cz=(startRL z).cells:=⟨_,rfl⟩
          rw[←hCz]at hbz HCl2 HC12
          have HCz:=qq hCz
          have hu:=Tryz.underlying23
          have hi32:(Tryz.prog.info? 23).map (·.size)=some Z.length:=by rw[hZ,List.length_map,HSl.out];exact infoSum
          obtain⟨il,hil,hlz,hls,hlb⟩:=info_parts infoRLine
          have hS:wr.drew.rangeAt (w.heap.size+2) 0 Z∧wr.drew.cell? ⟨w.heap.size+4,2,none⟩=some (.slice A j c)∧True:=⟨by rw[hZ];exact(HA2.out.below HB.out (by omega)).whole,HP.out.cell 2 rfl,trivial⟩
          clear hlf hz hZ hCz
          go_upto_region 12 with fail
          refine wp_region_Y (by kernel_rfl) (fun w'=>w'.rangeAt (w.heap.size+2) 0 Z∧w'.cell? ⟨w.heap.size+4,2,none⟩=some (.slice A j c)∧True) 10 ?_
          refine wpAnyY_pure (i:=0) (oi:={dst:=some 74,op:=_,type:=_,pos:=_,after:=_,guard:=_}) (v:= .pointer (some ⟨w.heap.size+4,2,none⟩)) rfl (by kernel_rfl) (by kernel_rfl) (by kernel_rfl) (by kernel_rfl) (fun _ _ _ h=>h) (Or.inl ⟨by rfl,?_⟩) hS ?_
          ·intro w' hw'
           go_simp
          try simp only[Act.put,qj,qz,qv]
          refine wpAnyY_take (i:=1) (oi:={dst:=some 75,op:=_,type:=_,pos:=_,after:=_,guard:=_}) (v:= .slice A j c) rfl (by kernel_rfl) (by kernel_rfl) (by kernel_rfl) (by kernel_rfl) (by kernel_rfl) (fun _ _ _ h=>h) (Or.inl ⟨by rfl,?_⟩) hS ?_
          ·intro w' hw'
           obtain⟨s0,s1,s2⟩:=hw'
           go_simp
          try simp only[Act.put,qj,qz,qv]
          refine wpAnyY_take (i:=2) (oi:={dst:=some 76,op:=_,type:=_,pos:=_,after:=_,guard:=_}) (v:= .agg Z.toArray) rfl (by kernel_rfl) (by kernel_rfl) (by kernel_rfl) (by kernel_rfl) (by kernel_rfl) (fun _ _ _ h=>h) (yieldsIf_load_mid (by rfl) 23 (.tmp 9) rfl (w.heap.size+2) 0 rfl Z _ (fun _ h=>h.1) hu rfl hi32) hS ?_
          try simp only[Act.put,qj,qz,qv]
          refine wpAnyY_pure (i:=3) (oi:={dst:=some 77,op:=_,type:=_,pos:=_,after:=_,guard:=_}) (v:= .int .i64 (N:Int)) rfl (by kernel_rfl) (by kernel_rfl) (by kernel_rfl) (by kernel_rfl) (fun _ _ _ h=>h) (Or.inl ⟨by rfl,?_⟩) hS ?_
          ·intro w' hw'
           go_simp
          try simp only[Act.put,qj,qz,qv]
          refine wpAnyY_pure (i:=4) (oi:={dst:=some 78,op:=_,type:=_,pos:=_,after:=_,guard:=_}) (v:= .int .i64 (j:Int)) rfl (by kernel_rfl) (by kernel_rfl) (by kernel_rfl) (by kernel_rfl) (fun _ _ _ h=>h) (Or.inl ⟨by rfl,?_⟩) hS ?_
          ·intro w' hw'
           go_simp
          try simp only[Act.put,qj,qz,qv]
          refine wpAnyY_one (i:=5) (o:={dst:=some 79,op:=_,type:=_,pos:=_,after:=_,guard:=_}) (by kernel_rfl) rfl (fun K' hK=>?_)
          go_simp
          go_at_call 32
          refine HLf.out.mono ?_
          rintro e w5 ⟨rfl,hb5⟩
          have hB5:Below wr.heap.size wr w5:=(Below.refl wr.heap.size wr).drew.trans hb5
          have HP5:=qq (HP.out.below hB5 (by omega))
          have HB5:=qq (HB.out.trans (hB5.mono (by omega)))
          have HO5:=qq (rowS_below HO.out hB5 (Nat.le_refl _))
          have hz5:=hB5.size
          have hS5:w5.rangeAt (w.heap.size+2) 0 Z∧w5.cell? ⟨w.heap.size+4,2,none⟩=some (.slice A j c)∧True:=⟨by rw[HZs.out];exact(HA2.out.below HB5.out (by omega)).whole,HP5.out.cell 2 rfl,trivial⟩
          clear hb5 hB5 HLf hS
          refine hK _ _ (fun _=>hS5) ?_
          clear hK K'
          try simp only[Act.put,qj,qz,qv]
          have hS:=hS5
          clear hS5
          refine wpAnyY_pure (i:=6) (oi:={dst:=some 80,op:=_,type:=_,pos:=_,after:=_,guard:=_}) (v:= .agg Cz.toArray) rfl (by kernel_rfl) (by kernel_rfl) (by kernel_rfl) (by kernel_rfl) (fun _ _ _ h=>h) (Or.inl ⟨by rfl,?_⟩) hS ?_
          ·intro w' hw'
           exact run_buildE rfl _ rfl hbz w'
          try simp only[Act.put,qj,qz,qv]
          refine wpAnyY_one (i:=7) (o:={dst:=some 81,op:=_,type:=_,pos:=_,after:=_,guard:=_}) (by kernel_rfl) rfl (fun K' hK=>?_)
          refine step_box_slice rfl 83 89 (.tmp 80) rfl il (.agg (lineR (List.replicate 32 0#8) 0 (.slice none 0 0) (.slice none 0 0) 0).toArray) 36 Cz.toArray rfl (by simpa using HCl2.out) (by decide) (by decide) Tryz.underlying83 hil hlz hls rfl ?_
          have HO6:=qq (rowS_below HO5.out ((Below.refl w5.heap.size w5).alloc (Nat.le_refl _) (.cells Cz.toArray 89)) (Nat.le_refl _))
          have HB6:=qq (HB5.out.alloc (by omega) (.cells Cz.toArray 89))
          have HP6:=qq (HP5.out.alloc (.cells Cz.toArray 89))
          have hS6:(w5.alloc (.cells Cz.toArray 89)).rangeAt (w.heap.size+2) 0 Z∧(w5.alloc (.cells Cz.toArray 89)).cell? ⟨w.heap.size+4,2,none⟩=some (.slice A j c)∧True:=⟨by rw[HZs.out];exact(HA2.out.below HB6.out (by omega)).whole,HP6.out.cell 2 rfl,trivial⟩
          refine hK _ _ (fun _=>hS6) ?_
          clear hK K'
          try simp only[Act.put,qj,qz,qv]
          refine wpAnyY_one (i:=8) (o:={dst:=some 82,op:=_,type:=_,pos:=_,after:=_,guard:=_}) (by kernel_rfl) rfl (fun K' hK=>?_)
          refine step_append_row rfl (.tmp 75) (.tmp 81) 83 rfl 36 (by decide) (w.heap.size+5) 89 il (.agg (lineR (List.replicate 32 0#8) 0 (.slice none 0 0) (.slice none 0 0) 0).toArray) 96 Tryz.underlying83 hil hlz hls hlb rfl _ j _ rfl HO6.out (w5.heap.size+1) (some ⟨w5.heap.size,0,none⟩) 1 1 Cz rfl (by rw[HCl2.out]) (by decide) (rdV_new w5 89 Cz) HC12.out (by unfold maxLen;omega) (by omega) (by rw[World.size_alloc];omega) ?_
          intro v7 w7 hown7 hg7 hbb7
          obtain⟨A7,c7,rfl,-⟩:=rowS_shape hown7
          have HB7:=qq (hbb7 (w.heap.size+4) w1 (by omega) HB6.out)
          have HP7:=qq (show Blk w7 (w.heap.size+4) 85 [.int .i64 no,.int .i64 (lf:Int),.slice A j c]from HP6.out.below (hbb7 (w.heap.size+5) _ (Nat.le_refl _) (Below.refl _ _)) (by omega))
          have HO7:=qq hown7
          have hz7:w5.heap.size+1≤w7.heap.size:=by have:=(hbb7 (w.heap.size+5) _ (Nat.le_refl _) (Below.refl _ _)).size;rwa[World.size_alloc]at this
          have c72:=HP7.out.cell 2 rfl
          have f72:=HP7.out.frozen 2
          have hS7:w7.rangeAt (w.heap.size+2) 0 Z∧w7.cell? ⟨w.heap.size+4,2,none⟩=some (.slice A j c)∧True:=⟨by rw[HZs.out];exact(HA2.out.below HB7.out (by omega)).whole,c72,trivial⟩
          clear hown7 hg7 hbb7 hS hS6
          refine hK _ _ (fun _=>hS7) ?_
          clear hK K'
          try simp only[Act.put,qj,qz,qv]
          have hS:=hS7
          clear hS7
          refine wpAnyY_pure (i:=9) (oi:={dst:=some 83,op:=_,type:=_,pos:=_,after:=_,guard:=_}) (v:= .pointer (some ⟨w.heap.size+4,2,none⟩)) rfl (by kernel_rfl) (by kernel_rfl) (by kernel_rfl) (by kernel_rfl) (fun _ _ _ h=>h) (Or.inl ⟨by rfl,?_⟩) hS ?_
          ·intro w' hw'
           go_simp
          try simp only[Act.put,qj,qz,qv]
          refine wpAnyY_one (i:=10) (o:={dst:=none,op:=_,type:=_,pos:=_,after:=_,guard:=_}) (by kernel_rfl) rfl (fun K' hK=>?_)
          go_simp
          refine hK _ _ (fun h=>absurd rfl h) (wpAnyY_done (by kernel_rfl) ?_ _)
          clear hK K' c72 f72 hS
          have HP8:=qq ((HP7.out.set_ 2 (.slice A7 (j+1) c7)).cast rfl)
          have HO8:=qq (show(w7.setCell ⟨w.heap.size+4,2,none⟩ (.slice A7 (j+1) c7)).ownsRow (w.heap.size+5) 89 36 (.slice A7 (j+1) c7) (j+1) (((List.range (j+1)).map (fun i=>startRL (leafS N i s))).flatMap RL.cells) by
           rw[List.range_succ,List.map_append,List.flatMap_append,List.map_singleton,List.flatMap_singleton,←HZe.out,←HCz.out]
           exact ownsRow_setCell_below HO7.out (by show w.heap.size+4<w.heap.size+5;omega) _)
          have HB8:=qq (HB7.out.setCell (p:=⟨w.heap.size+4,2,none⟩) (Nat.le_refl _) (.slice A7 (j+1) c7))
          have hz8:w.heap.size+5≤(w7.setCell ⟨w.heap.size+4,2,none⟩ (.slice A7 (j+1) c7)).heap.size:=by simp[World.setCell];omega
          clear HP HO HB HP5 HB5 HO5 HO6 HB6 HP6 HB7 HP7 HO7
          go_wp2_with fail
          go_roundw
          case rel=>exact⟨j+1,A7,c7,by go_num,by omega,HP8.out,HO8.out,HB8.out,hz8⟩
          case measure=>simp[intOf]<;>omega
         ·obtain rfl:N=j:=by omega
          have hja:¬((N:Int)<(N:Int)):=by omega
          go_upto_region 13 with fail
          go_upto_region 14 with(first
           |(refine wpList_load_arr rfl 23 (.tmp 7) rfl (w.heap.size+1) rfl _ grp (HA1.out.below HB.out (by omega)) _ Tryz.underlying23 rfl (by rw[HGl.out];exact infoSum) ?_)
           |(refine wpList_bparts rfl 34 [(0,.tmp 84)] rfl (boxR grp (.slice none 0 0) false).toArray [(0,.agg (grp.map b8).toArray)] rfl (built_grpRB grp HGl.out) ?_)
           |(refine wpList_store_piece rfl 34 (.tmp 17) (.tmp 85) rfl wr.heap.size 0 rfl (boxR grp (.slice none 0 0) false) rfl 34 _ [] zeroRB [] (Blk.new wr _ zeroRB) (by simp) rfl (by rw[boxR_len HGl.out];rfl) (by rw[boxR_len HGl.out];exact infoRBox) (boxR_one rfl) ?_;intro w3 hx3 hg3))
          try simp only[Act.put,qj,qz,qv]
          obtain⟨wq,rfl⟩:∃wq,wq=wr:=⟨_,rfl⟩
          obtain⟨G,hG⟩:∃G,G=wq.heap.size:=⟨_,rfl⟩
          have HG3:=qq (show Blk w3 G 34 (boxR grp (.slice none 0 0) false) by rw[hG];exact hx3.cast (by simp))
          have HB3:=qq (show Below G wq w3 from((Below.refl _ wq).alloc (by omega) (.cells zeroRB.toArray 34)).grown hg3 (by rw[World.size_alloc];omega) (fun k e=>by cases e;omega))
          have hz3:G+1≤w3.heap.size:=by have:=hg3.size;rw[World.size_alloc]at this;omega
          have hGz:w.heap.size+5≤G:=by omega
          have HGe:=qq hG
          rw[←hG]
          clear hx3 hg3 hG
          go_upto_region 15 with fail
          go_loopw [18] (fun iv wr=>∃(k:Nat) (A2:Option Addr) (c2:Nat),iv= .int .i64 (k:Int)∧k≤m∧Blk wr G 34 (boxR grp (.slice A2 (keepR m x.es k).length c2) false)∧wr.ownsRow (G+1) 85 3 (.slice A2 (keepR m x.es k).length c2) (keepR m x.es k).length ((keepR m x.es k).flatMap RE.cells)∧Below G wq wr∧G+1≤wr.heap.size) (fun iv _=>m-(intOf iv).toNat)
          case atStart=>exact⟨0,none,0,rfl,Nat.zero_le _,by rw[keepR_zero];exact HG3.out,by rw[keepR_zero];exact ownsRow_nil _ _ _ _,HB3.out,hz3⟩
          case round=>
           clear HG3 HB3 hz3
           obtain⟨k,A2,c2,rfl,hk,hgb,hrow,hbx,hzx⟩:=hrel
           obtain⟨L,hL⟩:∃L,L=(keepR m x.es k).length:=⟨_,rfl⟩
           rw[←hL]at hgb hrow
           have hL4:L≤4:=by have:=keepR_len m x.es k;have:=HH4.out;omega
           have HGb:=qq hgb
           have HRo:=qq hrow
           have HBx:=qq hbx
           have HB9:=qq (HB.out.trans (hbx.mono (by omega)))
           have HL:=qq hL
           clear hgb hrow hbx hL
           by_cases hlt2:k<m
           ·have hkx:k<x.es.length:=by rw[←HHm.out];exact hlt2
            obtain⟨e,he0⟩:∃e,e=x.es[k]:=⟨_,rfl⟩
            have hke:x.es[k]?=some e:=by rw[he0,List.getElem?_eq_getElem hkx]
            obtain⟨b,off,hA,hbl,hcl⟩:=RdV.elem HR1.out.rows (fun y _=>RE.cells_len y) (by decide) hke
            have hbw:b<w.heap.size:=HLt.out b (by unfold RX.foot;rw[hA];simp[optBlk])
            obtain⟨ec,hec⟩:∃ec,ec=e.cells:=⟨_,rfl⟩
            rw[←hec]at hcl
            have hel:ec.length=3:=by rw[hec];rfl
            have hsz1:=HB1.out.size
            have hrg:wr.drew.rangeAt b (off+k*3) ec:=fun j u hu=>by
             have h:=hcl j u hu
             rw[Nat.mul_comm 3 k]at h
             exact(HB9.out.cell (p:=⟨b,off+k*3+j,none⟩) (by show b<_;omega)).trans h
            have hcx:wr.drew.cell? ⟨w.heap.size,32,none⟩=some (.slice (some ⟨b,off,none⟩) m x.c):=by
             rw[←hA]
             exact(HB9.out.cell (p:=⟨w.heap.size,32,none⟩) (by show w.heap.size<_;omega)).trans c32
            have hcg:wr.drew.cell? ⟨G,32,none⟩=some (.slice A2 L c2):=HGb.out.cell 32 (boxR_32 HGl.out)
            have hlk:(k:Int)<(m:Int):=by omega
            have hi1:(0:Int)≤(k:Int):=by omega
            have HKe:=qq hke
            have HEc:=qq hec
            have HEl:=qq hel
            have HAx:=qq hA
            have Hrg:=qq hrg
            have Hcx:=qq hcx
            have Hcg:=qq hcg
            have Hcl:=qq hcl
            clear he0 hke hA hec hel hrg hcx hcg hcl
            by_cases hm4:m<4
            ·have hm4i:(m:Int)<4:=by omega
             have hkp:m<4∨0<k:= .inl hm4
             go_upto_region 17 with fail
             go_upto_region 18 with fail
             have hS:wr.drew.cell? ⟨G,32,none⟩=some (.slice A2 L c2)∧wr.drew.cell? ⟨w.heap.size,32,none⟩=some (.slice (some ⟨b,off,none⟩) m x.c)∧wr.drew.rangeAt b (off+k*3) ec:=⟨Hcg.out,Hcx.out,Hrg.out⟩
             obtain⟨ie,hie,hez,hes,heb⟩:=info_parts infoREpoch
             have hu:=Tryz.underlying85
             have hi3:(Tryz.prog.info? 85).map (·.size)=some ec.length:=by rw[HEl.out];exact sizeREpoch
             have hiw:IntKind.i64.wrap (k:Int)=(k:Int):=IntWalk.i64_in _ (by omega)
             refine wp_region_Y (by kernel_rfl) (fun w'=>w'.cell? ⟨G,32,none⟩=some (.slice A2 L c2)∧w'.cell? ⟨w.heap.size,32,none⟩=some (.slice (some ⟨b,off,none⟩) m x.c)∧w'.rangeAt b (off+k*3) ec) 10 ?_
             refine wpAnyY_pure (i:=0) (oi:={dst:=some 97,op:=_,type:=_,pos:=_,after:=_,guard:=_}) (v:= .pointer (some ⟨G,32,none⟩)) rfl (by kernel_rfl) (by kernel_rfl) (by kernel_rfl) (by kernel_rfl) (fun _ _ _ h=>h) (Or.inl ⟨by rfl,?_⟩) hS ?_
             ·intro w' hw'
              go_simp
             try simp only[Act.put,qj,qz,qv]
             refine wpAnyY_take (i:=1) (oi:={dst:=some 98,op:=_,type:=_,pos:=_,after:=_,guard:=_}) (v:= .slice A2 L c2) rfl (by kernel_rfl) (by kernel_rfl) (by kernel_rfl) (by kernel_rfl) (by kernel_rfl) (fun _ _ _ h=>h) (Or.inl ⟨by rfl,?_⟩) hS ?_
             ·intro w' hw'
              obtain⟨s0,s1,s2⟩:=hw'
              go_simp
             try simp only[Act.put,qj,qz,qv]
             refine wpAnyY_pure (i:=2) (oi:={dst:=some 99,op:=_,type:=_,pos:=_,after:=_,guard:=_}) (v:= .pointer (some ⟨w.heap.size,32,none⟩)) rfl (by kernel_rfl) (by kernel_rfl) (by kernel_rfl) (by kernel_rfl) (fun _ _ _ h=>h) (Or.inl ⟨by rfl,?_⟩) hS ?_
             ·intro w' hw'
              go_simp
             try simp only[Act.put,qj,qz,qv]
             refine wpAnyY_take (i:=3) (oi:={dst:=some 100,op:=_,type:=_,pos:=_,after:=_,guard:=_}) (v:= .slice (some ⟨b,off,none⟩) m x.c) rfl (by kernel_rfl) (by kernel_rfl) (by kernel_rfl) (by kernel_rfl) (by kernel_rfl) (fun _ _ _ h=>h) (Or.inl ⟨by rfl,?_⟩) hS ?_
             ·intro w' hw'
              obtain⟨s0,s1,s2⟩:=hw'
              go_simp
             try simp only[Act.put,qj,qz,qv]
             refine wpAnyY_pure (i:=4) (oi:={dst:=some 101,op:=_,type:=_,pos:=_,after:=_,guard:=_}) (v:= .int .i64 (k:Int)) rfl (by kernel_rfl) (by kernel_rfl) (by kernel_rfl) (by kernel_rfl) (fun _ _ _ h=>h) (Or.inl ⟨by rfl,?_⟩) hS ?_
             ·intro w' hw'
              go_simp
             try simp only[Act.put,qj,qz,qv]
             refine wpAnyY_pure (i:=5) (oi:={dst:=some 102,op:=_,type:=_,pos:=_,after:=_,guard:=_}) (v:= .pointer (some ⟨b,off+k*3,none⟩)) rfl (by kernel_rfl) (by kernel_rfl) (by kernel_rfl) (by kernel_rfl) (fun _ _ _ h=>h) (Or.inl ⟨by rfl,?_⟩) hS ?_
             ·intro w' hw'
              go_simp
             try simp only[Act.put,qj,qz,qv]
             refine wpAnyY_take (i:=6) (oi:={dst:=some 103,op:=_,type:=_,pos:=_,after:=_,guard:=_}) (v:= .agg ec.toArray) rfl (by kernel_rfl) (by kernel_rfl) (by kernel_rfl) (by kernel_rfl) (by kernel_rfl) (fun _ _ _ h=>h) (yieldsIf_load_mid (by rfl) 85 (.tmp 102) rfl b (off+k*3) rfl ec _ (fun _ h=>h.2.2) hu rfl hi3) hS ?_
             try simp only[Act.put,qj,qz,qv]
             refine wpAnyY_one (i:=7) (o:={dst:=some 104,op:=_,type:=_,pos:=_,after:=_,guard:=_}) (by kernel_rfl) rfl (fun K' hK=>?_)
             refine step_box_slice rfl 32 85 (.tmp 103) rfl ie (.agg #[.int .i64 0,.int .i64 0,.slice none 0 0]) 3 ec.toArray rfl (by simpa using HEl.out) (by decide) (by decide) Tryz.underlying32 hie hez hes rfl ?_
             have HBa:=qq (show Below (G+1) wr (wr.drew.alloc (.cells ec.toArray 85))from(Below.refl (G+1) wr).drew.alloc (by show G+1≤wr.heap.size;omega) _)
             have HRa:=qq (show(wr.drew.alloc (.cells ec.toArray 85)).ownsRow (G+1) 85 3 (.slice A2 L c2) L ((keepR m x.es k).flatMap RE.cells)from rowS_below HRo.out ((Below.refl wr.heap.size wr).drew.alloc (Nat.le_refl _) (.cells ec.toArray 85)) (Nat.le_refl _))
             have HGa:=qq (show Blk (wr.drew.alloc (.cells ec.toArray 85)) G 34 _ from HGb.out.drew.alloc (.cells ec.toArray 85))
             have hSa:(wr.drew.alloc (.cells ec.toArray 85)).cell? ⟨G,32,none⟩=some (.slice A2 L c2)∧(wr.drew.alloc (.cells ec.toArray 85)).cell? ⟨w.heap.size,32,none⟩=some (.slice (some ⟨b,off,none⟩) m x.c)∧(wr.drew.alloc (.cells ec.toArray 85)).rangeAt b (off+k*3) ec:=
              ⟨HGa.out.cell 32 (boxR_32 HGl.out),(HBa.out.cell (p:=⟨w.heap.size,32,none⟩) (by show w.heap.size<_;omega)).trans Hcx.out,fun j u hu=>(HBa.out.cell (p:=⟨b,off+k*3+j,none⟩) (by show b<_;omega)).trans (Hrg.out j u hu)⟩
             refine hK _ _ (fun _=>hSa) ?_
             clear hK K'
             try simp only[Act.put,qj,qz,qv]
             refine wpAnyY_one (i:=8) (o:={dst:=some 105,op:=_,type:=_,pos:=_,after:=_,guard:=_}) (by kernel_rfl) rfl (fun K' hK=>?_)
             refine step_append_row rfl (.tmp 98) (.tmp 104) 32 rfl 3 (by decide) (G+1) 85 ie (.agg #[.int .i64 0,.int .i64 0,.slice none 0 0]) 40 Tryz.underlying32 hie hez hes heb rfl _ L _ rfl HRa.out (wr.drew.heap.size+1) (some ⟨wr.drew.heap.size,0,none⟩) 1 1 ec rfl (by rw[HEl.out]) (by decide) (rdV_new wr.drew 85 ec) (by rw[HEc.out];exact RE.cells_one e) (by unfold maxLen;omega) (by omega) (by rw[World.size_alloc];show G+1≤wr.heap.size+1;omega) ?_
             intro v7 w7 hown7 hg7 hbb7
             obtain⟨A7,c7,rfl,-⟩:=rowS_shape hown7
             have HB7:=qq (hbb7 (G+1) _ (Nat.le_refl _) HBa.out)
             have HG7:=qq (show Blk w7 G 34 (boxR grp (.slice A2 L c2) false)from HGa.out.below (hbb7 (G+1) _ (Nat.le_refl _) (Below.refl _ _)) (by omega))
             have HO7:=qq hown7
             have c7g:=HG7.out.cell 32 (boxR_32 HGl.out)
             have f7g:=HG7.out.frozen 32
             have hS7:w7.cell? ⟨G,32,none⟩=some (.slice A2 L c2)∧w7.cell? ⟨w.heap.size,32,none⟩=some (.slice (some ⟨b,off,none⟩) m x.c)∧w7.rangeAt b (off+k*3) ec:=
              ⟨c7g,(HB7.out.cell (p:=⟨w.heap.size,32,none⟩) (by show w.heap.size<_;omega)).trans Hcx.out,fun j u hu=>(HB7.out.cell (p:=⟨b,off+k*3+j,none⟩) (by show b<_;omega)).trans (Hrg.out j u hu)⟩
             clear hown7 hg7 hbb7 hS hSa
             refine hK _ _ (fun _=>hS7) ?_
             clear hK K'
             try simp only[Act.put,qj,qz,qv]
             have hS:=hS7
             clear hS7
             refine wpAnyY_pure (i:=9) (oi:={dst:=some 106,op:=_,type:=_,pos:=_,after:=_,guard:=_}) (v:= .pointer (some ⟨G,32,none⟩)) rfl (by kernel_rfl) (by kernel_rfl) (by kernel_rfl) (by kernel_rfl) (fun _ _ _ h=>h) (Or.inl ⟨by rfl,?_⟩) hS ?_
             ·intro w' hw'
              go_simp
             try simp only[Act.put,qj,qz,qv]
             refine wpAnyY_one (i:=10) (o:={dst:=none,op:=_,type:=_,pos:=_,after:=_,guard:=_}) (by kernel_rfl) rfl (fun K' hK=>?_)
             go_simp
             refine hK _ _ (fun h=>absurd rfl h) (wpAnyY_done (by kernel_rfl) ?_ _)
             clear hK K' c7g f7g hS
             have hks:keepR m x.es (k+1)=keepR m x.es k++ [e]:=keepR_succ HKe.out hkp
             have HG8:=qq (show Blk (w7.setCell ⟨G,32,none⟩ (.slice A7 (L+1) c7)) G 34 (boxR grp (.slice A7 (keepR m x.es (k+1)).length c7) false)from(HG7.out.set_ 32 _).cast (by rw[boxR_set32 HGl.out,hks,List.length_append,←HL.out];rfl))
             have HO8:=qq (show(w7.setCell ⟨G,32,none⟩ (.slice A7 (L+1) c7)).ownsRow (G+1) 85 3 (.slice A7 (keepR m x.es (k+1)).length c7) (keepR m x.es (k+1)).length ((keepR m x.es (k+1)).flatMap RE.cells) by
              rw[hks,List.length_append,List.flatMap_append,List.flatMap_singleton,←HL.out,←HEc.out]
              exact ownsRow_setCell_below HO7.out (by show G<G+1;omega) _)
             have HB8:=qq (show Below G wq (w7.setCell ⟨G,32,none⟩ (.slice A7 (L+1) c7))from(HBx.out.trans (HB7.out.mono (by omega))).setCell (Nat.le_refl _) _)
             have hz8:G+1≤(w7.setCell ⟨G,32,none⟩ (.slice A7 (L+1) c7)).heap.size:=by have:=HB7.out.size;simp[World.setCell];omega
             clear hks HGb HRo HBx HB9 HBa HRa HGa HB7 HG7 HO7
             go_wp2_with fail
             go_roundw
             case rel=>exact⟨k+1,A7,c7,by go_num,by omega,HG8.out,HO8.out,HB8.out,hz8⟩
             case measure=>simp[intOf]<;>omega
            ·have hm4i:¬((m:Int)<4):=by omega
             by_cases hk0:0<k
             ·have hk0i:(k:Int)>0:=by omega
              have hkp:m<4∨0<k:= .inr hk0
              go_upto_region 17 with fail
              go_upto_region 18 with fail
              have hS:wr.drew.cell? ⟨G,32,none⟩=some (.slice A2 L c2)∧wr.drew.cell? ⟨w.heap.size,32,none⟩=some (.slice (some ⟨b,off,none⟩) m x.c)∧wr.drew.rangeAt b (off+k*3) ec:=⟨Hcg.out,Hcx.out,Hrg.out⟩
              obtain⟨ie,hie,hez,hes,heb⟩:=info_parts infoREpoch
              have hu:=Tryz.underlying85
              have hi3:(Tryz.prog.info? 85).map (·.size)=some ec.length:=by rw[HEl.out];exact sizeREpoch
              have hiw:IntKind.i64.wrap (k:Int)=(k:Int):=IntWalk.i64_in _ (by omega)
              refine wp_region_Y (by kernel_rfl) (fun w'=>w'.cell? ⟨G,32,none⟩=some (.slice A2 L c2)∧w'.cell? ⟨w.heap.size,32,none⟩=some (.slice (some ⟨b,off,none⟩) m x.c)∧w'.rangeAt b (off+k*3) ec) 10 ?_
              refine wpAnyY_pure (i:=0) (oi:={dst:=some 97,op:=_,type:=_,pos:=_,after:=_,guard:=_}) (v:= .pointer (some ⟨G,32,none⟩)) rfl (by kernel_rfl) (by kernel_rfl) (by kernel_rfl) (by kernel_rfl) (fun _ _ _ h=>h) (Or.inl ⟨by rfl,?_⟩) hS ?_
              ·intro w' hw'
               go_simp
              try simp only[Act.put,qj,qz,qv]
              refine wpAnyY_take (i:=1) (oi:={dst:=some 98,op:=_,type:=_,pos:=_,after:=_,guard:=_}) (v:= .slice A2 L c2) rfl (by kernel_rfl) (by kernel_rfl) (by kernel_rfl) (by kernel_rfl) (by kernel_rfl) (fun _ _ _ h=>h) (Or.inl ⟨by rfl,?_⟩) hS ?_
              ·intro w' hw'
               obtain⟨s0,s1,s2⟩:=hw'
               go_simp
              try simp only[Act.put,qj,qz,qv]
              refine wpAnyY_pure (i:=2) (oi:={dst:=some 99,op:=_,type:=_,pos:=_,after:=_,guard:=_}) (v:= .pointer (some ⟨w.heap.size,32,none⟩)) rfl (by kernel_rfl) (by kernel_rfl) (by kernel_rfl) (by kernel_rfl) (fun _ _ _ h=>h) (Or.inl ⟨by rfl,?_⟩) hS ?_
              ·intro w' hw'
               go_simp
              try simp only[Act.put,qj,qz,qv]
              refine wpAnyY_take (i:=3) (oi:={dst:=some 100,op:=_,type:=_,pos:=_,after:=_,guard:=_}) (v:= .slice (some ⟨b,off,none⟩) m x.c) rfl (by kernel_rfl) (by kernel_rfl) (by kernel_rfl) (by kernel_rfl) (by kernel_rfl) (fun _ _ _ h=>h) (Or.inl ⟨by rfl,?_⟩) hS ?_
              ·intro w' hw'
               obtain⟨s0,s1,s2⟩:=hw'
               go_simp
              try simp only[Act.put,qj,qz,qv]
              refine wpAnyY_pure (i:=4) (oi:={dst:=some 101,op:=_,type:=_,pos:=_,after:=_,guard:=_}) (v:= .int .i64 (k:Int)) rfl (by kernel_rfl) (by kernel_rfl) (by kernel_rfl) (by kernel_rfl) (fun _ _ _ h=>h) (Or.inl ⟨by rfl,?_⟩) hS ?_
              ·intro w' hw'
               go_simp
              try simp only[Act.put,qj,qz,qv]
              refine wpAnyY_pure (i:=5) (oi:={dst:=some 102,op:=_,type:=_,pos:=_,after:=_,guard:=_}) (v:= .pointer (some ⟨b,off+k*3,none⟩)) rfl (by kernel_rfl) (by kernel_rfl) (by kernel_rfl) (by kernel_rfl) (fun _ _ _ h=>h) (Or.inl ⟨by rfl,?_⟩) hS ?_
              ·intro w' hw'
               go_simp
              try simp only[Act.put,qj,qz,qv]
              refine wpAnyY_take (i:=6) (oi:={dst:=some 103,op:=_,type:=_,pos:=_,after:=_,guard:=_}) (v:= .agg ec.toArray) rfl (by kernel_rfl) (by kernel_rfl) (by kernel_rfl) (by kernel_rfl) (by kernel_rfl) (fun _ _ _ h=>h) (yieldsIf_load_mid (by rfl) 85 (.tmp 102) rfl b (off+k*3) rfl ec _ (fun _ h=>h.2.2) hu rfl hi3) hS ?_
              try simp only[Act.put,qj,qz,qv]
              refine wpAnyY_one (i:=7) (o:={dst:=some 104,op:=_,type:=_,pos:=_,after:=_,guard:=_}) (by kernel_rfl) rfl (fun K' hK=>?_)
              refine step_box_slice rfl 32 85 (.tmp 103) rfl ie (.agg #[.int .i64 0,.int .i64 0,.slice none 0 0]) 3 ec.toArray rfl (by simpa using HEl.out) (by decide) (by decide) Tryz.underlying32 hie hez hes rfl ?_
              have HBa:=qq (show Below (G+1) wr (wr.drew.alloc (.cells ec.toArray 85))from(Below.refl (G+1) wr).drew.alloc (by show G+1≤wr.heap.size;omega) _)
              have HRa:=qq (show(wr.drew.alloc (.cells ec.toArray 85)).ownsRow (G+1) 85 3 (.slice A2 L c2) L ((keepR m x.es k).flatMap RE.cells)from rowS_below HRo.out ((Below.refl wr.heap.size wr).drew.alloc (Nat.le_refl _) (.cells ec.toArray 85)) (Nat.le_refl _))
              have HGa:=qq (show Blk (wr.drew.alloc (.cells ec.toArray 85)) G 34 _ from HGb.out.drew.alloc (.cells ec.toArray 85))
              have hSa:(wr.drew.alloc (.cells ec.toArray 85)).cell? ⟨G,32,none⟩=some (.slice A2 L c2)∧(wr.drew.alloc (.cells ec.toArray 85)).cell? ⟨w.heap.size,32,none⟩=some (.slice (some ⟨b,off,none⟩) m x.c)∧(wr.drew.alloc (.cells ec.toArray 85)).rangeAt b (off+k*3) ec:=
               ⟨HGa.out.cell 32 (boxR_32 HGl.out),(HBa.out.cell (p:=⟨w.heap.size,32,none⟩) (by show w.heap.size<_;omega)).trans Hcx.out,fun j u hu=>(HBa.out.cell (p:=⟨b,off+k*3+j,none⟩) (by show b<_;omega)).trans (Hrg.out j u hu)⟩
              refine hK _ _ (fun _=>hSa) ?_
              clear hK K'
              try simp only[Act.put,qj,qz,qv]
              refine wpAnyY_one (i:=8) (o:={dst:=some 105,op:=_,type:=_,pos:=_,after:=_,guard:=_}) (by kernel_rfl) rfl (fun K' hK=>?_)
              refine step_append_row rfl (.tmp 98) (.tmp 104) 32 rfl 3 (by decide) (G+1) 85 ie (.agg #[.int .i64 0,.int .i64 0,.slice none 0 0]) 40 Tryz.underlying32 hie hez hes heb rfl _ L _ rfl HRa.out (wr.drew.heap.size+1) (some ⟨wr.drew.heap.size,0,none⟩) 1 1 ec rfl (by rw[HEl.out]) (by decide) (rdV_new wr.drew 85 ec) (by rw[HEc.out];exact RE.cells_one e) (by unfold maxLen;omega) (by omega) (by rw[World.size_alloc];show G+1≤wr.heap.size+1;omega) ?_
              intro v7 w7 hown7 hg7 hbb7
              obtain⟨A7,c7,rfl,-⟩:=rowS_shape hown7
              have HB7:=qq (hbb7 (G+1) _ (Nat.le_refl _) HBa.out)
              have HG7:=qq (show Blk w7 G 34 (boxR grp (.slice A2 L c2) false)from HGa.out.below (hbb7 (G+1) _ (Nat.le_refl _) (Below.refl _ _)) (by omega))
              have HO7:=qq hown7
              have c7g:=HG7.out.cell 32 (boxR_32 HGl.out)
              have f7g:=HG7.out.frozen 32
              have hS7:w7.cell? ⟨G,32,none⟩=some (.slice A2 L c2)∧w7.cell? ⟨w.heap.size,32,none⟩=some (.slice (some ⟨b,off,none⟩) m x.c)∧w7.rangeAt b (off+k*3) ec:=
               ⟨c7g,(HB7.out.cell (p:=⟨w.heap.size,32,none⟩) (by show w.heap.size<_;omega)).trans Hcx.out,fun j u hu=>(HB7.out.cell (p:=⟨b,off+k*3+j,none⟩) (by show b<_;omega)).trans (Hrg.out j u hu)⟩
              clear hown7 hg7 hbb7 hS hSa
              refine hK _ _ (fun _=>hS7) ?_
              clear hK K'
              try simp only[Act.put,qj,qz,qv]
              have hS:=hS7
              clear hS7
              refine wpAnyY_pure (i:=9) (oi:={dst:=some 106,op:=_,type:=_,pos:=_,after:=_,guard:=_}) (v:= .pointer (some ⟨G,32,none⟩)) rfl (by kernel_rfl) (by kernel_rfl) (by kernel_rfl) (by kernel_rfl) (fun _ _ _ h=>h) (Or.inl ⟨by rfl,?_⟩) hS ?_
              ·intro w' hw'
               go_simp
              try simp only[Act.put,qj,qz,qv]
              refine wpAnyY_one (i:=10) (o:={dst:=none,op:=_,type:=_,pos:=_,after:=_,guard:=_}) (by kernel_rfl) rfl (fun K' hK=>?_)
              go_simp
              refine hK _ _ (fun h=>absurd rfl h) (wpAnyY_done (by kernel_rfl) ?_ _)
              clear hK K' c7g f7g hS
              have hks:keepR m x.es (k+1)=keepR m x.es k++ [e]:=keepR_succ HKe.out hkp
              have HG8:=qq (show Blk (w7.setCell ⟨G,32,none⟩ (.slice A7 (L+1) c7)) G 34 (boxR grp (.slice A7 (keepR m x.es (k+1)).length c7) false)from(HG7.out.set_ 32 _).cast (by rw[boxR_set32 HGl.out,hks,List.length_append,←HL.out];rfl))
              have HO8:=qq (show(w7.setCell ⟨G,32,none⟩ (.slice A7 (L+1) c7)).ownsRow (G+1) 85 3 (.slice A7 (keepR m x.es (k+1)).length c7) (keepR m x.es (k+1)).length ((keepR m x.es (k+1)).flatMap RE.cells) by
               rw[hks,List.length_append,List.flatMap_append,List.flatMap_singleton,←HL.out,←HEc.out]
               exact ownsRow_setCell_below HO7.out (by show G<G+1;omega) _)
              have HB8:=qq (show Below G wq (w7.setCell ⟨G,32,none⟩ (.slice A7 (L+1) c7))from(HBx.out.trans (HB7.out.mono (by omega))).setCell (Nat.le_refl _) _)
              have hz8:G+1≤(w7.setCell ⟨G,32,none⟩ (.slice A7 (L+1) c7)).heap.size:=by have:=HB7.out.size;simp[World.setCell];omega
              clear hks HGb HRo HBx HB9 HBa HRa HGa HB7 HG7 HO7
              go_wp2_with fail
              go_roundw
              case rel=>exact⟨k+1,A7,c7,by go_num,by omega,HG8.out,HO8.out,HB8.out,hz8⟩
              case measure=>simp[intOf]<;>omega
             ·have hk0i:¬((k:Int)>0):=by omega
              go_wp2_with fail
              go_roundw
              case rel=>
               have hkk:keepR m x.es (k+1)=keepR m x.es k:=by
                have:k=0:=by omega
                rw[this,keepR_skip _ hm4,keepR_zero]
               exact⟨k+1,A2,c2,by go_num,by omega,by rw[hkk,←HL.out];exact HGb.out,by rw[hkk,←HL.out];exact HRo.out,HBx.out,hzx⟩
              case measure=>simp[intOf]<;>omega
           ·obtain rfl:m=k:=by omega
            have hlk:¬((m:Int)<(m:Int)):=by omega
            go_upto_region 19 with fail
            obtain⟨ie,hie,hez,hes,heb⟩:=info_parts infoREpoch
            obtain⟨ec,hec⟩:∃ec,ec=[Value.int .i64 no,.int .i64 (lf:Int),.slice A N c]:=⟨_,rfl⟩
            have HPx:=qq (show Blk wr (w.heap.size+4) 85 ec by rw[hec];exact HP.out.below HBx.out (by omega))
            have HEl:=qq (show ec.length=3 by rw[hec];rfl)
            have HE1:=qq (show∀u∈ec,u.oneCell'=true by rw[hec];intro u hu;simp only[List.mem_cons,List.not_mem_nil,or_false]at hu;rcases hu with rfl|rfl|rfl<;>rfl)
            have HEc:=qq hec
            have hcg:wr.cell? ⟨G,32,none⟩=some (.slice A2 L c2):=HGb.out.cell 32 (boxR_32 HGl.out)
            have HRb:=qq (rowS_below HRo.out ((Below.refl wr.heap.size wr).alloc (Nat.le_refl _) (.cells ec.toArray 85)) (Nat.le_refl _))
            clear hec
            have tokL:True:=trivial
            have tokB:True:=trivial
            have tokA:True:=trivial
            go_upto_region 20 with(first
             |(have _t:=tokA;at_builtin;refine wpList_append_row rfl _ _ 32 rfl 3 (by decide) (G+1) 85 ie (.agg #[.int .i64 0,.int .i64 0,.slice none 0 0]) 40 Tryz.underlying32 hie hez hes heb rfl _ L _ rfl HRb.out (wr.heap.size+1) (some ⟨wr.heap.size,0,none⟩) 1 1 ec rfl (by rw[HEl.out]) (by decide) (rdV_new wr 85 ec) HE1.out (by unfold maxLen;omega) (by omega) (by rw[World.size_alloc];omega) ?_
               intro v7 w7 hown7 hg7 hbb7
               obtain⟨A7,c7,rfl,-⟩:=rowS_shape hown7
               have HBa:=qq (show Below (G+1) wr (wr.alloc (.cells ec.toArray 85))from(Below.refl (G+1) wr).alloc (by omega) _)
               have HB7:=qq (hbb7 (G+1) _ (Nat.le_refl _) HBa.out)
               have HG7:=qq (show Blk w7 G 34 (boxR grp (.slice A2 L c2) false)from HGb.out.below HB7.out (by omega))
               have HO7:=qq hown7
               have c7g:=HG7.out.cell 32 (boxR_32 HGl.out)
               have f7g:=HG7.out.frozen 32
               clear hown7 hg7 hbb7 tokA _t)
             |(have _t:=tokL;refine wpList_load_mid rfl 85 (.tmp 15) rfl (w.heap.size+4) 0 rfl ec _ HPx.out.whole Tryz.underlying85 rfl (by rw[HEl.out];exact sizeREpoch) ?_;clear tokL _t)
             |(have _t:=tokB;refine wpList_box_slice rfl 32 85 (.tmp 109) rfl ie (.agg #[.int .i64 0,.int .i64 0,.slice none 0 0]) 3 ec.toArray rfl (by simpa using HEl.out) (by decide) (by decide) Tryz.underlying32 hie hez hes rfl ?_;clear tokB _t))
            have HG8:=qq (show Blk (w7.setCell ⟨G,32,none⟩ (.slice A7 (L+1) c7)) G 34 (boxR grp (.slice A7 (L+1) c7) false)from(HG7.out.set_ 32 _).cast (boxR_set32 HGl.out _))
            have HO8:=qq (show(w7.setCell ⟨G,32,none⟩ (.slice A7 (L+1) c7)).ownsRow (G+1) 85 3 (.slice A7 (L+1) c7) (L+1) ((keepR m x.es m).flatMap RE.cells++ec)from ownsRow_setCell_below HO7.out (by show G<G+1;omega) _)
            have HB8:=qq (show Below G wq (w7.setCell ⟨G,32,none⟩ (.slice A7 (L+1) c7))from(HBx.out.trans (HB7.out.mono (by omega))).setCell (Nat.le_refl _) _)
            obtain⟨w8,hw8⟩:∃w8,w8=w7.setCell ⟨G,32,none⟩ (.slice A7 (L+1) c7):=⟨_,rfl⟩
            rw[←hw8]at HG8 HO8 HB8
            rw[←hw8]
            have HBt:=qq (HB.out.trans (HB8.out.mono (by omega)))
            have HZ8:=qq (HZ1.out.below HBt.out (by omega))
            obtain⟨C8,hC8⟩:∃C8,C8=boxR grp (.slice A7 (L+1) c7) false:=⟨_,rfl⟩
            rw[←hC8]at HG8
            have HC8l:=qq (show C8.length=34 by rw[hC8];exact boxR_len HGl.out)
            have HC81:=qq (show∀u∈C8,u.oneCell'=true by rw[hC8];exact boxR_one rfl)
            have HC8:=qq hC8
            clear hw8 hC8 c7g f7g hcg
            go_wp2_with (first
             |(refine wpList_load_mid rfl 34 (.tmp 17) rfl G 0 rfl C8 _ HG8.out.whole Tryz.underlying34 rfl (by rw[HC8l.out];exact infoRBox) ?_)
             |(refine wpList_store_piece rfl 34 (.tmp 12) (.tmp 113) rfl (w.heap.size+3) 0 rfl C8 rfl 34 _ [] zeroRB [] HZ8.out (by simp) rfl (by rw[HC8l.out];rfl) (by rw[HC8l.out];exact infoRBox) HC81.out ?_;intro w9 hx9 hg9))
            have HX9:=qq (show Blk w9 (w.heap.size+3) 34 C8 from hx9.cast (by simp))
            refine bodyPost_ret (v:= .tuple #[.agg C8.toArray,.int .i64 0]) (results_blk_tmp (g:=w.heap.size+3) rfl _ _ _ _ _ _ rfl rfl HX9.out Tryz.underlying34 rfl (by rw[HC8l.out];exact infoRBox)) rfl ?_
            have hs89:=hg9.size
            have hB19:Below w.heap.size w w9:=(HB1.out.trans (HBt.out.mono (by omega))).grown hg9 (by have:=HBt.out.size;omega) (fun k e=>by cases e;omega)
            have hpl:(Below (w.heap.size+3) w1 w9):=(HBt.out.mono (by omega)).grown hg9 (by have:=HBt.out.size;omega) (fun k e=>by cases e;omega)
            have hx9':x.At w9:=HR1.out.same hpl.size (fun k hk=>hpl.block k (by have:=HLt.out k hk;omega))
            have hsame:∀k,w.heap.size+4≤k→k<w8.heap.size→w9.heap[k]?=w8.heap[k]?:=fun k hk1 hk2=>hg9.block k hk2 (fun e=>by injection e with e;omega)
            refine enter_fin HH.out HHm.out HL.out HGl.out HSl.out HEc.out HC8.out hN32 HE.out (HO.out) (by have:=hzr;omega) (Nat.le_of_eq HGe.out) HB8.out HO8.out hsame hs89 hx9' hB19 (fun k hk=>HLt.out k hk) HGe.out
       ·have hnl:m-1<x.es.length:=by omega
        obtain⟨n,hn⟩:∃n,n=m-1:=⟨_,rfl⟩
        rw[←hn]at hnl
        have hmn:m=n+1:=by omega
        obtain⟨e,he0⟩:∃e,e=x.es[n]:=⟨_,rfl⟩
        have hke:x.es[n]?=some e:=by rw[he0,List.getElem?_eq_getElem hnl]
        obtain⟨b,off,hA,hbl,hcl⟩:=RdV.elem HR1.out.rows (fun y _=>RE.cells_len y) (by decide) hke
        have hne:x.m.es≠ []:=fun h=>by
         have h2:x.m.es.length=0:=by rw[h];rfl
         unfold RX.m at h2;simp at h2;rw[h2]at hnl;simp at hnl
        have hlno:lastNo x.m.es=e.no:=by
         unfold lastNo RX.m
         simp only[List.getLast?_eq_getElem?,List.length_map,←hm,hmn,Nat.add_sub_cancel,List.getElem?_map,hke,Option.map_some,RE.m]
        have c1:w1.cell? ⟨b,off+n*3,none⟩=some (.int .i64 e.no):=by have h:=hcl 0 _ rfl;rw[Nat.mul_comm 3 n]at h;exact h
        have c32r:=c32
        rw[hA]at c32r
        obtain⟨last,hlast⟩:∃last,last=e.no:=⟨_,rfl⟩
        rw[←hlast]at c1 hlno
        obtain⟨q1,hq1⟩:∃q1,q1=!(grp==x.grp):=⟨_,rfl⟩
        rw[hlno,show x.m.grp=x.grp from rfl]at hE0
        have hneq:∀w,(binOp .neq 23 (.agg (grp.map b8).toArray) (.agg (x.grp.map b8).toArray)).run Tryz.prog w= .ok (.bool q1) w:=fun w=>by
         rw[hq1];exact run_neq_b8 w 23 5 32 Tryz.underlying23 Tryz.underlying5 (fun _=>by kernel_rfl) _ _ HGl.out HH.out.glen
        have hsi:(m:Int)-1=(n:Int):=by omega
        have hi1:(0:Int)≤(n:Int):=by omega
        have hi2:(n:Int)<(m:Int):=by omega
        have hi3:n<m:=by omega
        have hi4:0<m:=by omega
        have hmI:(m:Int)>0:=by omega
        have hiw:IntKind.i64.wrap (n:Int)=(n:Int):=IntWalk.i64_in _ (by have:=HH4.out;omega)
        have hr1:w1.rangeAt (w.heap.size+1) 0 (grp.map b8):=HA1.out.whole
        have hr2:w1.rangeAt w.heap.size 0 (x.grp.map b8):=by have h:=HX1.out;rw[HCe.out]at h;exact boxR_grp HH.out.glen w1 w.heap.size _ h
        have hi32:(Tryz.prog.info? 23).map (·.size)=some (grp.map b8).length:=by rw[List.length_map,HGl.out];exact infoSum
        have hi33:(Tryz.prog.info? 23).map (·.size)=some (x.grp.map b8).length:=by rw[List.length_map,HH.out.glen];exact infoSum
        have Hr1:=qq hr1
        have Hr2:=qq hr2
        have Hi32:=qq hi32
        have Hi33:=qq hi33
        have HE0:=qq hE0
        have HQ1:=qq hq1
        have HNe:=qq hne
        have C32:=qq c32
        clear hE hE0 hclr hsd hm he hn hmn he0 hke hA hcl hbl hlno hlast hq1 hr1 hr2 hi32 hi33 hne c32
        cases q1 with
        |true=>
         have hgn:grp≠x.grp:=fun e=>by have h5:=HQ1.out;rw[e]at h5;simp at h5
         have hE6:E=6:=by have h5:=HE0.out;rw[if_pos ⟨HNe.out,.inl hgn⟩]at h5;exact h5
         subst hE6
         have HE:=qq HEe.out.symm
         clear hgn
         go_enter Tryz.func11,Tryz.ntmps11
         go_upto_region 1 with fail
         have hw1:=HW1.out
         simp only[zeroRB_lit]at hw1
         rw[←hw1]
         clear hw1
         go_upto_region 3 with fail
         go_wp2_with fail
         refine HSo.out.mono ?_
         rintro e w3 ⟨rfl,rfl⟩
         have tok1:True:=trivial
         have tok2:True:=trivial
         go_upto_region 7 with(first
          |(have _t:=tok1;refine wpList_load_midw (by rfl) 23 (.tmp 7) rfl (w.heap.size+1) 0 rfl (grp.map b8) _ Hr1.out Tryz.underlying23 rfl Hi32.out ?_;clear tok1 _t)
          |(have _t:=tok2;refine wpList_load_midw (by rfl) 23 (.tmp 49) rfl w.heap.size 0 rfl (x.grp.map b8) _ Hr2.out Tryz.underlying23 rfl Hi33.out ?_;clear tok2 _t))
         go_wp2_with (first
          |(refine wpList_load_mid rfl 34 (.tmp 6) rfl w.heap.size 0 rfl C _ HX1.out.whole Tryz.underlying34 rfl (by rw[HCl.out];exact infoRBox) ?_)
          |(refine wpList_store_piece rfl 34 (.tmp 12) (.tmp 65) rfl (w.heap.size+3) 0 rfl C rfl 34 _ [] zeroRB [] HZ1.out (by simp) rfl (by rw[HCl.out];rfl) (by rw[HCl.out];exact infoRBox) HC1.out ?_;intro w4 hx4 hg4;have HX4:=qq (show Blk w4 (w.heap.size+3) 34 C from hx4.cast (by simp));have HB4:=qq (HB1.out.grown hg4 HB1.out.size (fun k e=>by cases e;omega));have HR4:=qq (HR1.out.grown hg4 (fun hm=>by have:=HLt.out _ hm;omega));clear hx4 hg4))
         refine bodyPost_ret (v:= .tuple #[.agg C.toArray,.int .i64 6]) (results_blk_tmp (g:=w.heap.size+3) rfl _ _ _ _ _ _ rfl rfl HX4.out Tryz.underlying34 rfl (by rw[HCl.out];exact infoRBox)) rfl ?_
         exact⟨x,by rw[HCe.out];rfl,(enterM_bad (by rw[HE.out];decide)).symm,HR4.out,fun k hk=> .inl hk,HB4.out⟩
        |false=>
         have hge:grp=x.grp:=by have h5:=HQ1.out;simpa using h5
         by_cases hle:no≤last
         ·have hE6:E=6:=by have h5:=HE0.out;rw[if_pos ⟨HNe.out,.inr hle⟩]at h5;exact h5
          subst hE6
          have HE:=qq HEe.out.symm
          clear hge
          go_enter Tryz.func11,Tryz.ntmps11
          go_upto_region 1 with fail
          have hw1:=HW1.out
          simp only[zeroRB_lit]at hw1
          rw[←hw1]
          clear hw1
          go_upto_region 3 with fail
          go_wp2_with fail
          refine HSo.out.mono ?_
          rintro e w3 ⟨rfl,rfl⟩
          have tok1:True:=trivial
          have tok2:True:=trivial
          go_upto_region 7 with(first
           |(have _t:=tok1;refine wpList_load_midw (by rfl) 23 (.tmp 7) rfl (w.heap.size+1) 0 rfl (grp.map b8) _ Hr1.out Tryz.underlying23 rfl Hi32.out ?_;clear tok1 _t)
           |(have _t:=tok2;refine wpList_load_midw (by rfl) 23 (.tmp 49) rfl w.heap.size 0 rfl (x.grp.map b8) _ Hr2.out Tryz.underlying23 rfl Hi33.out ?_;clear tok2 _t))
          go_wp2_with (first
           |(refine wpList_load_mid rfl 34 (.tmp 6) rfl w.heap.size 0 rfl C _ HX1.out.whole Tryz.underlying34 rfl (by rw[HCl.out];exact infoRBox) ?_)
           |(refine wpList_store_piece rfl 34 (.tmp 12) (.tmp 65) rfl (w.heap.size+3) 0 rfl C rfl 34 _ [] zeroRB [] HZ1.out (by simp) rfl (by rw[HCl.out];rfl) (by rw[HCl.out];exact infoRBox) HC1.out ?_;intro w4 hx4 hg4;have HX4:=qq (show Blk w4 (w.heap.size+3) 34 C from hx4.cast (by simp));have HB4:=qq (HB1.out.grown hg4 HB1.out.size (fun k e=>by cases e;omega));have HR4:=qq (HR1.out.grown hg4 (fun hm=>by have:=HLt.out _ hm;omega));clear hx4 hg4))
          refine bodyPost_ret (v:= .tuple #[.agg C.toArray,.int .i64 6]) (results_blk_tmp (g:=w.heap.size+3) rfl _ _ _ _ _ _ rfl rfl HX4.out Tryz.underlying34 rfl (by rw[HCl.out];exact infoRBox)) rfl ?_
          exact⟨x,by rw[HCe.out];rfl,(enterM_bad (by rw[HE.out];decide)).symm,HR4.out,fun k hk=> .inl hk,HB4.out⟩
         ·have hE6:E=0:=by have h5:=HE0.out;rw[if_neg (by rintro⟨-,h6|h6⟩;exact h6 hge;exact hle h6)]at h5;exact h5
          subst hE6
          clear hge
          go_enter Tryz.func11,Tryz.ntmps11
          go_upto_region 1 with fail
          have hw1:=HW1.out
          simp only[zeroRB_lit]at hw1
          rw[←hw1]
          clear hw1
          go_upto_region 3 with fail
          go_wp2_with fail
          refine HSo.out.mono ?_
          rintro e w3 ⟨rfl,rfl⟩
          have tok1:True:=trivial
          have tok2:True:=trivial
          go_upto_region 8 with(first
           |(have _t:=tok1;refine wpList_load_midw (by rfl) 23 (.tmp 7) rfl (w.heap.size+1) 0 rfl (grp.map b8) _ Hr1.out Tryz.underlying23 rfl Hi32.out ?_;clear tok1 _t)
           |(have _t:=tok2;refine wpList_load_midw (by rfl) 23 (.tmp 49) rfl w.heap.size 0 rfl (x.grp.map b8) _ Hr2.out Tryz.underlying23 rfl Hi33.out ?_;clear tok2 _t))
          have c32:=C32.out
          clear hneq c32r c1 hsi hi1 hi2 hi3 hi4 hiw
          have hmle:m≤4:=by have h1:=HHm.out;have h2:=HH4.out;omega
          have HE:=qq HEe.out.symm
          go_upto_region 9 with fail
          obtain⟨w2,hw2⟩:∃w2,w2=w1.alloc (.cells #[.int .i64 no,.int .i64 (lf:Int),.slice none 0 0] 85):=⟨_,rfl⟩
          rw[←hw2]
          have HP2:=qq (show Blk w2 (w.heap.size+4) 85 [.int .i64 no,.int .i64 (lf:Int),.slice none 0 0] by rw[hw2];exact Blk.at_size _ [.int .i64 no,.int .i64 (lf:Int),.slice none 0 0] hz1)
          have HB2:=qq (show Below (w.heap.size+4) w1 w2 by rw[hw2];exact(Below.refl _ w1).alloc (by omega) _)
          have hz2:w.heap.size+5≤w2.heap.size:=by rw[hw2,World.size_alloc];omega
          clear hw2
          go_upto_region 10 with fail
          go_loopw [16] (fun iv wr=>∃(j:Nat) (A:Option Addr) (c:Nat),iv= .int .i64 (j:Int)∧j≤N∧Blk wr (w.heap.size+4) 85 [.int .i64 no,.int .i64 (lf:Int),.slice A j c]∧wr.ownsRow (w.heap.size+5) 89 36 (.slice A j c) j (((List.range j).map (fun i=>startRL (leafS N i s))).flatMap RL.cells)∧Below (w.heap.size+4) w1 wr∧w.heap.size+5≤wr.heap.size) (fun iv _=>N-(intOf iv).toNat)
          case atStart=>exact⟨0,none,0,rfl,Nat.zero_le _,HP2.out,ownsRow_nil _ _ _ _,HB2.out,hz2⟩
          case round=>
           clear HP2 HB2 hz2
           obtain⟨j,A,c,rfl,hj,hp,hown,hb,hzr⟩:=hrel
           have HP:=qq hp
           have HO:=qq hown
           have HB:=qq hb
           clear hp hown hb
           by_cases hlt:j<N
           ·have hja:(j:Int)<(N:Int):=by omega
            obtain⟨z,hz⟩:∃z,z=leafS N j s:=⟨_,rfl⟩
            obtain⟨Z,hZ⟩:∃Z,Z=s.map b8:=⟨_,rfl⟩
            have hlf:=refLeaf_any wr.drew s HSl.out N j hN32 (by omega)
            rw[arrV_mk,arrV_mk,←hz,←hZ]at hlf
            have HLf:=qq hlf
            have HZl:=qq (show z.length=32 by rw[hz];exact downS_len _ _ _ _ HSl.out)
            have HZe:=qq hz
            have HZs:=qq hZ
            have hbz:=built_startRL z HZl.out
            have HCl2:=qq (show(startRL z).cells.length=36 from lineR_len HZl.out)
            have HC12:=qq (show∀u∈ (startRL z).cells,u.oneCell'=true from lineR_one rfl rfl)
            obtain⟨Cz,hCz⟩:∃Cz,Cz=(startRL z).cells:=⟨_,rfl⟩
            rw[←hCz]at hbz HCl2 HC12
            have HCz:=qq hCz
            have hu:=Tryz.underlying23
            have hi32:(Tryz.prog.info? 23).map (·.size)=some Z.length:=by rw[hZ,List.length_map,HSl.out];exact infoSum
            obtain⟨il,hil,hlz,hls,hlb⟩:=info_parts infoRLine
            have hS:wr.drew.rangeAt (w.heap.size+2) 0 Z∧wr.drew.cell? ⟨w.heap.size+4,2,none⟩=some (.slice A j c)∧True:=⟨by rw[hZ];exact(HA2.out.below HB.out (by omega)).whole,HP.out.cell 2 rfl,trivial⟩
            clear hlf hz hZ hCz
            go_upto_region 12 with fail
            refine wp_region_Y (by kernel_rfl) (fun w'=>w'.rangeAt (w.heap.size+2) 0 Z∧w'.cell? ⟨w.heap.size+4,2,none⟩=some (.slice A j c)∧True) 10 ?_
            refine wpAnyY_pure (i:=0) (oi:={dst:=some 74,op:=_,type:=_,pos:=_,after:=_,guard:=_}) (v:= .pointer (some ⟨w.heap.size+4,2,none⟩)) rfl (by kernel_rfl) (by kernel_rfl) (by kernel_rfl) (by kernel_rfl) (fun _ _ _ h=>h) (Or.inl ⟨by rfl,?_⟩) hS ?_
            ·intro w' hw'
             go_simp
            try simp only[Act.put,qj,qz,qv]
            refine wpAnyY_take (i:=1) (oi:={dst:=some 75,op:=_,type:=_,pos:=_,after:=_,guard:=_}) (v:= .slice A j c) rfl (by kernel_rfl) (by kernel_rfl) (by kernel_rfl) (by kernel_rfl) (by kernel_rfl) (fun _ _ _ h=>h) (Or.inl ⟨by rfl,?_⟩) hS ?_
            ·intro w' hw'
             obtain⟨s0,s1,s2⟩:=hw'
             go_simp
            try simp only[Act.put,qj,qz,qv]
            refine wpAnyY_take (i:=2) (oi:={dst:=some 76,op:=_,type:=_,pos:=_,after:=_,guard:=_}) (v:= .agg Z.toArray) rfl (by kernel_rfl) (by kernel_rfl) (by kernel_rfl) (by kernel_rfl) (by kernel_rfl) (fun _ _ _ h=>h) (yieldsIf_load_mid (by rfl) 23 (.tmp 9) rfl (w.heap.size+2) 0 rfl Z _ (fun _ h=>h.1) hu rfl hi32) hS ?_
            try simp only[Act.put,qj,qz,qv]
            refine wpAnyY_pure (i:=3) (oi:={dst:=some 77,op:=_,type:=_,pos:=_,after:=_,guard:=_}) (v:= .int .i64 (N:Int)) rfl (by kernel_rfl) (by kernel_rfl) (by kernel_rfl) (by kernel_rfl) (fun _ _ _ h=>h) (Or.inl ⟨by rfl,?_⟩) hS ?_
            ·intro w' hw'
             go_simp
            try simp only[Act.put,qj,qz,qv]
            refine wpAnyY_pure (i:=4) (oi:={dst:=some 78,op:=_,type:=_,pos:=_,after:=_,guard:=_}) (v:= .int .i64 (j:Int)) rfl (by kernel_rfl) (by kernel_rfl) (by kernel_rfl) (by kernel_rfl) (fun _ _ _ h=>h) (Or.inl ⟨by rfl,?_⟩) hS ?_
            ·intro w' hw'
             go_simp
            try simp only[Act.put,qj,qz,qv]
            refine wpAnyY_one (i:=5) (o:={dst:=some 79,op:=_,type:=_,pos:=_,after:=_,guard:=_}) (by kernel_rfl) rfl (fun K' hK=>?_)
            go_simp
            go_at_call 32
            refine HLf.out.mono ?_
            rintro e w5 ⟨rfl,hb5⟩
            have hB5:Below wr.heap.size wr w5:=(Below.refl wr.heap.size wr).drew.trans hb5
            have HP5:=qq (HP.out.below hB5 (by omega))
            have HB5:=qq (HB.out.trans (hB5.mono (by omega)))
            have HO5:=qq (rowS_below HO.out hB5 (Nat.le_refl _))
            have hz5:=hB5.size
            have hS5:w5.rangeAt (w.heap.size+2) 0 Z∧w5.cell? ⟨w.heap.size+4,2,none⟩=some (.slice A j c)∧True:=⟨by rw[HZs.out];exact(HA2.out.below HB5.out (by omega)).whole,HP5.out.cell 2 rfl,trivial⟩
            clear hb5 hB5 HLf hS
            refine hK _ _ (fun _=>hS5) ?_
            clear hK K'
            try simp only[Act.put,qj,qz,qv]
            have hS:=hS5
            clear hS5
            refine wpAnyY_pure (i:=6) (oi:={dst:=some 80,op:=_,type:=_,pos:=_,after:=_,guard:=_}) (v:= .agg Cz.toArray) rfl (by kernel_rfl) (by kernel_rfl) (by kernel_rfl) (by kernel_rfl) (fun _ _ _ h=>h) (Or.inl ⟨by rfl,?_⟩) hS ?_
            ·intro w' hw'
             exact run_buildE rfl _ rfl hbz w'
            try simp only[Act.put,qj,qz,qv]
            refine wpAnyY_one (i:=7) (o:={dst:=some 81,op:=_,type:=_,pos:=_,after:=_,guard:=_}) (by kernel_rfl) rfl (fun K' hK=>?_)
            refine step_box_slice rfl 83 89 (.tmp 80) rfl il (.agg (lineR (List.replicate 32 0#8) 0 (.slice none 0 0) (.slice none 0 0) 0).toArray) 36 Cz.toArray rfl (by simpa using HCl2.out) (by decide) (by decide) Tryz.underlying83 hil hlz hls rfl ?_
            have HO6:=qq (rowS_below HO5.out ((Below.refl w5.heap.size w5).alloc (Nat.le_refl _) (.cells Cz.toArray 89)) (Nat.le_refl _))
            have HB6:=qq (HB5.out.alloc (by omega) (.cells Cz.toArray 89))
            have HP6:=qq (HP5.out.alloc (.cells Cz.toArray 89))
            have hS6:(w5.alloc (.cells Cz.toArray 89)).rangeAt (w.heap.size+2) 0 Z∧(w5.alloc (.cells Cz.toArray 89)).cell? ⟨w.heap.size+4,2,none⟩=some (.slice A j c)∧True:=⟨by rw[HZs.out];exact(HA2.out.below HB6.out (by omega)).whole,HP6.out.cell 2 rfl,trivial⟩
            refine hK _ _ (fun _=>hS6) ?_
            clear hK K'
            try simp only[Act.put,qj,qz,qv]
            refine wpAnyY_one (i:=8) (o:={dst:=some 82,op:=_,type:=_,pos:=_,after:=_,guard:=_}) (by kernel_rfl) rfl (fun K' hK=>?_)
            refine step_append_row rfl (.tmp 75) (.tmp 81) 83 rfl 36 (by decide) (w.heap.size+5) 89 il (.agg (lineR (List.replicate 32 0#8) 0 (.slice none 0 0) (.slice none 0 0) 0).toArray) 96 Tryz.underlying83 hil hlz hls hlb rfl _ j _ rfl HO6.out (w5.heap.size+1) (some ⟨w5.heap.size,0,none⟩) 1 1 Cz rfl (by rw[HCl2.out]) (by decide) (rdV_new w5 89 Cz) HC12.out (by unfold maxLen;omega) (by omega) (by rw[World.size_alloc];omega) ?_
            intro v7 w7 hown7 hg7 hbb7
            obtain⟨A7,c7,rfl,-⟩:=rowS_shape hown7
            have HB7:=qq (hbb7 (w.heap.size+4) w1 (by omega) HB6.out)
            have HP7:=qq (show Blk w7 (w.heap.size+4) 85 [.int .i64 no,.int .i64 (lf:Int),.slice A j c]from HP6.out.below (hbb7 (w.heap.size+5) _ (Nat.le_refl _) (Below.refl _ _)) (by omega))
            have HO7:=qq hown7
            have hz7:w5.heap.size+1≤w7.heap.size:=by have:=(hbb7 (w.heap.size+5) _ (Nat.le_refl _) (Below.refl _ _)).size;rwa[World.size_alloc]at this
            have c72:=HP7.out.cell 2 rfl
            have f72:=HP7.out.frozen 2
            have hS7:w7.rangeAt (w.heap.size+2) 0 Z∧w7.cell? ⟨w.heap.size+4,2,none⟩=some (.slice A j c)∧True:=⟨by rw[HZs.out];exact(HA2.out.below HB7.out (by omega)).whole,c72,trivial⟩
            clear hown7 hg7 hbb7 hS hS6
            refine hK _ _ (fun _=>hS7) ?_
            clear hK K'
            try simp only[Act.put,qj,qz,qv]
            have hS:=hS7
            clear hS7
            refine wpAnyY_pure (i:=9) (oi:={dst:=some 83,op:=_,type:=_,pos:=_,after:=_,guard:=_}) (v:= .pointer (some ⟨w.heap.size+4,2,none⟩)) rfl (by kernel_rfl) (by kernel_rfl) (by kernel_rfl) (by kernel_rfl) (fun _ _ _ h=>h) (Or.inl ⟨by rfl,?_⟩) hS ?_
            ·intro w' hw'
             go_simp
            try simp only[Act.put,qj,qz,qv]
            refine wpAnyY_one (i:=10) (o:={dst:=none,op:=_,type:=_,pos:=_,after:=_,guard:=_}) (by kernel_rfl) rfl (fun K' hK=>?_)
            go_simp
            refine hK _ _ (fun h=>absurd rfl h) (wpAnyY_done (by kernel_rfl) ?_ _)
            clear hK K' c72 f72 hS
            have HP8:=qq ((HP7.out.set_ 2 (.slice A7 (j+1) c7)).cast rfl)
            have HO8:=qq (show(w7.setCell ⟨w.heap.size+4,2,none⟩ (.slice A7 (j+1) c7)).ownsRow (w.heap.size+5) 89 36 (.slice A7 (j+1) c7) (j+1) (((List.range (j+1)).map (fun i=>startRL (leafS N i s))).flatMap RL.cells) by
             rw[List.range_succ,List.map_append,List.flatMap_append,List.map_singleton,List.flatMap_singleton,←HZe.out,←HCz.out]
             exact ownsRow_setCell_below HO7.out (by show w.heap.size+4<w.heap.size+5;omega) _)
            have HB8:=qq (HB7.out.setCell (p:=⟨w.heap.size+4,2,none⟩) (Nat.le_refl _) (.slice A7 (j+1) c7))
            have hz8:w.heap.size+5≤(w7.setCell ⟨w.heap.size+4,2,none⟩ (.slice A7 (j+1) c7)).heap.size:=by simp[World.setCell];omega
            clear HP HO HB HP5 HB5 HO5 HO6 HB6 HP6 HB7 HP7 HO7
            go_wp2_with fail
            go_roundw
            case rel=>exact⟨j+1,A7,c7,by go_num,by omega,HP8.out,HO8.out,HB8.out,hz8⟩
            case measure=>simp[intOf]<;>omega
           ·obtain rfl:N=j:=by omega
            have hja:¬((N:Int)<(N:Int)):=by omega
            go_upto_region 13 with fail
            go_upto_region 14 with(first
             |(refine wpList_load_arr rfl 23 (.tmp 7) rfl (w.heap.size+1) rfl _ grp (HA1.out.below HB.out (by omega)) _ Tryz.underlying23 rfl (by rw[HGl.out];exact infoSum) ?_)
             |(refine wpList_bparts rfl 34 [(0,.tmp 84)] rfl (boxR grp (.slice none 0 0) false).toArray [(0,.agg (grp.map b8).toArray)] rfl (built_grpRB grp HGl.out) ?_)
             |(refine wpList_store_piece rfl 34 (.tmp 17) (.tmp 85) rfl wr.heap.size 0 rfl (boxR grp (.slice none 0 0) false) rfl 34 _ [] zeroRB [] (Blk.new wr _ zeroRB) (by simp) rfl (by rw[boxR_len HGl.out];rfl) (by rw[boxR_len HGl.out];exact infoRBox) (boxR_one rfl) ?_;intro w3 hx3 hg3))
            try simp only[Act.put,qj,qz,qv]
            obtain⟨wq,rfl⟩:∃wq,wq=wr:=⟨_,rfl⟩
            obtain⟨G,hG⟩:∃G,G=wq.heap.size:=⟨_,rfl⟩
            have HG3:=qq (show Blk w3 G 34 (boxR grp (.slice none 0 0) false) by rw[hG];exact hx3.cast (by simp))
            have HB3:=qq (show Below G wq w3 from((Below.refl _ wq).alloc (by omega) (.cells zeroRB.toArray 34)).grown hg3 (by rw[World.size_alloc];omega) (fun k e=>by cases e;omega))
            have hz3:G+1≤w3.heap.size:=by have:=hg3.size;rw[World.size_alloc]at this;omega
            have hGz:w.heap.size+5≤G:=by omega
            have HGe:=qq hG
            rw[←hG]
            clear hx3 hg3 hG
            go_upto_region 15 with fail
            go_loopw [18] (fun iv wr=>∃(k:Nat) (A2:Option Addr) (c2:Nat),iv= .int .i64 (k:Int)∧k≤m∧Blk wr G 34 (boxR grp (.slice A2 (keepR m x.es k).length c2) false)∧wr.ownsRow (G+1) 85 3 (.slice A2 (keepR m x.es k).length c2) (keepR m x.es k).length ((keepR m x.es k).flatMap RE.cells)∧Below G wq wr∧G+1≤wr.heap.size) (fun iv _=>m-(intOf iv).toNat)
            case atStart=>exact⟨0,none,0,rfl,Nat.zero_le _,by rw[keepR_zero];exact HG3.out,by rw[keepR_zero];exact ownsRow_nil _ _ _ _,HB3.out,hz3⟩
            case round=>
             clear HG3 HB3 hz3
             obtain⟨k,A2,c2,rfl,hk,hgb,hrow,hbx,hzx⟩:=hrel
             obtain⟨L,hL⟩:∃L,L=(keepR m x.es k).length:=⟨_,rfl⟩
             rw[←hL]at hgb hrow
             have hL4:L≤4:=by have:=keepR_len m x.es k;have:=HH4.out;omega
             have HGb:=qq hgb
             have HRo:=qq hrow
             have HBx:=qq hbx
             have HB9:=qq (HB.out.trans (hbx.mono (by omega)))
             have HL:=qq hL
             clear hgb hrow hbx hL
             by_cases hlt2:k<m
             ·have hkx:k<x.es.length:=by rw[←HHm.out];exact hlt2
              obtain⟨e,he0⟩:∃e,e=x.es[k]:=⟨_,rfl⟩
              have hke:x.es[k]?=some e:=by rw[he0,List.getElem?_eq_getElem hkx]
              obtain⟨b,off,hA,hbl,hcl⟩:=RdV.elem HR1.out.rows (fun y _=>RE.cells_len y) (by decide) hke
              have hbw:b<w.heap.size:=HLt.out b (by unfold RX.foot;rw[hA];simp[optBlk])
              obtain⟨ec,hec⟩:∃ec,ec=e.cells:=⟨_,rfl⟩
              rw[←hec]at hcl
              have hel:ec.length=3:=by rw[hec];rfl
              have hsz1:=HB1.out.size
              have hrg:wr.drew.rangeAt b (off+k*3) ec:=fun j u hu=>by
               have h:=hcl j u hu
               rw[Nat.mul_comm 3 k]at h
               exact(HB9.out.cell (p:=⟨b,off+k*3+j,none⟩) (by show b<_;omega)).trans h
              have hcx:wr.drew.cell? ⟨w.heap.size,32,none⟩=some (.slice (some ⟨b,off,none⟩) m x.c):=by
               rw[←hA]
               exact(HB9.out.cell (p:=⟨w.heap.size,32,none⟩) (by show w.heap.size<_;omega)).trans c32
              have hcg:wr.drew.cell? ⟨G,32,none⟩=some (.slice A2 L c2):=HGb.out.cell 32 (boxR_32 HGl.out)
              have hlk:(k:Int)<(m:Int):=by omega
              have hi1:(0:Int)≤(k:Int):=by omega
              have HKe:=qq hke
              have HEc:=qq hec
              have HEl:=qq hel
              have HAx:=qq hA
              have Hrg:=qq hrg
              have Hcx:=qq hcx
              have Hcg:=qq hcg
              have Hcl:=qq hcl
              clear he0 hke hA hec hel hrg hcx hcg hcl
              by_cases hm4:m<4
              ·have hm4i:(m:Int)<4:=by omega
               have hkp:m<4∨0<k:= .inl hm4
               go_upto_region 17 with fail
               go_upto_region 18 with fail
               have hS:wr.drew.cell? ⟨G,32,none⟩=some (.slice A2 L c2)∧wr.drew.cell? ⟨w.heap.size,32,none⟩=some (.slice (some ⟨b,off,none⟩) m x.c)∧wr.drew.rangeAt b (off+k*3) ec:=⟨Hcg.out,Hcx.out,Hrg.out⟩
               obtain⟨ie,hie,hez,hes,heb⟩:=info_parts infoREpoch
               have hu:=Tryz.underlying85
               have hi3:(Tryz.prog.info? 85).map (·.size)=some ec.length:=by rw[HEl.out];exact sizeREpoch
               have hiw:IntKind.i64.wrap (k:Int)=(k:Int):=IntWalk.i64_in _ (by omega)
               refine wp_region_Y (by kernel_rfl) (fun w'=>w'.cell? ⟨G,32,none⟩=some (.slice A2 L c2)∧w'.cell? ⟨w.heap.size,32,none⟩=some (.slice (some ⟨b,off,none⟩) m x.c)∧w'.rangeAt b (off+k*3) ec) 10 ?_
               refine wpAnyY_pure (i:=0) (oi:={dst:=some 97,op:=_,type:=_,pos:=_,after:=_,guard:=_}) (v:= .pointer (some ⟨G,32,none⟩)) rfl (by kernel_rfl) (by kernel_rfl) (by kernel_rfl) (by kernel_rfl) (fun _ _ _ h=>h) (Or.inl ⟨by rfl,?_⟩) hS ?_
               ·intro w' hw'
                go_simp
               try simp only[Act.put,qj,qz,qv]
               refine wpAnyY_take (i:=1) (oi:={dst:=some 98,op:=_,type:=_,pos:=_,after:=_,guard:=_}) (v:= .slice A2 L c2) rfl (by kernel_rfl) (by kernel_rfl) (by kernel_rfl) (by kernel_rfl) (by kernel_rfl) (fun _ _ _ h=>h) (Or.inl ⟨by rfl,?_⟩) hS ?_
               ·intro w' hw'
                obtain⟨s0,s1,s2⟩:=hw'
                go_simp
               try simp only[Act.put,qj,qz,qv]
               refine wpAnyY_pure (i:=2) (oi:={dst:=some 99,op:=_,type:=_,pos:=_,after:=_,guard:=_}) (v:= .pointer (some ⟨w.heap.size,32,none⟩)) rfl (by kernel_rfl) (by kernel_rfl) (by kernel_rfl) (by kernel_rfl) (fun _ _ _ h=>h) (Or.inl ⟨by rfl,?_⟩) hS ?_
               ·intro w' hw'
                go_simp
               try simp only[Act.put,qj,qz,qv]
               refine wpAnyY_take (i:=3) (oi:={dst:=some 100,op:=_,type:=_,pos:=_,after:=_,guard:=_}) (v:= .slice (some ⟨b,off,none⟩) m x.c) rfl (by kernel_rfl) (by kernel_rfl) (by kernel_rfl) (by kernel_rfl) (by kernel_rfl) (fun _ _ _ h=>h) (Or.inl ⟨by rfl,?_⟩) hS ?_
               ·intro w' hw'
                obtain⟨s0,s1,s2⟩:=hw'
                go_simp
               try simp only[Act.put,qj,qz,qv]
               refine wpAnyY_pure (i:=4) (oi:={dst:=some 101,op:=_,type:=_,pos:=_,after:=_,guard:=_}) (v:= .int .i64 (k:Int)) rfl (by kernel_rfl) (by kernel_rfl) (by kernel_rfl) (by kernel_rfl) (fun _ _ _ h=>h) (Or.inl ⟨by rfl,?_⟩) hS ?_
               ·intro w' hw'
                go_simp
               try simp only[Act.put,qj,qz,qv]
               refine wpAnyY_pure (i:=5) (oi:={dst:=some 102,op:=_,type:=_,pos:=_,after:=_,guard:=_}) (v:= .pointer (some ⟨b,off+k*3,none⟩)) rfl (by kernel_rfl) (by kernel_rfl) (by kernel_rfl) (by kernel_rfl) (fun _ _ _ h=>h) (Or.inl ⟨by rfl,?_⟩) hS ?_
               ·intro w' hw'
                go_simp
               try simp only[Act.put,qj,qz,qv]
               refine wpAnyY_take (i:=6) (oi:={dst:=some 103,op:=_,type:=_,pos:=_,after:=_,guard:=_}) (v:= .agg ec.toArray) rfl (by kernel_rfl) (by kernel_rfl) (by kernel_rfl) (by kernel_rfl) (by kernel_rfl) (fun _ _ _ h=>h) (yieldsIf_load_mid (by rfl) 85 (.tmp 102) rfl b (off+k*3) rfl ec _ (fun _ h=>h.2.2) hu rfl hi3) hS ?_
               try simp only[Act.put,qj,qz,qv]
               refine wpAnyY_one (i:=7) (o:={dst:=some 104,op:=_,type:=_,pos:=_,after:=_,guard:=_}) (by kernel_rfl) rfl (fun K' hK=>?_)
               refine step_box_slice rfl 32 85 (.tmp 103) rfl ie (.agg #[.int .i64 0,.int .i64 0,.slice none 0 0]) 3 ec.toArray rfl (by simpa using HEl.out) (by decide) (by decide) Tryz.underlying32 hie hez hes rfl ?_
               have HBa:=qq (show Below (G+1) wr (wr.drew.alloc (.cells ec.toArray 85))from(Below.refl (G+1) wr).drew.alloc (by show G+1≤wr.heap.size;omega) _)
               have HRa:=qq (show(wr.drew.alloc (.cells ec.toArray 85)).ownsRow (G+1) 85 3 (.slice A2 L c2) L ((keepR m x.es k).flatMap RE.cells)from rowS_below HRo.out ((Below.refl wr.heap.size wr).drew.alloc (Nat.le_refl _) (.cells ec.toArray 85)) (Nat.le_refl _))
               have HGa:=qq (show Blk (wr.drew.alloc (.cells ec.toArray 85)) G 34 _ from HGb.out.drew.alloc (.cells ec.toArray 85))
               have hSa:(wr.drew.alloc (.cells ec.toArray 85)).cell? ⟨G,32,none⟩=some (.slice A2 L c2)∧(wr.drew.alloc (.cells ec.toArray 85)).cell? ⟨w.heap.size,32,none⟩=some (.slice (some ⟨b,off,none⟩) m x.c)∧(wr.drew.alloc (.cells ec.toArray 85)).rangeAt b (off+k*3) ec:=
                ⟨HGa.out.cell 32 (boxR_32 HGl.out),(HBa.out.cell (p:=⟨w.heap.size,32,none⟩) (by show w.heap.size<_;omega)).trans Hcx.out,fun j u hu=>(HBa.out.cell (p:=⟨b,off+k*3+j,none⟩) (by show b<_;omega)).trans (Hrg.out j u hu)⟩
               refine hK _ _ (fun _=>hSa) ?_
               clear hK K'
               try simp only[Act.put,qj,qz,qv]
               refine wpAnyY_one (i:=8) (o:={dst:=some 105,op:=_,type:=_,pos:=_,after:=_,guard:=_}) (by kernel_rfl) rfl (fun K' hK=>?_)
               refine step_append_row rfl (.tmp 98) (.tmp 104) 32 rfl 3 (by decide) (G+1) 85 ie (.agg #[.int .i64 0,.int .i64 0,.slice none 0 0]) 40 Tryz.underlying32 hie hez hes heb rfl _ L _ rfl HRa.out (wr.drew.heap.size+1) (some ⟨wr.drew.heap.size,0,none⟩) 1 1 ec rfl (by rw[HEl.out]) (by decide) (rdV_new wr.drew 85 ec) (by rw[HEc.out];exact RE.cells_one e) (by unfold maxLen;omega) (by omega) (by rw[World.size_alloc];show G+1≤wr.heap.size+1;omega) ?_
               intro v7 w7 hown7 hg7 hbb7
               obtain⟨A7,c7,rfl,-⟩:=rowS_shape hown7
               have HB7:=qq (hbb7 (G+1) _ (Nat.le_refl _) HBa.out)
               have HG7:=qq (show Blk w7 G 34 (boxR grp (.slice A2 L c2) false)from HGa.out.below (hbb7 (G+1) _ (Nat.le_refl _) (Below.refl _ _)) (by omega))
               have HO7:=qq hown7
               have c7g:=HG7.out.cell 32 (boxR_32 HGl.out)
               have f7g:=HG7.out.frozen 32
               have hS7:w7.cell? ⟨G,32,none⟩=some (.slice A2 L c2)∧w7.cell? ⟨w.heap.size,32,none⟩=some (.slice (some ⟨b,off,none⟩) m x.c)∧w7.rangeAt b (off+k*3) ec:=
                ⟨c7g,(HB7.out.cell (p:=⟨w.heap.size,32,none⟩) (by show w.heap.size<_;omega)).trans Hcx.out,fun j u hu=>(HB7.out.cell (p:=⟨b,off+k*3+j,none⟩) (by show b<_;omega)).trans (Hrg.out j u hu)⟩
               clear hown7 hg7 hbb7 hS hSa
               refine hK _ _ (fun _=>hS7) ?_
               clear hK K'
               try simp only[Act.put,qj,qz,qv]
               have hS:=hS7
               clear hS7
               refine wpAnyY_pure (i:=9) (oi:={dst:=some 106,op:=_,type:=_,pos:=_,after:=_,guard:=_}) (v:= .pointer (some ⟨G,32,none⟩)) rfl (by kernel_rfl) (by kernel_rfl) (by kernel_rfl) (by kernel_rfl) (fun _ _ _ h=>h) (Or.inl ⟨by rfl,?_⟩) hS ?_
               ·intro w' hw'
                go_simp
               try simp only[Act.put,qj,qz,qv]
               refine wpAnyY_one (i:=10) (o:={dst:=none,op:=_,type:=_,pos:=_,after:=_,guard:=_}) (by kernel_rfl) rfl (fun K' hK=>?_)
               go_simp
               refine hK _ _ (fun h=>absurd rfl h) (wpAnyY_done (by kernel_rfl) ?_ _)
               clear hK K' c7g f7g hS
               have hks:keepR m x.es (k+1)=keepR m x.es k++ [e]:=keepR_succ HKe.out hkp
               have HG8:=qq (show Blk (w7.setCell ⟨G,32,none⟩ (.slice A7 (L+1) c7)) G 34 (boxR grp (.slice A7 (keepR m x.es (k+1)).length c7) false)from(HG7.out.set_ 32 _).cast (by rw[boxR_set32 HGl.out,hks,List.length_append,←HL.out];rfl))
               have HO8:=qq (show(w7.setCell ⟨G,32,none⟩ (.slice A7 (L+1) c7)).ownsRow (G+1) 85 3 (.slice A7 (keepR m x.es (k+1)).length c7) (keepR m x.es (k+1)).length ((keepR m x.es (k+1)).flatMap RE.cells) by
                rw[hks,List.length_append,List.flatMap_append,List.flatMap_singleton,←HL.out,←HEc.out]
                exact ownsRow_setCell_below HO7.out (by show G<G+1;omega) _)
               have HB8:=qq (show Below G wq (w7.setCell ⟨G,32,none⟩ (.slice A7 (L+1) c7))from(HBx.out.trans (HB7.out.mono (by omega))).setCell (Nat.le_refl _) _)
               have hz8:G+1≤(w7.setCell ⟨G,32,none⟩ (.slice A7 (L+1) c7)).heap.size:=by have:=HB7.out.size;simp[World.setCell];omega
               clear hks HGb HRo HBx HB9 HBa HRa HGa HB7 HG7 HO7
               go_wp2_with fail
               go_roundw
               case rel=>exact⟨k+1,A7,c7,by go_num,by omega,HG8.out,HO8.out,HB8.out,hz8⟩
               case measure=>simp[intOf]<;>omega
              ·have hm4i:¬((m:Int)<4):=by omega
               by_cases hk0:0<k
               ·have hk0i:(k:Int)>0:=by omega
                have hkp:m<4∨0<k:= .inr hk0
                go_upto_region 17 with fail
                go_upto_region 18 with fail
                have hS:wr.drew.cell? ⟨G,32,none⟩=some (.slice A2 L c2)∧wr.drew.cell? ⟨w.heap.size,32,none⟩=some (.slice (some ⟨b,off,none⟩) m x.c)∧wr.drew.rangeAt b (off+k*3) ec:=⟨Hcg.out,Hcx.out,Hrg.out⟩
                obtain⟨ie,hie,hez,hes,heb⟩:=info_parts infoREpoch
                have hu:=Tryz.underlying85
                have hi3:(Tryz.prog.info? 85).map (·.size)=some ec.length:=by rw[HEl.out];exact sizeREpoch
                have hiw:IntKind.i64.wrap (k:Int)=(k:Int):=IntWalk.i64_in _ (by omega)
                refine wp_region_Y (by kernel_rfl) (fun w'=>w'.cell? ⟨G,32,none⟩=some (.slice A2 L c2)∧w'.cell? ⟨w.heap.size,32,none⟩=some (.slice (some ⟨b,off,none⟩) m x.c)∧w'.rangeAt b (off+k*3) ec) 10 ?_
                refine wpAnyY_pure (i:=0) (oi:={dst:=some 97,op:=_,type:=_,pos:=_,after:=_,guard:=_}) (v:= .pointer (some ⟨G,32,none⟩)) rfl (by kernel_rfl) (by kernel_rfl) (by kernel_rfl) (by kernel_rfl) (fun _ _ _ h=>h) (Or.inl ⟨by rfl,?_⟩) hS ?_
                ·intro w' hw'
                 go_simp
                try simp only[Act.put,qj,qz,qv]
                refine wpAnyY_take (i:=1) (oi:={dst:=some 98,op:=_,type:=_,pos:=_,after:=_,guard:=_}) (v:= .slice A2 L c2) rfl (by kernel_rfl) (by kernel_rfl) (by kernel_rfl) (by kernel_rfl) (by kernel_rfl) (fun _ _ _ h=>h) (Or.inl ⟨by rfl,?_⟩) hS ?_
                ·intro w' hw'
                 obtain⟨s0,s1,s2⟩:=hw'
                 go_simp
                try simp only[Act.put,qj,qz,qv]
                refine wpAnyY_pure (i:=2) (oi:={dst:=some 99,op:=_,type:=_,pos:=_,after:=_,guard:=_}) (v:= .pointer (some ⟨w.heap.size,32,none⟩)) rfl (by kernel_rfl) (by kernel_rfl) (by kernel_rfl) (by kernel_rfl) (fun _ _ _ h=>h) (Or.inl ⟨by rfl,?_⟩) hS ?_
                ·intro w' hw'
                 go_simp
                try simp only[Act.put,qj,qz,qv]
                refine wpAnyY_take (i:=3) (oi:={dst:=some 100,op:=_,type:=_,pos:=_,after:=_,guard:=_}) (v:= .slice (some ⟨b,off,none⟩) m x.c) rfl (by kernel_rfl) (by kernel_rfl) (by kernel_rfl) (by kernel_rfl) (by kernel_rfl) (fun _ _ _ h=>h) (Or.inl ⟨by rfl,?_⟩) hS ?_
                ·intro w' hw'
                 obtain⟨s0,s1,s2⟩:=hw'
                 go_simp
                try simp only[Act.put,qj,qz,qv]
                refine wpAnyY_pure (i:=4) (oi:={dst:=some 101,op:=_,type:=_,pos:=_,after:=_,guard:=_}) (v:= .int .i64 (k:Int)) rfl (by kernel_rfl) (by kernel_rfl) (by kernel_rfl) (by kernel_rfl) (fun _ _ _ h=>h) (Or.inl ⟨by rfl,?_⟩) hS ?_
                ·intro w' hw'
                 go_simp
                try simp only[Act.put,qj,qz,qv]
                refine wpAnyY_pure (i:=5) (oi:={dst:=some 102,op:=_,type:=_,pos:=_,after:=_,guard:=_}) (v:= .pointer (some ⟨b,off+k*3,none⟩)) rfl (by kernel_rfl) (by kernel_rfl) (by kernel_rfl) (by kernel_rfl) (fun _ _ _ h=>h) (Or.inl ⟨by rfl,?_⟩) hS ?_
                ·intro w' hw'
                 go_simp
                try simp only[Act.put,qj,qz,qv]
                refine wpAnyY_take (i:=6) (oi:={dst:=some 103,op:=_,type:=_,pos:=_,after:=_,guard:=_}) (v:= .agg ec.toArray) rfl (by kernel_rfl) (by kernel_rfl) (by kernel_rfl) (by kernel_rfl) (by kernel_rfl) (fun _ _ _ h=>h) (yieldsIf_load_mid (by rfl) 85 (.tmp 102) rfl b (off+k*3) rfl ec _ (fun _ h=>h.2.2) hu rfl hi3) hS ?_
                try simp only[Act.put,qj,qz,qv]
                refine wpAnyY_one (i:=7) (o:={dst:=some 104,op:=_,type:=_,pos:=_,after:=_,guard:=_}) (by kernel_rfl) rfl (fun K' hK=>?_)
                refine step_box_slice rfl 32 85 (.tmp 103) rfl ie (.agg #[.int .i64 0,.int .i64 0,.slice none 0 0]) 3 ec.toArray rfl (by simpa using HEl.out) (by decide) (by decide) Tryz.underlying32 hie hez hes rfl ?_
                have HBa:=qq (show Below (G+1) wr (wr.drew.alloc (.cells ec.toArray 85))from(Below.refl (G+1) wr).drew.alloc (by show G+1≤wr.heap.size;omega) _)
                have HRa:=qq (show(wr.drew.alloc (.cells ec.toArray 85)).ownsRow (G+1) 85 3 (.slice A2 L c2) L ((keepR m x.es k).flatMap RE.cells)from rowS_below HRo.out ((Below.refl wr.heap.size wr).drew.alloc (Nat.le_refl _) (.cells ec.toArray 85)) (Nat.le_refl _))
                have HGa:=qq (show Blk (wr.drew.alloc (.cells ec.toArray 85)) G 34 _ from HGb.out.drew.alloc (.cells ec.toArray 85))
                have hSa:(wr.drew.alloc (.cells ec.toArray 85)).cell? ⟨G,32,none⟩=some (.slice A2 L c2)∧(wr.drew.alloc (.cells ec.toArray 85)).cell? ⟨w.heap.size,32,none⟩=some (.slice (some ⟨b,off,none⟩) m x.c)∧(wr.drew.alloc (.cells ec.toArray 85)).rangeAt b (off+k*3) ec:=
                 ⟨HGa.out.cell 32 (boxR_32 HGl.out),(HBa.out.cell (p:=⟨w.heap.size,32,none⟩) (by show w.heap.size<_;omega)).trans Hcx.out,fun j u hu=>(HBa.out.cell (p:=⟨b,off+k*3+j,none⟩) (by show b<_;omega)).trans (Hrg.out j u hu)⟩
                refine hK _ _ (fun _=>hSa) ?_
                clear hK K'
                try simp only[Act.put,qj,qz,qv]
                refine wpAnyY_one (i:=8) (o:={dst:=some 105,op:=_,type:=_,pos:=_,after:=_,guard:=_}) (by kernel_rfl) rfl (fun K' hK=>?_)
                refine step_append_row rfl (.tmp 98) (.tmp 104) 32 rfl 3 (by decide) (G+1) 85 ie (.agg #[.int .i64 0,.int .i64 0,.slice none 0 0]) 40 Tryz.underlying32 hie hez hes heb rfl _ L _ rfl HRa.out (wr.drew.heap.size+1) (some ⟨wr.drew.heap.size,0,none⟩) 1 1 ec rfl (by rw[HEl.out]) (by decide) (rdV_new wr.drew 85 ec) (by rw[HEc.out];exact RE.cells_one e) (by unfold maxLen;omega) (by omega) (by rw[World.size_alloc];show G+1≤wr.heap.size+1;omega) ?_
                intro v7 w7 hown7 hg7 hbb7
                obtain⟨A7,c7,rfl,-⟩:=rowS_shape hown7
                have HB7:=qq (hbb7 (G+1) _ (Nat.le_refl _) HBa.out)
                have HG7:=qq (show Blk w7 G 34 (boxR grp (.slice A2 L c2) false)from HGa.out.below (hbb7 (G+1) _ (Nat.le_refl _) (Below.refl _ _)) (by omega))
                have HO7:=qq hown7
                have c7g:=HG7.out.cell 32 (boxR_32 HGl.out)
                have f7g:=HG7.out.frozen 32
                have hS7:w7.cell? ⟨G,32,none⟩=some (.slice A2 L c2)∧w7.cell? ⟨w.heap.size,32,none⟩=some (.slice (some ⟨b,off,none⟩) m x.c)∧w7.rangeAt b (off+k*3) ec:=
                 ⟨c7g,(HB7.out.cell (p:=⟨w.heap.size,32,none⟩) (by show w.heap.size<_;omega)).trans Hcx.out,fun j u hu=>(HB7.out.cell (p:=⟨b,off+k*3+j,none⟩) (by show b<_;omega)).trans (Hrg.out j u hu)⟩
                clear hown7 hg7 hbb7 hS hSa
                refine hK _ _ (fun _=>hS7) ?_
                clear hK K'
                try simp only[Act.put,qj,qz,qv]
                have hS:=hS7
                clear hS7
                refine wpAnyY_pure (i:=9) (oi:={dst:=some 106,op:=_,type:=_,pos:=_,after:=_,guard:=_}) (v:= .pointer (some ⟨G,32,none⟩)) rfl (by kernel_rfl) (by kernel_rfl) (by kernel_rfl) (by kernel_rfl) (fun _ _ _ h=>h) (Or.inl ⟨by rfl,?_⟩) hS ?_
                ·intro w' hw'
                 go_simp
                try simp only[Act.put,qj,qz,qv]
                refine wpAnyY_one (i:=10) (o:={dst:=none,op:=_,type:=_,pos:=_,after:=_,guard:=_}) (by kernel_rfl) rfl (fun K' hK=>?_)
                go_simp
                refine hK _ _ (fun h=>absurd rfl h) (wpAnyY_done (by kernel_rfl) ?_ _)
                clear hK K' c7g f7g hS
                have hks:keepR m x.es (k+1)=keepR m x.es k++ [e]:=keepR_succ HKe.out hkp
                have HG8:=qq (show Blk (w7.setCell ⟨G,32,none⟩ (.slice A7 (L+1) c7)) G 34 (boxR grp (.slice A7 (keepR m x.es (k+1)).length c7) false)from(HG7.out.set_ 32 _).cast (by rw[boxR_set32 HGl.out,hks,List.length_append,←HL.out];rfl))
                have HO8:=qq (show(w7.setCell ⟨G,32,none⟩ (.slice A7 (L+1) c7)).ownsRow (G+1) 85 3 (.slice A7 (keepR m x.es (k+1)).length c7) (keepR m x.es (k+1)).length ((keepR m x.es (k+1)).flatMap RE.cells) by
                 rw[hks,List.length_append,List.flatMap_append,List.flatMap_singleton,←HL.out,←HEc.out]
                 exact ownsRow_setCell_below HO7.out (by show G<G+1;omega) _)
                have HB8:=qq (show Below G wq (w7.setCell ⟨G,32,none⟩ (.slice A7 (L+1) c7))from(HBx.out.trans (HB7.out.mono (by omega))).setCell (Nat.le_refl _) _)
                have hz8:G+1≤(w7.setCell ⟨G,32,none⟩ (.slice A7 (L+1) c7)).heap.size:=by have:=HB7.out.size;simp[World.setCell];omega
                clear hks HGb HRo HBx HB9 HBa HRa HGa HB7 HG7 HO7
                go_wp2_with fail
                go_roundw
                case rel=>exact⟨k+1,A7,c7,by go_num,by omega,HG8.out,HO8.out,HB8.out,hz8⟩
                case measure=>simp[intOf]<;>omega
               ·have hk0i:¬((k:Int)>0):=by omega
                go_wp2_with fail
                go_roundw
                case rel=>
                 have hkk:keepR m x.es (k+1)=keepR m x.es k:=by
                  have:k=0:=by omega
                  rw[this,keepR_skip _ hm4,keepR_zero]
                 exact⟨k+1,A2,c2,by go_num,by omega,by rw[hkk,←HL.out];exact HGb.out,by rw[hkk,←HL.out];exact HRo.out,HBx.out,hzx⟩
                case measure=>simp[intOf]<;>omega
             ·obtain rfl:m=k:=by omega
              have hlk:¬((m:Int)<(m:Int)):=by omega
              go_upto_region 19 with fail
              obtain⟨ie,hie,hez,hes,heb⟩:=info_parts infoREpoch
              obtain⟨ec,hec⟩:∃ec,ec=[Value.int .i64 no,.int .i64 (lf:Int),.slice A N c]:=⟨_,rfl⟩
              have HPx:=qq (show Blk wr (w.heap.size+4) 85 ec by rw[hec];exact HP.out.below HBx.out (by omega))
              have HEl:=qq (show ec.length=3 by rw[hec];rfl)
              have HE1:=qq (show∀u∈ec,u.oneCell'=true by rw[hec];intro u hu;simp only[List.mem_cons,List.not_mem_nil,or_false]at hu;rcases hu with rfl|rfl|rfl<;>rfl)
              have HEc:=qq hec
              have hcg:wr.cell? ⟨G,32,none⟩=some (.slice A2 L c2):=HGb.out.cell 32 (boxR_32 HGl.out)
              have HRb:=qq (rowS_below HRo.out ((Below.refl wr.heap.size wr).alloc (Nat.le_refl _) (.cells ec.toArray 85)) (Nat.le_refl _))
              clear hec
              have tokL:True:=trivial
              have tokB:True:=trivial
              have tokA:True:=trivial
              go_upto_region 20 with(first
               |(have _t:=tokA;at_builtin;refine wpList_append_row rfl _ _ 32 rfl 3 (by decide) (G+1) 85 ie (.agg #[.int .i64 0,.int .i64 0,.slice none 0 0]) 40 Tryz.underlying32 hie hez hes heb rfl _ L _ rfl HRb.out (wr.heap.size+1) (some ⟨wr.heap.size,0,none⟩) 1 1 ec rfl (by rw[HEl.out]) (by decide) (rdV_new wr 85 ec) HE1.out (by unfold maxLen;omega) (by omega) (by rw[World.size_alloc];omega) ?_
                 intro v7 w7 hown7 hg7 hbb7
                 obtain⟨A7,c7,rfl,-⟩:=rowS_shape hown7
                 have HBa:=qq (show Below (G+1) wr (wr.alloc (.cells ec.toArray 85))from(Below.refl (G+1) wr).alloc (by omega) _)
                 have HB7:=qq (hbb7 (G+1) _ (Nat.le_refl _) HBa.out)
                 have HG7:=qq (show Blk w7 G 34 (boxR grp (.slice A2 L c2) false)from HGb.out.below HB7.out (by omega))
                 have HO7:=qq hown7
                 have c7g:=HG7.out.cell 32 (boxR_32 HGl.out)
                 have f7g:=HG7.out.frozen 32
                 clear hown7 hg7 hbb7 tokA _t)
               |(have _t:=tokL;refine wpList_load_mid rfl 85 (.tmp 15) rfl (w.heap.size+4) 0 rfl ec _ HPx.out.whole Tryz.underlying85 rfl (by rw[HEl.out];exact sizeREpoch) ?_;clear tokL _t)
               |(have _t:=tokB;refine wpList_box_slice rfl 32 85 (.tmp 109) rfl ie (.agg #[.int .i64 0,.int .i64 0,.slice none 0 0]) 3 ec.toArray rfl (by simpa using HEl.out) (by decide) (by decide) Tryz.underlying32 hie hez hes rfl ?_;clear tokB _t))
              have HG8:=qq (show Blk (w7.setCell ⟨G,32,none⟩ (.slice A7 (L+1) c7)) G 34 (boxR grp (.slice A7 (L+1) c7) false)from(HG7.out.set_ 32 _).cast (boxR_set32 HGl.out _))
              have HO8:=qq (show(w7.setCell ⟨G,32,none⟩ (.slice A7 (L+1) c7)).ownsRow (G+1) 85 3 (.slice A7 (L+1) c7) (L+1) ((keepR m x.es m).flatMap RE.cells++ec)from ownsRow_setCell_below HO7.out (by show G<G+1;omega) _)
              have HB8:=qq (show Below G wq (w7.setCell ⟨G,32,none⟩ (.slice A7 (L+1) c7))from(HBx.out.trans (HB7.out.mono (by omega))).setCell (Nat.le_refl _) _)
              obtain⟨w8,hw8⟩:∃w8,w8=w7.setCell ⟨G,32,none⟩ (.slice A7 (L+1) c7):=⟨_,rfl⟩
              rw[←hw8]at HG8 HO8 HB8
              rw[←hw8]
              have HBt:=qq (HB.out.trans (HB8.out.mono (by omega)))
              have HZ8:=qq (HZ1.out.below HBt.out (by omega))
              obtain⟨C8,hC8⟩:∃C8,C8=boxR grp (.slice A7 (L+1) c7) false:=⟨_,rfl⟩
              rw[←hC8]at HG8
              have HC8l:=qq (show C8.length=34 by rw[hC8];exact boxR_len HGl.out)
              have HC81:=qq (show∀u∈C8,u.oneCell'=true by rw[hC8];exact boxR_one rfl)
              have HC8:=qq hC8
              clear hw8 hC8 c7g f7g hcg
              go_wp2_with (first
               |(refine wpList_load_mid rfl 34 (.tmp 17) rfl G 0 rfl C8 _ HG8.out.whole Tryz.underlying34 rfl (by rw[HC8l.out];exact infoRBox) ?_)
               |(refine wpList_store_piece rfl 34 (.tmp 12) (.tmp 113) rfl (w.heap.size+3) 0 rfl C8 rfl 34 _ [] zeroRB [] HZ8.out (by simp) rfl (by rw[HC8l.out];rfl) (by rw[HC8l.out];exact infoRBox) HC81.out ?_;intro w9 hx9 hg9))
              have HX9:=qq (show Blk w9 (w.heap.size+3) 34 C8 from hx9.cast (by simp))
              refine bodyPost_ret (v:= .tuple #[.agg C8.toArray,.int .i64 0]) (results_blk_tmp (g:=w.heap.size+3) rfl _ _ _ _ _ _ rfl rfl HX9.out Tryz.underlying34 rfl (by rw[HC8l.out];exact infoRBox)) rfl ?_
              have hs89:=hg9.size
              have hB19:Below w.heap.size w w9:=(HB1.out.trans (HBt.out.mono (by omega))).grown hg9 (by have:=HBt.out.size;omega) (fun k e=>by cases e;omega)
              have hpl:(Below (w.heap.size+3) w1 w9):=(HBt.out.mono (by omega)).grown hg9 (by have:=HBt.out.size;omega) (fun k e=>by cases e;omega)
              have hx9':x.At w9:=HR1.out.same hpl.size (fun k hk=>hpl.block k (by have:=HLt.out k hk;omega))
              have hsame:∀k,w.heap.size+4≤k→k<w8.heap.size→w9.heap[k]?=w8.heap[k]?:=fun k hk1 hk2=>hg9.block k hk2 (fun e=>by injection e with e;omega)
              refine enter_fin HH.out HHm.out HL.out HGl.out HSl.out HEc.out HC8.out hN32 HE.out (HO.out) (by have:=hzr;omega) (Nat.le_of_eq HGe.out) HB8.out HO8.out hsame hs89 hx9' hB19 (fun k hk=>HLt.out k hk) HGe.out
end Go.Proofs.YtelgjaiknaalkaaGreatDoor
