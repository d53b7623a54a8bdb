/- Lemmas, joined and made smaller by a program. -/
import Derived.Test.YtelgjaiknaalkaaGreatDoorPm22
open Go.Lib renaming hid → qq
set_option linter.unusedVariables false
set_option linter.unusedSimpArgs false
namespace Go.Proofs.YtelgjaiknaalkaaGreatDoor
open Go.RowKit
theorem path_bounds(x n:Int):(pathL x n).length≤6∧∀p∈pathL x n,0≤p∧p<64:=by
 have h:=chain_of x n
 refine⟨h.2,?_⟩
 have h1:=h.1
 generalize pathL x n=L at h1
 generalize parV x n=q at h1
 induction L generalizing q with
 |nil=>intro p hp;cases hp
 |cons y l ih=>
  obtain⟨rfl,h0,h64,hc⟩:=chain_cons h1
  intro p hp
  rcases List.mem_cons.1 hp with rfl|hp
  ·exact⟨h0,h64⟩
  ·exact ih _ hc p hp
set_option maxRecDepth 100000 in
set_option maxHeartbeats 4000000 in
theorem refLeaf_any(w:World)(s:List (BitVec 8))(hs:s.length=32)(n i:Nat)(hn:n≤32)(hi:i<32):
 Calls Tryz.prog 32 #[arrV b8 s,.int .i64 (n:Int),.int .i64 (i:Int)] w fun e w'=>e= .returned (arrV b8 (leafS n i s))∧Below w.heap.size w w':=by
 obtain⟨i0,hi0,hz0,hz1,hz2⟩:=info_parts infoInt
 have HS:=qq hs
 obtain⟨D,hD⟩:∃D,D=leafS n i s:=⟨_,rfl⟩
 have HDl:=qq (show D.length=32 by rw[hD];exact downS_len _ _ _ _ hs)
 obtain⟨x,hx⟩:∃x:Nat,x=2*i:=⟨_,rfl⟩
 have hxi:(2:Int)*(i:Int)=(x:Int):=by omega
 obtain⟨L,hL⟩:∃L,L=pathL (x:Int) n:=⟨_,rfl⟩
 have hb:=path_bounds (x:Int) n
 rw[←hL]at hb
 have HD:=qq (show D=downS L (x:Int) L.length s by rw[hD];unfold leafS;rw[hxi,←hL])
 have hp:=refPath_any (x:Int) n
 rw[←hL]at hp
 have HP:=qq hp
 have HBd:=qq hb.2
 have hLl:=hb.1
 obtain⟨w2,hw2⟩:∃w2,w2=(w.alloc (.cells (s.map b8).toArray 23)).alloc (.cells ((List.replicate 32 0#8).map b8).toArray 23):=⟨_,rfl⟩
 have HA2:=qq (show Arr b8 w2 w.heap.size 23 s by rw[hw2];exact(Arr.new b8 w 23 s).alloc _)
 have HZ2:=qq (show Arr b8 w2 (w.heap.size+1) 23 (List.replicate 32 0#8) by
  rw[hw2];have h:=Arr.new b8 (w.alloc (.cells (s.map b8).toArray 23)) 23 (List.replicate 32 0#8);rw[World.size_alloc]at h;exact h)
 have HB2:=qq (show Below w.heap.size w w2 by rw[hw2];exact((Below.refl _ w).alloc (Nat.le_refl _) _).alloc (by simp) _)
 have hzw:w2.heap.size=w.heap.size+2:=by rw[hw2];simp
 have hzb:w.heap.size+1<w2.heap.size:=by omega
 have HW2:=qq hw2
 rw[←hD,arrV_mk,arrV_mk]
 have HXx:=qq hx
 have hx32:x<64:=by omega
 clear hs hD hw2 hzw hp hb hL hx
 go_enter Tryz.func32,Tryz.ntmps32
 go_upto_region 1 with fail
 have hw2:=HW2.out
 simp only[show((List.replicate 32 0#8).map b8).toArray= #[Value.int .u8 0,Value.int .u8 0,Value.int .u8 0,Value.int .u8 0,Value.int .u8 0,Value.int .u8 0,Value.int .u8 0,Value.int .u8 0,Value.int .u8 0,Value.int .u8 0,Value.int .u8 0,Value.int .u8 0,Value.int .u8 0,Value.int .u8 0,Value.int .u8 0,Value.int .u8 0,Value.int .u8 0,Value.int .u8 0,Value.int .u8 0,Value.int .u8 0,Value.int .u8 0,Value.int .u8 0,Value.int .u8 0,Value.int .u8 0,Value.int .u8 0,Value.int .u8 0,Value.int .u8 0,Value.int .u8 0,Value.int .u8 0,Value.int .u8 0,Value.int .u8 0,Value.int .u8 0]from rfl]at hw2
 rw[←hw2]
 clear hw2
 go_wp2_with fail
 refine(HP.out w2).mono ?_
 rintro e w3 ⟨v,rfl,ho,hb3⟩
 obtain⟨m,hm⟩:∃m,m=L.length:=⟨_,rfl⟩
 obtain⟨A3,c3,rfl,-,-,-,-⟩:=ho.shape' (n:=m) hm.symm
 have HO3:=qq ho
 have HM:=qq hm
 have hm6:m≤6:=by omega
 have hs3:=hb3.size
 have HB3:=qq (HB2.out.trans (hb3.mono HB2.out.size))
 have HA3:=qq (HA2.out.below hb3 (by omega))
 have HZ3:=qq (HZ2.out.below hb3 (by omega))
 have HR:=qq (show∀W:World,Rd i64v (W.alloc (.cells #[.int .i64 0] 3)) (W.heap.size+1) (some ⟨W.heap.size,0,none⟩) [0]from fun W=>Rd.new i64v W 3 [0])
 have hmi:(m:Int)+1-1=(m:Int):=by omega
 clear ho hm hb3 hLl HA2 HZ2
 go_upto_region 3 with(at_builtin;(refine wpList_append_rd rfl (.tmp 16) (.tmp 17) 70 rfl i64v_one w2.heap.size 3 i0 _ 8 Tryz.underlying70 hi0 hz0 hz1 hz2 rfl _ L rfl (HO3.out.alloc _) (w3.heap.size+1) _ 1 1 [0] rfl rfl (HR.out w3) (by have:=HM.out;simp[maxLen];omega) (by have:=HM.out;simp;omega) (by simp;omega) ?_;intro v4 w4 ho4 hg4 hbb4;obtain⟨A4,c4,rfl,-,-,hc4,-⟩:=ho4.shape' (n:=m+1) (by rw[List.length_append,HM.out];rfl);have HO4:=qq ho4;have HG4:=qq (hbb4 w2.heap.size w3 (Nat.le_refl _) ((Below.refl _ w3).mono hs3|>.alloc hs3 _));clear ho4 hg4 hbb4))
 have HL4:=qq (show Own i64v w4 w2.heap.size 3 (.slice A4 m c4) L from(HO4.out.short m (Nat.le_succ m)).cast (by rw[HM.out];simp))
 have HA4:=qq (HA3.out.below HG4.out (by omega))
 have HZ4:=qq (HZ3.out.below HG4.out (by omega))
 have HB4:=qq (HB3.out.trans (HG4.out.mono (by omega)))
 have hs4:=HG4.out.size
 have HGl:=qq (show∀b,(Value.slice A4 m c4).ownBlock=some b→b<w4.heap.size from fun b e=>(HL4.out.lt b e).2)
 have HT4:=qq (Arr.new b8 w4 23 (List.replicate 32 0#8))
 go_upto_region 4 with(first
  |(refine wpList_load_arr rfl 23 (.tmp 3) rfl w.heap.size rfl _ s HA4.out _ Tryz.underlying23 rfl (by rw[size32,HS.out]) ?_)
  |(refine wpList_store_arr rfl 23 (.tmp 8) (.tmp 24) rfl w4.heap.size rfl s rfl _ _ HT4.out (by rw[HS.out];rfl) (by rw[size32,HS.out]) b8_one' ?_;intro w5 hx5 hg5;have HX5:=qq hx5;have HL5:=qq ((HL4.out.alloc (.cells ((List.replicate 32 0#8).map b8).toArray 23)).kept' hg5 (fun b e hv=>by cases e;exact absurd (HL4.out.lt _ hv).2 (by omega)));have HZ5:=qq ((HZ4.out.alloc (.cells ((List.replicate 32 0#8).map b8).toArray 23)).grown hg5 (fun e=>by injection e with e;omega));have HB5:=qq ((HB4.out.alloc HB4.out.size (.cells ((List.replicate 32 0#8).map b8).toArray 23)).grown hg5 (by have:=HB4.out.size;simp;omega) (fun k e=>by cases e;exact HB4.out.size));clear hx5 hg5))
 go_wp2_with fail
 go_loopw [9] (fun v wr=>∃(r:Nat) (z:List (BitVec 8)),v= .int .i64 ((r:Int)-1)∧r≤m∧z.length=32∧Arr b8 wr w4.heap.size 23 z∧downS L (x:Int) r z=D∧Arr b8 wr (w.heap.size+1) 23 (List.replicate 32 0#8)∧Own i64v wr w2.heap.size 3 (.slice A4 m c4) L∧Below w.heap.size w wr) (fun v _=>(intOf v+1).toNat)
 case atStart=>exact⟨m,s,rfl,Nat.le_refl _,HS.out,HX5.out,by rw[HM.out];exact HD.out.symm,HZ5.out,HL5.out,HB5.out⟩
 case round=>
  obtain⟨r,z,rfl,hr,hzl,ha,hd,hzr,ho,hb⟩:=hrel
  have HZl:=qq hzl
  have HA:=qq ha
  have HZ:=qq hzr
  have HO:=qq ho
  have HB:=qq hb
  clear hzl ha hzr hb
  cases r with
  |zero=>
   have hzD:z=D:=by rw[downS]at hd;exact hd
   subst hzD
   rw[show((0:Nat):Int)-1= -1 from rfl]
   clear ho hd
   go_upto_region 14 with fail
   refine wp_region_lit ?_
   refine wpList_load_arr rfl 23 (.tmp 8) rfl w4.heap.size rfl _ z HA.out _ Tryz.underlying23 rfl (by rw[size32,HZl.out]) ?_
   refine wpList_store_arr rfl 23 (.tmp 6) (.tmp 56) rfl (w.heap.size+1) rfl z rfl _ _ HZ.out (by rw[HZl.out];rfl) (by rw[size32,HZl.out]) b8_one' ?_
   intro w6 hx6 hg6
   go_wp2_with fail
   refine bodyPost_ret (v:= .agg (z.map b8).toArray) (results_arr (g:=w.heap.size+1) rfl _ _ _ _ _ rfl hx6 Tryz.underlying23 rfl (by rw[size32,HZl.out])) rfl ?_
   exact⟨rfl,HB.out.grown hg6 HB.out.size (fun k e=>by cases e;omega)⟩
  |succ r=>
   have HDn:=qq (show downS L (x:Int) r (stepS L (x:Int) r z)=D by rw[downS]at hd;exact hd)
   clear hd
   rw[show((r+1:Nat):Int)-1=(r:Int) by omega]
   obtain⟨g,cg,eg,hgb,hgl,-⟩:=ho.form' HM.out.symm (by omega)
   injection eg with eg1 eg2 eg3
   subst eg1
   clear ho eg2 eg3
   have hg4:g<w4.heap.size:=HGl.out g rfl
   have hrm:(r:Int)<(m:Int):=by omega
   have hLr:r<L.length:=by rw[←HM.out];omega
   have c1:=(HO.out.at_ (k:=r) hLr).1
   have hpb:=HBd.out _ (List.getElem_mem hLr)
   have hpe:L[r]=L.getD r 0:=by rw[List.getD,List.getElem?_eq_getElem hLr];rfl
   rw[hpe]at c1 hpb
   unfold i64v at c1
   have hch:=refChildren_any (L.getD r 0) (by omega) wr
   obtain⟨pp,hpp⟩:∃pp,pp=L.getD r 0:=⟨_,rfl⟩
   rw[←hpp]at c1 hpb hch
   obtain⟨cl,hcl⟩:∃cl,cl=childL pp:=⟨_,rfl⟩
   rw[←hcl]at hch
   generalize childR pp=cr at hch
   have HCh:=qq hch
   have HPp:=qq hpp
   have HCl:=qq hcl
   clear hch hpe hpp hcl
   by_cases hr0:r=0
   ·subst hr0
    rw[show(((0:Nat)):Int)=0 from rfl]
    by_cases hc:(x:Int)=cl
    ·have hce:((x:Int)==cl)=true:=by simpa using hc
     have Hc:=qq hc
     clear hc
     have HDv:=qq (refDerive_any wr z HZl.out ⟨#[108,101,102,116]⟩ lLeft strLeft (by decide))
     rw[arrV_mk,arrV_mk]at HDv
     go_wp2_with (first
      |(go_at_call 56;refine HCh.out.mono ?_;rintro e w' ⟨rfl,rfl⟩)
      |(refine wpList_load_arr rfl 23 (.tmp 8) rfl w4.heap.size rfl _ z HA.out _ Tryz.underlying23 rfl (by rw[size32,HZl.out]) ?_)
      |(go_at_call 57;refine(HDv.out).mono ?_;rintro e w6 ⟨rfl,hb6⟩;have HB6:=qq hb6;have HA6:=qq (HA.out.below hb6 HA.out.lt);have HZ6:=qq (HZ.out.below hb6 HZ.out.lt);have HO6:=qq (HO.out.below hb6 (Nat.le_refl _));clear hb6)
      |(refine wpList_store_arr rfl 23 (.tmp 8) (.tmp 53) rfl w4.heap.size rfl (derV z lLeft) rfl _ _ HA6.out (by rw[HZl.out,derV_len]) (by rw[size32,derV_len]) b8_one' ?_;intro w7 hx7 hg7;have HX7:=qq hx7;have HG7:=qq hg7;clear hx7 hg7))
     go_roundw
     case rel=>exact⟨0,derV z lLeft,by first|rfl|simp,by omega,derV_len _ _,HX7.out,by rw[←HDn.out];unfold stepS;rw[if_pos rfl,←HPp.out,←HCl.out,if_pos Hc.out],HZ6.out.grown HG7.out (fun e=>by injection e with e;omega),HO6.out.kept HG7.out (.inr (fun e=>by injection e with e;have e2:g=w4.heap.size:=e;omega)),(HB.out.trans (HB6.out.mono HB.out.size)).grown HG7.out (by have:=HB6.out.size;have:=HB.out.size;omega) (fun k e=>by cases e;omega)⟩
     case measure=>simp[intOf]<;>omega
    ·have hce:((x:Int)==cl)=false:=by simpa using hc
     have Hc:=qq hc
     clear hc
     have HDv:=qq (refDerive_any wr z HZl.out ⟨#[114,105,103,104,116]⟩ lRight strRight (by decide))
     rw[arrV_mk,arrV_mk]at HDv
     go_wp2_with (first
      |(go_at_call 56;refine HCh.out.mono ?_;rintro e w' ⟨rfl,rfl⟩)
      |(refine wpList_load_arr rfl 23 (.tmp 8) rfl w4.heap.size rfl _ z HA.out _ Tryz.underlying23 rfl (by rw[size32,HZl.out]) ?_)
      |(go_at_call 57;refine(HDv.out).mono ?_;rintro e w6 ⟨rfl,hb6⟩;have HB6:=qq hb6;have HA6:=qq (HA.out.below hb6 HA.out.lt);have HZ6:=qq (HZ.out.below hb6 HZ.out.lt);have HO6:=qq (HO.out.below hb6 (Nat.le_refl _));clear hb6)
      |(refine wpList_store_arr rfl 23 (.tmp 8) (.tmp 55) rfl w4.heap.size rfl (derV z lRight) rfl _ _ HA6.out (by rw[HZl.out,derV_len]) (by rw[size32,derV_len]) b8_one' ?_;intro w7 hx7 hg7;have HX7:=qq hx7;have HG7:=qq hg7;clear hx7 hg7))
     go_roundw
     case rel=>exact⟨0,derV z lRight,by first|rfl|simp,by omega,derV_len _ _,HX7.out,by rw[←HDn.out];unfold stepS;rw[if_pos rfl,←HPp.out,←HCl.out,if_neg Hc.out],HZ6.out.grown HG7.out (fun e=>by injection e with e;omega),HO6.out.kept HG7.out (.inr (fun e=>by injection e with e;have e2:g=w4.heap.size:=e;omega)),(HB.out.trans (HB6.out.mono HB.out.size)).grown HG7.out (by have:=HB6.out.size;have:=HB.out.size;omega) (fun k e=>by cases e;omega)⟩
     case measure=>simp[intOf]<;>omega
   ·obtain⟨q,hq⟩:∃q,r=q+1:=⟨r-1,by omega⟩
    have hLq:q<L.length:=by omega
    have c2:=(HO.out.at_ (k:=q) hLq).1
    have hqe:L[q]=L.getD q 0:=by rw[List.getD,List.getElem?_eq_getElem hLq];rfl
    rw[hqe]at c2
    unfold i64v at c2
    obtain⟨pq,hpq⟩:∃pq,pq=L.getD q 0:=⟨_,rfl⟩
    rw[←hpq]at c2
    have HPq:=qq hpq
    have HQ:=qq hq
    have hrq:(r:Int)-1=(q:Int):=by omega
    have hr1:(0:Int)<(r:Int):=by omega
    have hqm:(q:Int)<(m:Int):=by omega
    clear hqe hpq hq
    by_cases hc:pq=cl
    ·have hce:(pq==cl)=true:=by simpa using hc
     have Hc:=qq hc
     clear hc
     have HDv:=qq (refDerive_any wr z HZl.out ⟨#[108,101,102,116]⟩ lLeft strLeft (by decide))
     rw[arrV_mk,arrV_mk]at HDv
     go_wp2_with (first
      |(go_at_call 56;refine HCh.out.mono ?_;rintro e w' ⟨rfl,rfl⟩)
      |(refine wpList_load_arr rfl 23 (.tmp 8) rfl w4.heap.size rfl _ z HA.out _ Tryz.underlying23 rfl (by rw[size32,HZl.out]) ?_)
      |(go_at_call 57;refine(HDv.out).mono ?_;rintro e w6 ⟨rfl,hb6⟩;have HB6:=qq hb6;have HA6:=qq (HA.out.below hb6 HA.out.lt);have HZ6:=qq (HZ.out.below hb6 HZ.out.lt);have HO6:=qq (HO.out.below hb6 (Nat.le_refl _));clear hb6)
      |(refine wpList_store_arr rfl 23 (.tmp 8) (.tmp 53) rfl w4.heap.size rfl (derV z lLeft) rfl _ _ HA6.out (by rw[HZl.out,derV_len]) (by rw[size32,derV_len]) b8_one' ?_;intro w7 hx7 hg7;have HX7:=qq hx7;have HG7:=qq hg7;clear hx7 hg7))
     go_roundw
     case rel=>exact⟨r,derV z lLeft,by rw[hrq],by omega,derV_len _ _,HX7.out,by rw[←HDn.out];unfold stepS;rw[if_neg hr0,HQ.out,Nat.add_sub_cancel,←HPq.out,←HQ.out,←HPp.out,←HCl.out,if_pos Hc.out],HZ6.out.grown HG7.out (fun e=>by injection e with e;omega),HO6.out.kept HG7.out (.inr (fun e=>by injection e with e;have e2:g=w4.heap.size:=e;omega)),(HB.out.trans (HB6.out.mono HB.out.size)).grown HG7.out (by have:=HB6.out.size;have:=HB.out.size;omega) (fun k e=>by cases e;omega)⟩
     case measure=>simp[intOf]<;>omega
    ·have hce:(pq==cl)=false:=by simpa using hc
     have Hc:=qq hc
     clear hc
     have HDv:=qq (refDerive_any wr z HZl.out ⟨#[114,105,103,104,116]⟩ lRight strRight (by decide))
     rw[arrV_mk,arrV_mk]at HDv
     go_wp2_with (first
      |(go_at_call 56;refine HCh.out.mono ?_;rintro e w' ⟨rfl,rfl⟩)
      |(refine wpList_load_arr rfl 23 (.tmp 8) rfl w4.heap.size rfl _ z HA.out _ Tryz.underlying23 rfl (by rw[size32,HZl.out]) ?_)
      |(go_at_call 57;refine(HDv.out).mono ?_;rintro e w6 ⟨rfl,hb6⟩;have HB6:=qq hb6;have HA6:=qq (HA.out.below hb6 HA.out.lt);have HZ6:=qq (HZ.out.below hb6 HZ.out.lt);have HO6:=qq (HO.out.below hb6 (Nat.le_refl _));clear hb6)
      |(refine wpList_store_arr rfl 23 (.tmp 8) (.tmp 55) rfl w4.heap.size rfl (derV z lRight) rfl _ _ HA6.out (by rw[HZl.out,derV_len]) (by rw[size32,derV_len]) b8_one' ?_;intro w7 hx7 hg7;have HX7:=qq hx7;have HG7:=qq hg7;clear hx7 hg7))
     go_roundw
     case rel=>exact⟨r,derV z lRight,by rw[hrq],by omega,derV_len _ _,HX7.out,by rw[←HDn.out];unfold stepS;rw[if_neg hr0,HQ.out,Nat.add_sub_cancel,←HPq.out,←HQ.out,←HPp.out,←HCl.out,if_neg Hc.out],HZ6.out.grown HG7.out (fun e=>by injection e with e;omega),HO6.out.kept HG7.out (.inr (fun e=>by injection e with e;have e2:g=w4.heap.size:=e;omega)),(HB.out.trans (HB6.out.mono HB.out.size)).grown HG7.out (by have:=HB6.out.size;have:=HB.out.size;omega) (fun k e=>by cases e;omega)⟩
     case measure=>simp[intOf]<;>omega
end Go.Proofs.YtelgjaiknaalkaaGreatDoor
