/- Lemmas, joined and made smaller by a program. -/
import Derived.Test.YtelgjaiknaalkaaDoorPo11
open Go.Lib renaming hid → qq
open List renaming setIfInBounds_toArray → qj
open List renaming set_cons_zero → qz
open List renaming set_cons_succ → qv
set_option linter.unusedVariables false
set_option linter.unusedSimpArgs false
namespace Go.Proofs.YtelgjaiknaalkaaDoor
open Go.RowKit
set_option maxRecDepth 100000 in
set_option maxHeartbeats 4000000 in
theorem step_any(w:World)(g:Nat)(t:Bool)(h:Int)(s:BitVec 64)(link:List (BitVec 8))(place:Int)(m:Value)(hB:Blk w g 77 (lineC t h s link place m))(hl:link.length=32)(hp:0≤place∧place≤4294967295):
 Calls Tryd.prog 53 #[.pointer (some ⟨g,0,none⟩)] w fun e w'=>∃b,e= .returned (.tuple #[.agg (onceC place ((labV link lKey 44).take 32) (nonceS b)).toArray,.nilIface])∧
  w.heap.size≤b∧Arr b8 w' b 5 (labV link lKey 44)∧Blk w' g 77 (lineC t h s (derV link lNext) (place+1) m)∧w.grownBy w' (some g):=by
 obtain⟨V,hV⟩:∃V,V=labV link lKey 44:=⟨_,rfl⟩
 have HVl:=qq (show V.length=44 by rw[hV];exact labV_len _ _ _ (by omega))
 obtain⟨Kk,hKk⟩:∃Kk,Kk=V.take 32:=⟨_,rfl⟩
 have HKl:=qq (show Kk.length=32 by rw[hKk,List.length_take,HVl.out];rfl)
 obtain⟨N,hN⟩:∃N,N=derV link lNext:=⟨_,rfl⟩
 have HNl:=qq (show N.length=32 by rw[hN];exact derV_len _ _)
 have HS:=qq hl
 have HB:=qq hB
 have hgl:=hB.lt
 have HOnce:=qq (show∀W':World,Calls Tryd.prog 68 #[.agg (link.map b8).toArray,.int .i64 place] W' fun e w'=>∃b,e= .returned (.tuple #[.agg (onceC place Kk (nonceS b)).toArray,.nilIface])∧
  W'.heap.size≤b∧Arr b8 w' b 5 V∧Below W'.heap.size W' w' from fun W'=>by rw[hKk,hV];exact once_any W' link hl place)
 have HNext:=qq (show∀W':World,Calls Tryd.prog 40 #[.agg (link.map b8).toArray,.string ⟨#[110,101,120,116]⟩] W' fun e w'=>e= .returned (.agg (N.map b8).toArray)∧Below W'.heap.size W' w' from fun W'=>by
  have h:=derive_any W' link hl ⟨#[110,101,120,116]⟩ lNext strNext (by decide)
  rw[arrV_mk,arrV_mk,←hN]at h;exact h)
 obtain⟨w1,hw1⟩:∃w1,w1=w.alloc (.cells zeroOnce.toArray 56):=⟨_,rfl⟩
 have HZ1:=qq (show Blk w1 w.heap.size 56 zeroOnce by rw[hw1];exact Blk.new _ _ _)
 have HB1:=qq (show Blk w1 g 77 (lineC t h s link place m) by rw[hw1];exact hB.alloc _)
 have HG1:=qq (show Below w.heap.size w w1 by rw[hw1];exact(Below.refl _ w).alloc (Nat.le_refl _) _)
 have hz1:w1.heap.size=w.heap.size+1:=by rw[hw1];simp
 have HW1:=qq hw1
 have HKeep:=qq (show∀W':World,Blk W' g 77 (lineC t h s link place m)→W'.rangeAt g 3 (link.map b8)∧W'.cell? ⟨g,35,none⟩=some (.int .i64 place)from fun W' hb=>by
  refine⟨?_,hb.cell 35 (lineC_35 hl)⟩
  have h1:=hb.range 3 32
  rwa[lineC_link hl]at h1)
 have hk1:=HKeep.out _ HB1.out.drew
 have hu:=Tryd.underlying29
 have hi32:(Tryd.prog.info? 29).map (·.size)=some (link.map b8).length:=by rw[List.length_map,hl];exact size32
 rw[←hV,←hKk,←hN]
 clear hV hKk hN hw1 hB hl
 go_enter Tryd.func53,Tryd.ntmps53
 go_upto_region 1 with fail
 have hw1:=HW1.out
 simp only[show zeroOnce.toArray= #[Value.int .i64 0,Value.int .u8 0,Value.int .u8 0,Value.int .u8 0,Value.int .u8 0,Value.int .u8 0,Value.int .u8 0,Value.int .u8 0,Value.int .u8 0,Value.int .u8 0,Value.int .u8 0,Value.int .u8 0,Value.int .u8 0,Value.int .u8 0,Value.int .u8 0,Value.int .u8 0,Value.int .u8 0,Value.int .u8 0,Value.int .u8 0,Value.int .u8 0,Value.int .u8 0,Value.int .u8 0,Value.int .u8 0,Value.int .u8 0,Value.int .u8 0,Value.int .u8 0,Value.int .u8 0,Value.int .u8 0,Value.int .u8 0,Value.int .u8 0,Value.int .u8 0,Value.int .u8 0,Value.int .u8 0,Value.slice none 0 0]from rfl]at hw1
 rw[←hw1]
 clear hw1
 refine wp_region_noPanic ?_
 refine wp_region_held_drew (S:=fun w'=>w'.rangeAt g 3 (link.map b8)∧w'.cell? ⟨g,35,none⟩=some (.int .i64 place)) (by kernel_rfl) hk1 (fun hS=>?_)
 refine wpAnyH_take (i:=0) (oi:={dst:=some 7,op:=_,type:=_,pos:=_,after:=_,guard:=_}) (v:= .pointer (some ⟨g,0,none⟩)) rfl (by kernel_rfl) (by kernel_rfl) (by kernel_rfl) (fun _ _ _ h=>h) (Or.inl ⟨by rfl,?_⟩) hS ?_
 ·intro w' hw'
  go_simp
 try simp only[Act.put,qj,qz,qv]
 refine wpAnyH_take (i:=1) (oi:={dst:=some 8,op:=_,type:=_,pos:=_,after:=_,guard:=_}) (v:= .pointer (some ⟨g,0,none⟩)) rfl (by kernel_rfl) (by kernel_rfl) (by kernel_rfl) (fun _ _ _ h=>h) (Or.inl ⟨by rfl,?_⟩) hS ?_
 ·intro w' hw'
  go_simp
 try simp only[Act.put,qj,qz,qv]
 refine wpAnyH_take (i:=2) (oi:={dst:=some 9,op:=_,type:=_,pos:=_,after:=_,guard:=_}) (v:= .pointer (some ⟨g,3,none⟩)) rfl (by kernel_rfl) (by kernel_rfl) (by kernel_rfl) (fun _ _ _ h=>h) (Or.inl ⟨by rfl,?_⟩) hS ?_
 ·intro w' hw'
  go_simp
 try simp only[Act.put,qj,qz,qv]
 refine wpAnyH_take (i:=3) (oi:={dst:=some 10,op:=_,type:=_,pos:=_,after:=_,guard:=_}) (v:= .agg (link.map b8).toArray) rfl (by kernel_rfl) (by kernel_rfl) (by kernel_rfl) (fun _ _ _ h=>h) (yieldsIf_load_mid (by rfl) 29 (.tmp 9) rfl g 3 rfl (link.map b8) _ (fun _ h=>h.1) hu rfl hi32) hS ?_
 try simp only[Act.put,qj,qz,qv]
 refine wpAnyH_take (i:=4) (oi:={dst:=some 11,op:=_,type:=_,pos:=_,after:=_,guard:=_}) (v:= .pointer (some ⟨g,0,none⟩)) rfl (by kernel_rfl) (by kernel_rfl) (by kernel_rfl) (fun _ _ _ h=>h) (Or.inl ⟨by rfl,?_⟩) hS ?_
 ·intro w' hw'
  go_simp
 try simp only[Act.put,qj,qz,qv]
 refine wpAnyH_take (i:=5) (oi:={dst:=some 12,op:=_,type:=_,pos:=_,after:=_,guard:=_}) (v:= .pointer (some ⟨g,0,none⟩)) rfl (by kernel_rfl) (by kernel_rfl) (by kernel_rfl) (fun _ _ _ h=>h) (Or.inl ⟨by rfl,?_⟩) hS ?_
 ·intro w' hw'
  go_simp
 try simp only[Act.put,qj,qz,qv]
 refine wpAnyH_take (i:=6) (oi:={dst:=some 13,op:=_,type:=_,pos:=_,after:=_,guard:=_}) (v:= .pointer (some ⟨g,35,none⟩)) rfl (by kernel_rfl) (by kernel_rfl) (by kernel_rfl) (fun _ _ _ h=>h) (Or.inl ⟨by rfl,?_⟩) hS ?_
 ·intro w' hw'
  go_simp
 try simp only[Act.put,qj,qz,qv]
 refine wpAnyH_take (i:=7) (oi:={dst:=some 14,op:=_,type:=_,pos:=_,after:=_,guard:=_}) (v:= .int .i64 place) rfl (by kernel_rfl) (by kernel_rfl) (by kernel_rfl) (fun _ _ _ h=>h) (Or.inl ⟨by rfl,?_⟩) hS ?_
 ·intro w' hw'
  obtain⟨s0,s1⟩:=hw'
  go_simp
 try simp only[Act.put,qj,qz,qv]
 refine wpAnyH_ready (rs:=[8,12]) (by kernel_rfl) (by simp) (AllReadyH.cons (o:={dst:=some 15,op:=_,type:=_,pos:=_,after:=_,guard:=_}) rfl (fun K' hK=>?_) (AllReadyH.cons (o:={dst:=some 4,op:=_,type:=_,pos:=_,after:=_,guard:=_}) rfl (fun K' hK=>?_) AllReadyH.nil))
 ·
  go_simp
  go_at_call 68
  refine(HOnce.out _).mono ?_
  rintro e w2 ⟨b,rfl,hb1,ho,hb2⟩
  have HB2:=qq (HB1.out.drew.below hb2 (by simp;omega))
  have HO2:=qq ho
  have HQ2:=qq (show Below w1.heap.size w1 w2 from(Below.refl _ w1).drew.trans (hb2.mono (by simp)))
  have hbz:w1.heap.size≤b:=by simp at hb1;omega
  have hzb:b<w2.heap.size:=ho.lt
  clear hb1 ho hb2
  refine hK.out _ _ (HKeep.out _ HB2.out) (fun hS=>?_)
  clear hK K'
  try simp only[Act.put,qj,qz,qv]
  refine wpAnyH_take (i:=9) (oi:={dst:=some 6,op:=_,type:=_,pos:=_,after:=_,guard:=_}) (v:= .tuple #[(.agg (onceC place Kk (nonceS b)).toArray),.nilIface]) rfl (by kernel_rfl) (by kernel_rfl) (by kernel_rfl) (fun _ _ _ h=>h) (Or.inl ⟨by rfl,?_⟩) hS ?_
  ·intro w' hw'
   go_simp
  try simp only[Act.put,qj,qz,qv]
  refine wpAnyH_take (i:=10) (oi:={dst:=some 16,op:=_,type:=_,pos:=_,after:=_,guard:=_}) (v:=(.agg (onceC place Kk (nonceS b)).toArray)) rfl (by kernel_rfl) (by kernel_rfl) (by kernel_rfl) (fun _ _ _ h=>h) (Or.inl ⟨by rfl,?_⟩) hS ?_
  ·intro w' hw'
   go_simp
  try simp only[Act.put,qj,qz,qv]
  refine wpAnyH_take (i:=11) (oi:={dst:=some 17,op:=_,type:=_,pos:=_,after:=_,guard:=_}) (v:= .nilIface) rfl (by kernel_rfl) (by kernel_rfl) (by kernel_rfl) (fun _ _ _ h=>h) (Or.inl ⟨by rfl,?_⟩) hS ?_
  ·intro w' hw'
   go_simp
  try simp only[Act.put,qj,qz,qv]
  refine wpAnyH_ready (rs:=[12]) (by kernel_rfl) (by simp) (AllReadyH.cons (o:={dst:=some 4,op:=_,type:=_,pos:=_,after:=_,guard:=_}) rfl (fun K' hK=>?_) AllReadyH.nil)
  go_simp
  have hz2:=HQ2.out.size
  refine hK.out _ _ (HKeep.out _ (HB2.out.alloc _)) (fun hS=>?_)
  clear hK K'
  try simp only[Act.put,qj,qz,qv]
  refine wpAnyH_ready (rs:=[13]) (by kernel_rfl) (by simp) (AllReadyH.cons (o:={dst:=none,op:=_,type:=_,pos:=_,after:=_,guard:=_}) rfl (fun K' hK=>?_) AllReadyH.nil)
  rw[if_pos (by rfl)]
  refine wp_store_piece 56 (.tmp 4) (.tmp 16) rfl w2.heap.size 0 rfl (onceC place Kk (nonceS b)) rfl _ _ [] zeroOnce [] (Blk.new w2 56 zeroOnce) (by simp) rfl (by rw[onceC_len _ _ _ HKl.out];rfl) (by rw[sizeOnce,onceC_len _ _ _ HKl.out]) (onceC_one _ _ _ _ _) ?_
  intro w5 hx5 hg5
  obtain⟨a,ha⟩:∃a,a=w2.heap.size:=⟨_,rfl⟩
  rw[←ha]at hx5 hg5
  have HX5:=qq (show Blk w5 a 56 (onceC place Kk (nonceS b))from hx5.cast (by simp))
  have hag:w1.heap.size≤a:=by rw[ha];omega
  have HB5:=qq ((HB2.out.alloc _).grown hg5 (fun e=>by injection e with e;omega))
  have HO5:=qq ((HO2.out.alloc _).grown hg5 (fun e=>by injection e with e;omega))
  have HQ5:=qq ((HQ2.out.alloc hz2 _).grown hg5 ((HQ2.out.alloc hz2 _).size) (fun k e=>by cases e;omega))
  have HZ5:=qq (HZ1.out.below HQ5.out (by omega))
  clear hx5 hg5
  refine hK.out _ _ (HKeep.out _ HB5.out) (fun hS=>?_)
  clear hK K'
  try simp only[Act.put,qj,qz,qv]
  refine wpAnyH_ready (rs:=[14]) (by kernel_rfl) (by simp) (AllReadyH.cons (o:={dst:=some 5,op:=_,type:=_,pos:=_,after:=_,guard:=_}) rfl (fun K' hK=>?_) AllReadyH.nil)
  go_simp
  refine hK.out _ _ (HKeep.out _ HB5.out) (fun hS=>?_)
  clear hK K'
  try simp only[Act.put,qj,qz,qv]
  refine wpAnyH_done (by kernel_rfl) ?_ _
  refine NoPanic.normal ?_
  simp only[←ha]
  clear ha
  have hk5:=HKeep.out _ HB5.out
  go_wp2_with (refine wpList_load_mid rfl 29 (.tmp 21) rfl g 3 rfl (link.map b8) _ hk5.1 Tryd.underlying29 rfl hi32 ?_)
  refine(HNext.out w5).mono ?_
  rintro e w6 ⟨rfl,hb6⟩
  have hz5:=HQ5.out.size
  have ha5:=HX5.out.lt
  have hb5:=HO5.out.lt
  have HB6:=qq (HB5.out.below hb6 (by omega))
  have HX6:=qq (HX5.out.below hb6 ha5)
  have HO6:=qq (HO5.out.below hb6 hb5)
  have HZ6:=qq (HZ5.out.below hb6 (by omega))
  have HG6:=qq (show w.grownBy w6 (some g)from below_grown (below_grown (below_grown (World.grownBy.refl w (some g)) HG1.out) HQ5.out) hb6)
  have hz6:=hb6.size
  clear hb6 HB5 HX5 HO5 HZ5 hk5
  go_upto_region 3 with(refine wpList_store_piece rfl 29 (.tmp 25) (.tmp 23) rfl g 3 rfl (N.map b8) rfl _ _ [.bool t,.int .i64 h,.int .u64 (bv s)] (link.map b8) [.int .i64 place,m] HB6.out lineC_eq rfl (by rw[List.length_map,List.length_map,HS.out,HNl.out]) (by rw[List.length_map,HNl.out];exact size32) (fun u hu=>by obtain⟨x,-,rfl⟩:=List.mem_map.1 hu;exact b8_one x) ?_;intro w7 hx7 hg7;have HB7:=qq (show Blk w7 g 77 (lineC t h s N place m)from hx7);have HX7:=qq (HX6.out.grown hg7 (fun e=>by injection e with e;omega));have HO7:=qq (HO6.out.grown hg7 (fun e=>by injection e with e;omega));have HZ7:=qq (HZ6.out.grown hg7 (fun e=>by injection e with e;omega));have HG7:=qq (grownBy_trans HG6.out hg7 (fun _ e=> .inl e));have hz7:=hg7.size;clear hx7 hg7)
  have c35:=HB7.out.cell 35 (lineC_35 HNl.out)
  have f35:=HB7.out.frozen 35
  have hpw:IntKind.i64.wrap (place+1)=place+1:=IntWalk.i64_in _ (by omega)
  have HB8:=qq ((HB7.out.set_ 35 (.int .i64 (place+1))).cast (lineC_set35 HNl.out _))
  have hg8:=grownBy_set w7 g 35 (.int .i64 (place+1))
  have HX8:=qq (HX7.out.grown hg8 (fun e=>by injection e with e;omega))
  have HO8:=qq (HO7.out.grown hg8 (fun e=>by injection e with e;omega))
  have HZ8:=qq (HZ7.out.grown hg8 (fun e=>by injection e with e;omega))
  have HG8:=qq (grownBy_trans HG7.out hg8 (fun _ e=> .inl e))
  have hz8:=hg8.size
  clear hg8
  go_upto_region 4 with fail
  refine wp_region_lit ?_
  refine wpList_load_mid rfl 56 (.tmp 4) rfl a 0 rfl (onceC place Kk (nonceS b)) _ HX8.out.whole Tryd.underlying56 rfl (by rw[sizeOnce,onceC_len _ _ _ HKl.out]) ?_
  go_wp2_with (refine wpList_store_piece rfl 56 (.tmp 2) (.tmp 33) rfl w.heap.size 0 rfl (onceC place Kk (nonceS b)) rfl _ _ [] zeroOnce [] HZ8.out (by simp) rfl (by rw[onceC_len _ _ _ HKl.out];rfl) (by rw[sizeOnce,onceC_len _ _ _ HKl.out]) (onceC_one _ _ _ _ _) ?_;intro w9 hx9 hg9)
  have HX9:=qq (show Blk w9 w.heap.size 56 (onceC place Kk (nonceS b))from hx9.cast (by simp))
  have HB9:=qq (HB8.out.grown hg9 (fun e=>by injection e with e;omega))
  have HO9:=qq (HO8.out.grown hg9 (fun e=>by injection e with e;omega))
  refine bodyPost_ret (v:= .tuple #[.agg (onceC place Kk (nonceS b)).toArray,.nilIface]) (results_blk_tmp (g:=w.heap.size) rfl _ _ _ _ _ _ rfl rfl HX9.out Tryd.underlying56 rfl (by rw[sizeOnce,onceC_len _ _ _ HKl.out])) rfl ?_
  have hg:=HG8.out
  exact⟨b,rfl,by omega,HO9.out,HB9.out,⟨hg9.os.trans hg.os,hg9.tape.trans hg.tape,hg9.output.trans hg.output,Nat.le_trans hg.size hg9.size,fun k hk hne=>(hg9.block k (Nat.lt_of_lt_of_le hk hg.size) (fun e=>by injection e with e;omega)).trans (hg.block k hk hne)⟩⟩
 ·
  go_simp
  refine hK.out _ _ (HKeep.out _ (HB1.out.drew.alloc _)) (fun hS=>?_)
  clear hK K'
  try simp only[Act.put,qj,qz,qv]
  refine wpAnyH_ready (rs:=[8]) (by kernel_rfl) (by simp) (AllReadyH.cons (o:={dst:=some 15,op:=_,type:=_,pos:=_,after:=_,guard:=_}) rfl (fun K' hK=>?_) AllReadyH.nil)
  go_simp
  go_at_call 68
  refine(HOnce.out _).mono ?_
  rintro e w2 ⟨b,rfl,hb1,ho,hb2⟩
  have HB2:=qq ((HB1.out.drew.alloc _).below hb2 (by simp;omega))
  have HO2:=qq ho
  have HQ2:=qq (show Below w1.heap.size w1 w2 from((Below.refl _ w1).drew.alloc (Nat.le_refl _) _).trans (hb2.mono (by simp)))
  have hbz:w1.heap.size≤b:=by simp at hb1;omega
  have HZ2:=qq (show Blk w2 (w.heap.size+1) 56 zeroOnce by rw[←hz1];exact(Blk.new w1.drew 56 zeroOnce).below hb2 (by simp))
  have hbz2:w1.heap.size+1≤b:=by simp at hb1;omega
  have hzb:b<w2.heap.size:=ho.lt
  have hz2:=HQ2.out.size
  clear hb1 ho hb2
  refine hK.out _ _ (HKeep.out _ HB2.out) (fun hS=>?_)
  clear hK K'
  try simp only[Act.put,qj,qz,qv]
  refine wpAnyH_take (i:=9) (oi:={dst:=some 6,op:=_,type:=_,pos:=_,after:=_,guard:=_}) (v:= .tuple #[(.agg (onceC place Kk (nonceS b)).toArray),.nilIface]) rfl (by kernel_rfl) (by kernel_rfl) (by kernel_rfl) (fun _ _ _ h=>h) (Or.inl ⟨by rfl,?_⟩) hS ?_
  ·intro w' hw'
   go_simp
  try simp only[Act.put,qj,qz,qv]
  refine wpAnyH_take (i:=10) (oi:={dst:=some 16,op:=_,type:=_,pos:=_,after:=_,guard:=_}) (v:=(.agg (onceC place Kk (nonceS b)).toArray)) rfl (by kernel_rfl) (by kernel_rfl) (by kernel_rfl) (fun _ _ _ h=>h) (Or.inl ⟨by rfl,?_⟩) hS ?_
  ·intro w' hw'
   go_simp
  try simp only[Act.put,qj,qz,qv]
  refine wpAnyH_take (i:=11) (oi:={dst:=some 17,op:=_,type:=_,pos:=_,after:=_,guard:=_}) (v:= .nilIface) rfl (by kernel_rfl) (by kernel_rfl) (by kernel_rfl) (fun _ _ _ h=>h) (Or.inl ⟨by rfl,?_⟩) hS ?_
  ·intro w' hw'
   go_simp
  try simp only[Act.put,qj,qz,qv]
  refine wpAnyH_ready (rs:=[13]) (by kernel_rfl) (by simp) (AllReadyH.cons (o:={dst:=none,op:=_,type:=_,pos:=_,after:=_,guard:=_}) rfl (fun K' hK=>?_) AllReadyH.nil)
  rw[if_pos (by rfl)]
  refine wp_store_piece 56 (.tmp 4) (.tmp 16) rfl (w.heap.size+1) 0 rfl (onceC place Kk (nonceS b)) rfl _ _ [] zeroOnce [] HZ2.out (by simp) rfl (by rw[onceC_len _ _ _ HKl.out];rfl) (by rw[sizeOnce,onceC_len _ _ _ HKl.out]) (onceC_one _ _ _ _ _) ?_
  intro w5 hx5 hg5
  obtain⟨a,ha⟩:∃a,a=(w.heap.size+1):=⟨_,rfl⟩
  rw[←ha]at hx5 hg5
  have HX5:=qq (show Blk w5 a 56 (onceC place Kk (nonceS b))from hx5.cast (by simp))
  have hag:w1.heap.size≤a:=by rw[ha];omega
  have HB5:=qq (HB2.out.grown hg5 (fun e=>by injection e with e;omega))
  have HO5:=qq (HO2.out.grown hg5 (fun e=>by injection e with e;omega))
  have HQ5:=qq (HQ2.out.grown hg5 (HQ2.out.size) (fun k e=>by cases e;omega))
  have HZ5:=qq (HZ1.out.below HQ5.out (by omega))
  clear hx5 hg5
  refine hK.out _ _ (HKeep.out _ HB5.out) (fun hS=>?_)
  clear hK K'
  try simp only[Act.put,qj,qz,qv]
  refine wpAnyH_ready (rs:=[14]) (by kernel_rfl) (by simp) (AllReadyH.cons (o:={dst:=some 5,op:=_,type:=_,pos:=_,after:=_,guard:=_}) rfl (fun K' hK=>?_) AllReadyH.nil)
  go_simp
  refine hK.out _ _ (HKeep.out _ HB5.out) (fun hS=>?_)
  clear hK K'
  try simp only[Act.put,qj,qz,qv]
  refine wpAnyH_done (by kernel_rfl) ?_ _
  refine NoPanic.normal ?_
  simp only[←ha]
  clear ha
  have hk5:=HKeep.out _ HB5.out
  go_wp2_with (refine wpList_load_mid rfl 29 (.tmp 21) rfl g 3 rfl (link.map b8) _ hk5.1 Tryd.underlying29 rfl hi32 ?_)
  refine(HNext.out w5).mono ?_
  rintro e w6 ⟨rfl,hb6⟩
  have hz5:=HQ5.out.size
  have ha5:=HX5.out.lt
  have hb5:=HO5.out.lt
  have HB6:=qq (HB5.out.below hb6 (by omega))
  have HX6:=qq (HX5.out.below hb6 ha5)
  have HO6:=qq (HO5.out.below hb6 hb5)
  have HZ6:=qq (HZ5.out.below hb6 (by omega))
  have HG6:=qq (show w.grownBy w6 (some g)from below_grown (below_grown (below_grown (World.grownBy.refl w (some g)) HG1.out) HQ5.out) hb6)
  have hz6:=hb6.size
  clear hb6 HB5 HX5 HO5 HZ5 hk5
  go_upto_region 3 with(refine wpList_store_piece rfl 29 (.tmp 25) (.tmp 23) rfl g 3 rfl (N.map b8) rfl _ _ [.bool t,.int .i64 h,.int .u64 (bv s)] (link.map b8) [.int .i64 place,m] HB6.out lineC_eq rfl (by rw[List.length_map,List.length_map,HS.out,HNl.out]) (by rw[List.length_map,HNl.out];exact size32) (fun u hu=>by obtain⟨x,-,rfl⟩:=List.mem_map.1 hu;exact b8_one x) ?_;intro w7 hx7 hg7;have HB7:=qq (show Blk w7 g 77 (lineC t h s N place m)from hx7);have HX7:=qq (HX6.out.grown hg7 (fun e=>by injection e with e;omega));have HO7:=qq (HO6.out.grown hg7 (fun e=>by injection e with e;omega));have HZ7:=qq (HZ6.out.grown hg7 (fun e=>by injection e with e;omega));have HG7:=qq (grownBy_trans HG6.out hg7 (fun _ e=> .inl e));have hz7:=hg7.size;clear hx7 hg7)
  have c35:=HB7.out.cell 35 (lineC_35 HNl.out)
  have f35:=HB7.out.frozen 35
  have hpw:IntKind.i64.wrap (place+1)=place+1:=IntWalk.i64_in _ (by omega)
  have HB8:=qq ((HB7.out.set_ 35 (.int .i64 (place+1))).cast (lineC_set35 HNl.out _))
  have hg8:=grownBy_set w7 g 35 (.int .i64 (place+1))
  have HX8:=qq (HX7.out.grown hg8 (fun e=>by injection e with e;omega))
  have HO8:=qq (HO7.out.grown hg8 (fun e=>by injection e with e;omega))
  have HZ8:=qq (HZ7.out.grown hg8 (fun e=>by injection e with e;omega))
  have HG8:=qq (grownBy_trans HG7.out hg8 (fun _ e=> .inl e))
  have hz8:=hg8.size
  clear hg8
  go_upto_region 4 with fail
  refine wp_region_lit ?_
  refine wpList_load_mid rfl 56 (.tmp 4) rfl a 0 rfl (onceC place Kk (nonceS b)) _ HX8.out.whole Tryd.underlying56 rfl (by rw[sizeOnce,onceC_len _ _ _ HKl.out]) ?_
  go_wp2_with (refine wpList_store_piece rfl 56 (.tmp 2) (.tmp 33) rfl w.heap.size 0 rfl (onceC place Kk (nonceS b)) rfl _ _ [] zeroOnce [] HZ8.out (by simp) rfl (by rw[onceC_len _ _ _ HKl.out];rfl) (by rw[sizeOnce,onceC_len _ _ _ HKl.out]) (onceC_one _ _ _ _ _) ?_;intro w9 hx9 hg9)
  have HX9:=qq (show Blk w9 w.heap.size 56 (onceC place Kk (nonceS b))from hx9.cast (by simp))
  have HB9:=qq (HB8.out.grown hg9 (fun e=>by injection e with e;omega))
  have HO9:=qq (HO8.out.grown hg9 (fun e=>by injection e with e;omega))
  refine bodyPost_ret (v:= .tuple #[.agg (onceC place Kk (nonceS b)).toArray,.nilIface]) (results_blk_tmp (g:=w.heap.size) rfl _ _ _ _ _ _ rfl rfl HX9.out Tryd.underlying56 rfl (by rw[sizeOnce,onceC_len _ _ _ HKl.out])) rfl ?_
  have hg:=HG8.out
  exact⟨b,rfl,by omega,HO9.out,HB9.out,⟨hg9.os.trans hg.os,hg9.tape.trans hg.tape,hg9.output.trans hg.output,Nat.le_trans hg.size hg9.size,fun k hk hne=>(hg9.block k (Nat.lt_of_lt_of_le hk hg.size) (fun e=>by injection e with e;omega)).trans (hg.block k hk hne)⟩⟩
end Go.Proofs.YtelgjaiknaalkaaDoor
