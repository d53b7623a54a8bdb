/- Lemmas, joined and made smaller by a program. -/
import Derived.Test.YtelgjaiknaalkaaDoorPo12
import Derived.Test.YtelgjaiknaalkaaDoorPo13
open Go.Lib renaming hid → qq
open List renaming setIfInBounds_toArray → qj
open List renaming set_cons_zero → qz
open List renaming set_cons_succ → qv
set_option linter.unusedVariables false
set_option linter.unusedSimpArgs false
namespace Go.Proofs.YtelgjaiknaalkaaDoor
open Go.RowKit
theorem zeroOnce_len:zeroOnce.length=34:=rfl
theorem anyE_zero:anyE (.agg zeroOnce.toArray)=some (.held (.agg zeroOnce.toArray),[]):=anyE_mk (onceB_mk rfl (onceC_one _ _ _ _ _))
theorem arr_grown_line{w w':World}{g b:Nat}{xs:List (BitVec 8)}{T:TypeId}{cs:List Value}(x:Arr b8 w b 5 xs)(hg:Blk w g T cs)(hT:T≠5)(hb:w.grownBy w' (some g)):Arr b8 w' b 5 xs:=
 x.grown hb (fun e=>by
  injection e with e;subst e
  have h1:w.heap[b]?=some (.cells (xs.map b8).toArray 5 (0,0)):=x
  have h2:w.heap[b]?=some (.cells cs.toArray T (0,0)):=hg
  rw[h1]at h2;cases h2;exact hT rfl)
theorem arr_grown_map{w w':World}{gm b:Nat}{xs:List (BitVec 8)}{l:List (Int×Value)}(x:Arr b8 w b 5 xs)(hm:MapO w gm l)(hb:w.grownBy w' (some gm)):Arr b8 w' b 5 xs:=
 x.grown hb (fun e=>by injection e with e;exact hm.not_cells x e.symm)
set_option maxRecDepth 100000 in
set_option maxHeartbeats 2000000 in
theorem take_refused(w:World)(g gm:Nat)(hp:List (OnceM×Nat))(l:LineM)(M:List Int)(t:Bool)(h:Int)(s:BitVec 64)(n:Int)(hB:Blk w g 77 (lineC t h s l.link l.place (.map (some gm))))(hH:HeldAt w gm hp)
 (hok:LOK l)(hM:Marks M t h s l)(hc:winCheck t h s n≠0):
 Calls Tryd.prog 36 #[.pointer (some ⟨g,0,none⟩),.int .i64 n] w fun e w'=>e= .returned (.tuple #[.agg zeroOnce.toArray,errV (takeE l n)])∧Below w.heap.size w w':=by
 rw[hM.refuse hok hc]
 have Hne:=qq (errV_pos hc)
 generalize hcc:winCheck t h s n=c at Hne hc ⊢
 have HCc:=qq hcc
 clear hcc
 have HH:=qq hH
 have HS:=qq hok.len
 have HPl:=qq hok
 obtain⟨w2,hw2⟩:∃w2,w2=(w.alloc (.cells #[.pointer (some ⟨g,0,none⟩)] 70)).alloc (.cells zeroOnce.toArray 56):=⟨_,rfl⟩
 have HX2:=qq (show Boxed w2 w.heap.size 70 (.pointer (some ⟨g,0,none⟩)) by rw[hw2];exact(Boxed.new w _ _).alloc _)
 have HZ2:=qq (show Blk w2 (w.heap.size+1) 56 zeroOnce by rw[hw2];exact Blk.at_size _ _ (by simp))
 have HB2:=qq (show Blk w2 g 77 (lineC t h s l.link l.place (.map (some gm))) by rw[hw2];exact(hB.alloc _).alloc _)
 have HH2:=qq (show HeldAt w2 gm hp by rw[hw2];exact(hH.alloc _).alloc _)
 have HK2:=qq (show Below w.heap.size w w2 by rw[hw2];exact((Below.refl _ w).alloc (Nat.le_refl _) _).alloc (by simp) _)
 have hgl:=hB.lt
 have hml:=hH.map.lt
 have hz2:w2.heap.size=w.heap.size+2:=by rw[hw2];simp
 have HW2:=qq hw2
 have HC:=qq (wcheckO g 0 77 _ t h s n w2 (WinO.of_line HB2.out) hM.bound)
 clear hw2 hB hH hok hM
 go_enter Tryd.func36,Tryd.ntmps36
 go_upto_region 1 with fail
 have hw2:=HW2.out
 simp only[show zeroOnce.toArray= #[Value.int .i64 0,Value.int .u8 0,Value.int .u8 0,Value.int .u8 0,Value.int .u8 0,Value.int .u8 0,Value.int .u8 0,Value.int .u8 0,Value.int .u8 0,Value.int .u8 0,Value.int .u8 0,Value.int .u8 0,Value.int .u8 0,Value.int .u8 0,Value.int .u8 0,Value.int .u8 0,Value.int .u8 0,Value.int .u8 0,Value.int .u8 0,Value.int .u8 0,Value.int .u8 0,Value.int .u8 0,Value.int .u8 0,Value.int .u8 0,Value.int .u8 0,Value.int .u8 0,Value.int .u8 0,Value.int .u8 0,Value.int .u8 0,Value.int .u8 0,Value.int .u8 0,Value.int .u8 0,Value.int .u8 0,Value.slice none 0 0]from rfl]at hw2
 rw[←hw2]
 clear hw2
 have cb:=HX2.out.cell
 go_wp2_with fail
 refine HC.out.mono ?_
 rintro e w3 ⟨rfl,rfl⟩
 rw[HCc.out,Hne.out]
 go_upto_region 3 with fail
 refine wp_region_lit ?_
 refine wpList_bparts rfl 56 [] rfl zeroOnce.toArray [] rfl built_zeroOnce ?_
 go_wp2_with (refine wpList_store_piece rfl 56 (.tmp 4) (.tmp 21) rfl (w.heap.size+1) 0 rfl zeroOnce rfl 56 _ [] zeroOnce [] HZ2.out (by simp) rfl rfl sizeOnce (onceC_one _ _ _ _ _) ?_;intro w9 hx9 hg9)
 have HX9:=qq (show Blk w9 (w.heap.size+1) 56 zeroOnce from hx9.cast (by simp))
 refine bodyPost_ret (v:= .tuple #[.agg zeroOnce.toArray,errV c]) (results_blk_tmp (g:=w.heap.size+1) rfl _ _ _ _ _ _ rfl (by first|rfl|exact Hne.out.symm) HX9.out Tryd.underlying56 rfl sizeOnce) rfl ?_
 exact⟨rfl,HK2.out.grown hg9 HK2.out.size (fun k e=>by cases e;omega)⟩
set_option maxRecDepth 100000 in
set_option maxHeartbeats 2000000 in
theorem take_low(w:World)(g gm:Nat)(hp:List (OnceM×Nat))(l:LineM)(M:List Int)(t:Bool)(h:Int)(s:BitVec 64)(n:Int)(hB:Blk w g 77 (lineC t h s l.link l.place (.map (some gm))))(hH:HeldAt w gm hp)
 (hf:hp.map Prod.fst=l.held)(hok:LOK l)(hM:Marks M t h s l)(hc:winCheck t h s n=0)(hno:∀p∈hp,p.1.no≠n)(hlo:n<l.place):
 Calls Tryd.prog 36 #[.pointer (some ⟨g,0,none⟩),.int .i64 n] w fun e w'=>e= .returned (.tuple #[.agg zeroOnce.toArray,errV (takeE l n)])∧Below w.heap.size w w':=by
 rw[hM.passed hok hc (fun o ho=>by rw[←hf]at ho;obtain⟨p,hp',rfl⟩:=List.mem_map.1 ho;exact hno p hp') hlo]
 obtain⟨n0,n1,-,-,-⟩:=hM.pass hc
 have HNo:=qq (none_held hno)
 have HNd:=qq (show∀zd,(mapD (mapL hp)).atKey (.int .i64 n) zd=zd from mapD_none _ _ (fun q hq=>by obtain⟨p,hp',rfl⟩:=List.mem_map.1 hq;exact hno p hp'))
 have HCc:=qq hc
 clear hc hf hno
 have HH:=qq hH
 have HS:=qq hok.len
 have HPl:=qq hok
 obtain⟨w2,hw2⟩:∃w2,w2=(w.alloc (.cells #[.pointer (some ⟨g,0,none⟩)] 70)).alloc (.cells zeroOnce.toArray 56):=⟨_,rfl⟩
 have HX2:=qq (show Boxed w2 w.heap.size 70 (.pointer (some ⟨g,0,none⟩)) by rw[hw2];exact(Boxed.new w _ _).alloc _)
 have HZ2:=qq (show Blk w2 (w.heap.size+1) 56 zeroOnce by rw[hw2];exact Blk.at_size _ _ (by simp))
 have HB2:=qq (show Blk w2 g 77 (lineC t h s l.link l.place (.map (some gm))) by rw[hw2];exact(hB.alloc _).alloc _)
 have HH2:=qq (show HeldAt w2 gm hp by rw[hw2];exact(hH.alloc _).alloc _)
 have HK2:=qq (show Below w.heap.size w w2 by rw[hw2];exact((Below.refl _ w).alloc (Nat.le_refl _) _).alloc (by simp) _)
 have hgl:=hB.lt
 have hml:=hH.map.lt
 have hz2:w2.heap.size=w.heap.size+2:=by rw[hw2];simp
 have HW2:=qq hw2
 have HC:=qq (wcheckO g 0 77 _ t h s n w2 (WinO.of_line HB2.out) hM.bound)
 clear hw2 hB hH hok hM
 go_enter Tryd.func36,Tryd.ntmps36
 go_upto_region 1 with fail
 have hw2:=HW2.out
 simp only[show zeroOnce.toArray= #[Value.int .i64 0,Value.int .u8 0,Value.int .u8 0,Value.int .u8 0,Value.int .u8 0,Value.int .u8 0,Value.int .u8 0,Value.int .u8 0,Value.int .u8 0,Value.int .u8 0,Value.int .u8 0,Value.int .u8 0,Value.int .u8 0,Value.int .u8 0,Value.int .u8 0,Value.int .u8 0,Value.int .u8 0,Value.int .u8 0,Value.int .u8 0,Value.int .u8 0,Value.int .u8 0,Value.int .u8 0,Value.int .u8 0,Value.int .u8 0,Value.int .u8 0,Value.int .u8 0,Value.int .u8 0,Value.int .u8 0,Value.int .u8 0,Value.int .u8 0,Value.int .u8 0,Value.int .u8 0,Value.int .u8 0,Value.slice none 0 0]from rfl]at hw2
 rw[←hw2]
 clear hw2
 have cb:=HX2.out.cell
 go_wp2_with fail
 refine HC.out.mono ?_
 rintro e w3 ⟨rfl,rfl⟩
 rw[HCc.out,errV_zero]
 have hlk:(zeroValue 56).run Tryd.prog w2= .ok (.agg zeroOnce.toArray) w2:=by kernel_rfl
 have c36:=HB2.out.cell 36 (lineC_36 HS.out)
 have hkey:=keyI (a:=n) (by omega) (by omega)
 have HZn:=qq (show Blk (w2.alloc (.cells zeroOnce.toArray 56)) (w.heap.size+2) 56 zeroOnce by rw[←hz2];exact Blk.new _ _ _)
 go_upto_region 4 with fail
 go_upto_region 5 with(first
  |(at_lookup;(refine wpList_lookup_own_ok _ rfl _ _ 75 rfl 3 56 intKey Tryd.underlying75 anyE hlk (.held (.agg zeroOnce.toArray)) [] anyE_zero gm _ _ rfl HH2.out.map _ _ rfl hkey ?_;intro v ps hv;obtain⟨-,hvy⟩:=anyE_inv hv;injection hvy with hv1 hv2;rw[HNd.out]at hv1;injection hv1 with hv1;subst hv1;rw[mapD_has,HNo.out];clear hv hv2))
  |(refine wpList_store_piece rfl 56 (.tmp 7) (.tmp 30) rfl (w.heap.size+2) 0 rfl (zeroOnce) rfl 56 _ [] zeroOnce [] HZn.out (by simp) rfl (by have h34:=zeroOnce_len;first|(rw[h34];done)|(rw[h34];rfl)) (by rw[sizeOnce,zeroOnce_len]) ((onceC_one _ _ _ _ _)) ?_;intro w4 hx4 hg4))
 have HX4:=qq (show Blk w4 (w.heap.size+2) 56 (zeroOnce)from hx4.cast (by simp))
 have HK4:=qq (show Below w2.heap.size w2 w4 from((Below.refl _ w2).alloc (Nat.le_refl _) _).grown hg4 (by simp) (fun k e=>by cases e;omega))
 have hz4:w2.heap.size+1≤w4.heap.size:=by have:=hg4.size;simpa using this
 have HB4:=qq (HB2.out.below HK4.out (by omega))
 have HH4:=qq (HH2.out.below HK4.out (by omega) (fun p hp'=>(HH2.out.mem p hp').lt))
 have HB0:Hid (Boxed w4 w.heap.size 70 (.pointer (some ⟨g,0,none⟩))):=qq ((HK4.out.block _ (by omega)).trans HX2.out)
 have HZ4:=qq (HZ2.out.below HK4.out (by omega))
 have HK04:=qq (HK2.out.trans (HK4.out.mono (by omega)))
 clear hx4 hg4 c36 cb
 have cb:=HB0.out.cell
 have c35:=HB4.out.cell 35 (lineC_35 HS.out)
 have hd:decide (n<l.place)=true:=by simp[hlo]
 go_upto_region 9 with fail
 refine wp_region_lit ?_
 refine wpList_bparts rfl 56 [] rfl zeroOnce.toArray [] rfl built_zeroOnce ?_
 go_wp2_with (refine wpList_store_piece rfl 56 (.tmp 4) (.tmp 51) rfl (w.heap.size+1) 0 rfl zeroOnce rfl 56 _ [] zeroOnce [] HZ4.out (by simp) rfl rfl sizeOnce (onceC_one _ _ _ _ _) ?_;intro w9 hx9 hg9)
 have HX9:=qq (show Blk w9 (w.heap.size+1) 56 zeroOnce from hx9.cast (by simp))
 refine bodyPost_ret (v:= .tuple #[.agg zeroOnce.toArray,errV 7]) (results_blk_tmp (g:=w.heap.size+1) rfl _ _ _ _ _ _ rfl (by first|rfl|exact Hne.out.symm) HX9.out Tryd.underlying56 rfl sizeOnce) rfl ?_
 exact⟨rfl,HK04.out.grown hg9 HK04.out.size (fun k e=>by cases e;omega)⟩
set_option maxRecDepth 100000 in
set_option maxHeartbeats 2000000 in
theorem take_far(w:World)(g gm:Nat)(hp:List (OnceM×Nat))(l:LineM)(M:List Int)(t:Bool)(h:Int)(s:BitVec 64)(n:Int)(hB:Blk w g 77 (lineC t h s l.link l.place (.map (some gm))))(hH:HeldAt w gm hp)
 (hf:hp.map Prod.fst=l.held)(hok:LOK l)(hM:Marks M t h s l)(hc:winCheck t h s n=0)(hno:∀p∈hp,p.1.no≠n)(hlo:l.place≤n)(hfar:256<n-l.place):
 Calls Tryd.prog 36 #[.pointer (some ⟨g,0,none⟩),.int .i64 n] w fun e w'=>e= .returned (.tuple #[.agg zeroOnce.toArray,errV (takeE l n)])∧Below w.heap.size w w':=by
 rw[hM.beyond hok hc hlo,if_pos hfar]
 obtain⟨n0,n1,-,-,-⟩:=hM.pass hc
 have hp0:=hok.low0
 have hp1:=hok.lowp
 have hp2:=hok.top
 have HNo:=qq (none_held hno)
 have HNd:=qq (show∀zd,(mapD (mapL hp)).atKey (.int .i64 n) zd=zd from mapD_none _ _ (fun q hq=>by obtain⟨p,hp',rfl⟩:=List.mem_map.1 hq;exact hno p hp'))
 have HCc:=qq hc
 clear hc hf hno
 have HH:=qq hH
 have HS:=qq hok.len
 have HPl:=qq hok
 obtain⟨w2,hw2⟩:∃w2,w2=(w.alloc (.cells #[.pointer (some ⟨g,0,none⟩)] 70)).alloc (.cells zeroOnce.toArray 56):=⟨_,rfl⟩
 have HX2:=qq (show Boxed w2 w.heap.size 70 (.pointer (some ⟨g,0,none⟩)) by rw[hw2];exact(Boxed.new w _ _).alloc _)
 have HZ2:=qq (show Blk w2 (w.heap.size+1) 56 zeroOnce by rw[hw2];exact Blk.at_size _ _ (by simp))
 have HB2:=qq (show Blk w2 g 77 (lineC t h s l.link l.place (.map (some gm))) by rw[hw2];exact(hB.alloc _).alloc _)
 have HH2:=qq (show HeldAt w2 gm hp by rw[hw2];exact(hH.alloc _).alloc _)
 have HK2:=qq (show Below w.heap.size w w2 by rw[hw2];exact((Below.refl _ w).alloc (Nat.le_refl _) _).alloc (by simp) _)
 have hgl:=hB.lt
 have hml:=hH.map.lt
 have hz2:w2.heap.size=w.heap.size+2:=by rw[hw2];simp
 have HW2:=qq hw2
 have HC:=qq (wcheckO g 0 77 _ t h s n w2 (WinO.of_line HB2.out) hM.bound)
 clear hw2 hB hH hok hM
 go_enter Tryd.func36,Tryd.ntmps36
 go_upto_region 1 with fail
 have hw2:=HW2.out
 simp only[show zeroOnce.toArray= #[Value.int .i64 0,Value.int .u8 0,Value.int .u8 0,Value.int .u8 0,Value.int .u8 0,Value.int .u8 0,Value.int .u8 0,Value.int .u8 0,Value.int .u8 0,Value.int .u8 0,Value.int .u8 0,Value.int .u8 0,Value.int .u8 0,Value.int .u8 0,Value.int .u8 0,Value.int .u8 0,Value.int .u8 0,Value.int .u8 0,Value.int .u8 0,Value.int .u8 0,Value.int .u8 0,Value.int .u8 0,Value.int .u8 0,Value.int .u8 0,Value.int .u8 0,Value.int .u8 0,Value.int .u8 0,Value.int .u8 0,Value.int .u8 0,Value.int .u8 0,Value.int .u8 0,Value.int .u8 0,Value.int .u8 0,Value.slice none 0 0]from rfl]at hw2
 rw[←hw2]
 clear hw2
 have cb:=HX2.out.cell
 go_wp2_with fail
 refine HC.out.mono ?_
 rintro e w3 ⟨rfl,rfl⟩
 rw[HCc.out,errV_zero]
 have hlk:(zeroValue 56).run Tryd.prog w2= .ok (.agg zeroOnce.toArray) w2:=by kernel_rfl
 have c36:=HB2.out.cell 36 (lineC_36 HS.out)
 have hkey:=keyI (a:=n) (by omega) (by omega)
 have HZn:=qq (show Blk (w2.alloc (.cells zeroOnce.toArray 56)) (w.heap.size+2) 56 zeroOnce by rw[←hz2];exact Blk.new _ _ _)
 go_upto_region 4 with fail
 go_upto_region 5 with(first
  |(at_lookup;(refine wpList_lookup_own_ok _ rfl _ _ 75 rfl 3 56 intKey Tryd.underlying75 anyE hlk (.held (.agg zeroOnce.toArray)) [] anyE_zero gm _ _ rfl HH2.out.map _ _ rfl hkey ?_;intro v ps hv;obtain⟨-,hvy⟩:=anyE_inv hv;injection hvy with hv1 hv2;rw[HNd.out]at hv1;injection hv1 with hv1;subst hv1;rw[mapD_has,HNo.out];clear hv hv2))
  |(refine wpList_store_piece rfl 56 (.tmp 7) (.tmp 30) rfl (w.heap.size+2) 0 rfl (zeroOnce) rfl 56 _ [] zeroOnce [] HZn.out (by simp) rfl (by have h34:=zeroOnce_len;first|(rw[h34];done)|(rw[h34];rfl)) (by rw[sizeOnce,zeroOnce_len]) ((onceC_one _ _ _ _ _)) ?_;intro w4 hx4 hg4))
 have HX4:=qq (show Blk w4 (w.heap.size+2) 56 (zeroOnce)from hx4.cast (by simp))
 have HK4:=qq (show Below w2.heap.size w2 w4 from((Below.refl _ w2).alloc (Nat.le_refl _) _).grown hg4 (by simp) (fun k e=>by cases e;omega))
 have hz4:w2.heap.size+1≤w4.heap.size:=by have:=hg4.size;simpa using this
 have HB4:=qq (HB2.out.below HK4.out (by omega))
 have HH4:=qq (HH2.out.below HK4.out (by omega) (fun p hp'=>(HH2.out.mem p hp').lt))
 have HB0:Hid (Boxed w4 w.heap.size 70 (.pointer (some ⟨g,0,none⟩))):=qq ((HK4.out.block _ (by omega)).trans HX2.out)
 have HZ4:=qq (HZ2.out.below HK4.out (by omega))
 have HK04:=qq (HK2.out.trans (HK4.out.mono (by omega)))
 clear hx4 hg4 c36 cb
 have cb:=HB0.out.cell
 have c35:=HB4.out.cell 35 (lineC_35 HS.out)
 have hd:decide (n<l.place)=false:=by simp;omega
 have hsub:IntKind.i64.wrap (n-l.place)=n-l.place:=IntWalk.i64_in _ (by omega)
 have hd2:decide (256<n-l.place)=true:=by simp[hfar]
 go_upto_region 11 with fail
 refine wp_region_lit ?_
 refine wpList_bparts rfl 56 [] rfl zeroOnce.toArray [] rfl built_zeroOnce ?_
 go_wp2_with (refine wpList_store_piece rfl 56 (.tmp 4) (.tmp 61) rfl (w.heap.size+1) 0 rfl zeroOnce rfl 56 _ [] zeroOnce [] HZ4.out (by simp) rfl rfl sizeOnce (onceC_one _ _ _ _ _) ?_;intro w9 hx9 hg9)
 have HX9:=qq (show Blk w9 (w.heap.size+1) 56 zeroOnce from hx9.cast (by simp))
 refine bodyPost_ret (v:= .tuple #[.agg zeroOnce.toArray,errV 12]) (results_blk_tmp (g:=w.heap.size+1) rfl _ _ _ _ _ _ rfl (by first|rfl|exact Hne.out.symm) HX9.out Tryd.underlying56 rfl sizeOnce) rfl ?_
 exact⟨rfl,HK04.out.grown hg9 HK04.out.size (fun k e=>by cases e;omega)⟩
set_option maxRecDepth 100000 in
set_option maxHeartbeats 4000000 in
theorem take_found(w:World)(g gm:Nat)(hp1 hp2:List (OnceM×Nat))(o:OnceM)(b:Nat)(l:LineM)(M:List Int)(t:Bool)(h:Int)(s:BitVec 64)(n:Int)(hB:Blk w g 77 (lineC t h s l.link l.place (.map (some gm))))(hH:HeldAt w gm (hp1++(o,b)::hp2))
 (hf:(hp1++(o,b)::hp2).map Prod.fst=l.held)(hok:LOK l)(hM:Marks M t h s l)(hc:winCheck t h s n=0)(hn:o.no=n)(K:Nat)(hKb:K≤g∧K≤gm∧K≤w.heap.size):
 Calls Tryd.prog 36 #[.pointer (some ⟨g,0,none⟩),.int .i64 n] w fun e w'=>e= .returned (.tuple #[.agg (onceC o.no o.key (nonceS b)).toArray,.nilIface])∧
  Arr b8 w' b 5 (o.key++o.nonce)∧Blk w' g 77 (lineC (winMark t h s n).1 (winMark t h s n).2.1 (winMark t h s n).2.2 l.link l.place (.map (some gm)))∧HeldAt w' gm (hp1++hp2)∧Below K w w':=by
 obtain⟨n0,n1,-,-,-⟩:=hM.pass hc
 obtain⟨hp,hhp⟩:∃hp,hp=hp1++(o,b)::hp2:=⟨_,rfl⟩
 have hr:RiseO (hp.map Prod.fst):=by rw[hhp,hf];exact hok.rise
 rw[←hhp]at hH hf
 have HNo:=qq (find_held (hp:=hp) (n:=n) ⟨(o,b),by rw[hhp];simp,hn⟩)
 have HNd:=qq (show∀zd,(mapD (mapL hp)).atKey (.int .i64 n) zd= .held (.agg (onceC o.no o.key (nonceS b)).toArray)from mapD_at _ _ _ (mapL_rise hr) (by rw[←hn];exact List.mem_map.2 ⟨(o,b),by rw[hhp];simp,rfl⟩))
 have HOk:=qq (show o.key.length=32 from(hok.held o (by rw[←hf,hhp];simp)).2.2.2.2.1)
 have HOl:=qq (onceC_len o.no o.key (nonceS b) HOk.out)
 have HHp:=qq hhp
 have HR:=qq hr
 have HBd:=qq hM.bound
 have HCc:=qq hc
 have HN:=qq hn
 clear hc hf hr hhp hn
 have HH:=qq hH
 have HS:=qq hok.len
 have HPl:=qq hok
 obtain⟨w2,hw2⟩:∃w2,w2=(w.alloc (.cells #[.pointer (some ⟨g,0,none⟩)] 70)).alloc (.cells zeroOnce.toArray 56):=⟨_,rfl⟩
 have HX2:=qq (show Boxed w2 w.heap.size 70 (.pointer (some ⟨g,0,none⟩)) by rw[hw2];exact(Boxed.new w _ _).alloc _)
 have HZ2:=qq (show Blk w2 (w.heap.size+1) 56 zeroOnce by rw[hw2];exact Blk.at_size _ _ (by simp))
 have HB2:=qq (show Blk w2 g 77 (lineC t h s l.link l.place (.map (some gm))) by rw[hw2];exact(hB.alloc _).alloc _)
 have HH2:=qq (show HeldAt w2 gm hp by rw[hw2];exact(hH.alloc _).alloc _)
 have HK2:=qq (show Below w.heap.size w w2 by rw[hw2];exact((Below.refl _ w).alloc (Nat.le_refl _) _).alloc (by simp) _)
 have hgl:=hB.lt
 have hml:=hH.map.lt
 have hz2:w2.heap.size=w.heap.size+2:=by rw[hw2];simp
 have HW2:=qq hw2
 have HC:=qq (wcheckO g 0 77 _ t h s n w2 (WinO.of_line HB2.out) hM.bound)
 clear hw2 hB hH hok hM
 go_enter Tryd.func36,Tryd.ntmps36
 go_upto_region 1 with fail
 have hw2:=HW2.out
 simp only[show zeroOnce.toArray= #[Value.int .i64 0,Value.int .u8 0,Value.int .u8 0,Value.int .u8 0,Value.int .u8 0,Value.int .u8 0,Value.int .u8 0,Value.int .u8 0,Value.int .u8 0,Value.int .u8 0,Value.int .u8 0,Value.int .u8 0,Value.int .u8 0,Value.int .u8 0,Value.int .u8 0,Value.int .u8 0,Value.int .u8 0,Value.int .u8 0,Value.int .u8 0,Value.int .u8 0,Value.int .u8 0,Value.int .u8 0,Value.int .u8 0,Value.int .u8 0,Value.int .u8 0,Value.int .u8 0,Value.int .u8 0,Value.int .u8 0,Value.int .u8 0,Value.int .u8 0,Value.int .u8 0,Value.int .u8 0,Value.int .u8 0,Value.slice none 0 0]from rfl]at hw2
 rw[←hw2]
 clear hw2
 have cb:=HX2.out.cell
 go_wp2_with fail
 refine HC.out.mono ?_
 rintro e w3 ⟨rfl,rfl⟩
 rw[HCc.out,errV_zero]
 have hlk:(zeroValue 56).run Tryd.prog w2= .ok (.agg zeroOnce.toArray) w2:=by kernel_rfl
 have c36:=HB2.out.cell 36 (lineC_36 HS.out)
 have hkey:=keyI (a:=n) (by omega) (by omega)
 have HZn:=qq (show Blk (w2.alloc (.cells zeroOnce.toArray 56)) (w.heap.size+2) 56 zeroOnce by rw[←hz2];exact Blk.new _ _ _)
 go_upto_region 4 with fail
 go_upto_region 5 with(first
  |(at_lookup;(refine wpList_lookup_own_ok _ rfl _ _ 75 rfl 3 56 intKey Tryd.underlying75 anyE hlk (.held (.agg zeroOnce.toArray)) [] anyE_zero gm _ _ rfl HH2.out.map _ _ rfl hkey ?_;intro v ps hv;obtain⟨-,hvy⟩:=anyE_inv hv;injection hvy with hv1 hv2;rw[HNd.out]at hv1;injection hv1 with hv1;subst hv1;rw[mapD_has,HNo.out];clear hv hv2))
  |(refine wpList_store_piece rfl 56 (.tmp 7) (.tmp 30) rfl (w.heap.size+2) 0 rfl (onceC o.no o.key (nonceS b)) rfl 56 _ [] zeroOnce [] HZn.out (by simp) rfl (by have h34:=HOl.out;first|(rw[h34];done)|(rw[h34];rfl)) (by rw[sizeOnce,HOl.out]) ((onceC_one _ _ _ _ _)) ?_;intro w4 hx4 hg4))
 have HX4:=qq (show Blk w4 (w.heap.size+2) 56 (onceC o.no o.key (nonceS b))from hx4.cast (by simp))
 have HK4:=qq (show Below w2.heap.size w2 w4 from((Below.refl _ w2).alloc (Nat.le_refl _) _).grown hg4 (by simp) (fun k e=>by cases e;omega))
 have hz4:w2.heap.size+1≤w4.heap.size:=by have:=hg4.size;simpa using this
 have HB4:=qq (HB2.out.below HK4.out (by omega))
 have HH4:=qq (HH2.out.below HK4.out (by omega) (fun p hp'=>(HH2.out.mem p hp').lt))
 have HB0:Hid (Boxed w4 w.heap.size 70 (.pointer (some ⟨g,0,none⟩))):=qq ((HK4.out.block _ (by omega)).trans HX2.out)
 have HZ4:=qq (HZ2.out.below HK4.out (by omega))
 have HK04:=qq (HK2.out.trans (HK4.out.mono (by omega)))
 clear hx4 hg4 c36 cb
 have cb:=HB0.out.cell
 have c36:=HB4.out.cell 36 (lineC_36 HS.out)
 go_upto_region 7 with(first
  |(at_delete;refine wpList_delete_own _ rfl _ _ 75 3 rfl 56 intKey Tryd.underlying75 anyE gm _ _ rfl HH4.out.map _ _ rfl hkey ?_;intro w5 hown5 hturn5))
 have hg5:=hturn5.grown
 have hgm:gm≠g:=HH4.out.map.not_cells HB4.out
 have HX5:=qq (HX4.out.grown hg5 (fun e=>by injection e with e;omega))
 have HZ5:=qq (HZ4.out.grown hg5 (fun e=>by injection e with e;omega))
 have HB5:=qq (HB4.out.grown hg5 (fun e=>by injection e with e;exact hgm e.symm))
 have HO5:=qq (HB0.out.kept hg5 (fun e=>by injection e with e;omega))
 have HA5:=qq (arr_grown_map (HH4.out.mem (o,b) (by rw[HHp.out];simp)) HH4.out.map hg5)
 have HH5:=qq (show HeldAt w5 gm (hp1++hp2)from⟨by
  rw[mapD_del,mapL_filter (f:=fun x=>!decide (x=n))]at hown5
  have e:hp.filter (fun p=>!decide (p.1.no=n))=hp1++hp2:=by
   have hr:=HR.out
   rw[HHp.out]at hr ⊢
   rw[List.map_append,List.map_cons]at hr
   obtain⟨-,hr2,hr3⟩:=List.pairwise_append.1 hr
   obtain⟨hr4,-⟩:=List.pairwise_cons.1 hr2
   rw[List.filter_append,List.filter_cons,if_neg (by simp[HN.out])]
   congr 1
   ·exact List.filter_eq_self.2 (fun p hp'=>by
     have h9:p.1.no<o.no:=hr3 p.1 (List.mem_map.2 ⟨p,hp',rfl⟩) o (by simp)
     have:=HN.out;simp;omega)
   ·exact List.filter_eq_self.2 (fun p hp'=>by
     have h9:o.no<p.1.no:=hr4 p.1 (List.mem_map.2 ⟨p,hp',rfl⟩)
     have:=HN.out;simp;omega)
  rw[e]at hown5
  exact MapO.of hown5,fun p hp'=>arr_grown_map (HH4.out.mem p (by rw[HHp.out];simp at hp' ⊢;rcases hp' with h|h;exact .inl h;exact .inr (.inr h))) HH4.out.map hg5⟩)
 have hz5:=hg5.size
 have HK5:=qq (show Below K w w5 from(HK04.out.mono hKb.2.2).grown hg5 (Nat.le_trans hKb.2.2 HK04.out.size) (fun k e=>by cases e;exact hKb.2.1))
 have HMk:=qq (wmarkO g 0 77 _ t h s n w5.drew (WinO.of_line HB5.out.drew) HBd.out)
 have hk5:w5.drew.rangeAt (w.heap.size+2) 0 (onceC o.no o.key (nonceS b))∧w5.drew.cell? ⟨w.heap.size,0,none⟩=some (.pointer (some ⟨g,0,none⟩)):=⟨HX5.out.drew.whole,HO5.out.cell⟩
 have hu:=Tryd.underlying56
 have hi34:(Tryd.prog.info? 56).map (·.size)=some (onceC o.no o.key (nonceS b)).length:=by rw[HOl.out];exact sizeOnce
 clear hg5 hown5 hturn5
 refine wp_region_noPanic ?_
 refine wp_region_held_drew (S:=fun w'=>w'.rangeAt (w.heap.size+2) 0 (onceC o.no o.key (nonceS b))∧w'.cell? ⟨w.heap.size,0,none⟩=some (.pointer (some ⟨g,0,none⟩))) (by kernel_rfl) hk5 (fun hS=>?_)
 refine wpAnyH_take (i:=0) (oi:={dst:=some 38,op:=_,type:=_,pos:=_,after:=_,guard:=_}) (v:= .agg (onceC o.no o.key (nonceS b)).toArray) rfl (by kernel_rfl) (by kernel_rfl) (by kernel_rfl) (fun _ _ _ h=>h) (yieldsIf_load_mid (by rfl) 56 (.tmp 7) rfl (w.heap.size+2) 0 rfl (onceC o.no o.key (nonceS b)) _ (fun _ h=>h.1) hu rfl hi34) hS ?_
 try simp only[Act.put,qj,qz,qv]
 refine wpAnyH_take (i:=1) (oi:={dst:=some 39,op:=_,type:=_,pos:=_,after:=_,guard:=_}) (v:= .pointer (some ⟨g,0,none⟩)) rfl (by kernel_rfl) (by kernel_rfl) (by kernel_rfl) (fun _ _ _ h=>h) (Or.inl ⟨by rfl,?_⟩) hS ?_
 ·intro w' hw'
  obtain⟨s0,s1⟩:=hw'
  go_simp
 try simp only[Act.put,qj,qz,qv]
 refine wpAnyH_take (i:=2) (oi:={dst:=some 40,op:=_,type:=_,pos:=_,after:=_,guard:=_}) (v:= .pointer (some ⟨g,0,none⟩)) rfl (by kernel_rfl) (by kernel_rfl) (by kernel_rfl) (fun _ _ _ h=>h) (Or.inl ⟨by rfl,?_⟩) hS ?_
 ·intro w' hw'
  go_simp
 try simp only[Act.put,qj,qz,qv]
 refine wpAnyH_take (i:=3) (oi:={dst:=some 41,op:=_,type:=_,pos:=_,after:=_,guard:=_}) (v:= .pointer (some ⟨g,0,none⟩)) rfl (by kernel_rfl) (by kernel_rfl) (by kernel_rfl) (fun _ _ _ h=>h) (Or.inl ⟨by rfl,?_⟩) hS ?_
 ·intro w' hw'
  go_simp
 try simp only[Act.put,qj,qz,qv]
 refine wpAnyH_take (i:=4) (oi:={dst:=some 42,op:=_,type:=_,pos:=_,after:=_,guard:=_}) (v:= .int .i64 n) rfl (by kernel_rfl) (by kernel_rfl) (by kernel_rfl) (fun _ _ _ h=>h) (Or.inl ⟨by rfl,?_⟩) hS ?_
 ·intro w' hw'
  go_simp
 try simp only[Act.put,qj,qz,qv]
 refine wpAnyH_ready (rs:=[5]) (by kernel_rfl) (by simp) (AllReadyH.cons (o:={dst:=some 43,op:=_,type:=_,pos:=_,after:=_,guard:=_}) rfl (fun K' hK=>?_) AllReadyH.nil)
 go_simp
 go_at_call 52
 refine(HMk.out).mono ?_
 rintro e w6 ⟨rfl,-,hb6⟩
 obtain⟨hb6,hg6⟩:=hb6 HCc.out
 rw[lineC_setW]at hb6
 have HB6:=qq hb6
 have hg6':w5.grownBy w6 (some g):=⟨hg6.os,hg6.tape,hg6.output,hg6.size,hg6.block⟩
 have HX6:=qq (HX5.out.grown hg6' (fun e=>by injection e with e;omega))
 have HZ6:=qq (HZ5.out.grown hg6' (fun e=>by injection e with e;omega))
 have HO6:=qq (HO5.out.kept hg6' (fun e=>by injection e with e;omega))
 have HH6:=qq (HH5.out.cells HB5.out (by decide) hg6')
 have HA6:=qq (arr_grown_line HA5.out HB5.out (by decide) hg6')
 have HK6:=qq (HK5.out.grown hg6' (Nat.le_trans hKb.2.2 (Nat.le_trans HK04.out.size hz5)) (fun k e=>by cases e;exact hKb.1))
 rw[HCc.out,errV_zero]
 clear hb6 hg6
 refine hK.out _ _ (⟨HX6.out.whole,HO6.out.cell⟩) (fun hS=>?_)
 clear hK K'
 try simp only[Act.put,qj,qz,qv]
 refine wpAnyH_ready (rs:=[6]) (by kernel_rfl) (by simp) (AllReadyH.cons (o:={dst:=none,op:=_,type:=_,pos:=_,after:=_,guard:=_}) rfl (fun K' hK=>?_) AllReadyH.nil)
 rw[if_pos (by rfl)]
 refine wp_store_piece 56 (.tmp 4) (.tmp 38) rfl (w.heap.size+1) 0 rfl (onceC o.no o.key (nonceS b)) rfl _ _ [] zeroOnce [] HZ6.out (by simp) rfl (by rw[HOl.out];rfl) (by rw[sizeOnce,HOl.out]) (onceC_one _ _ _ _ _) ?_
 intro w7 hx7 hg7
 have HZ7:=qq (show Blk w7 (w.heap.size+1) 56 (onceC o.no o.key (nonceS b))from hx7.cast (by simp))
 have HG7:=qq hg7
 have HX7:=qq (HX6.out.grown hg7 (fun e=>by injection e with e;omega))
 have HO7:=qq (HO6.out.kept hg7 (fun e=>by injection e with e;omega))
 clear hx7 hg7
 refine hK.out _ _ (⟨HX7.out.whole,HO7.out.cell⟩) (fun hS=>?_)
 clear hK K'
 try simp only[Act.put,qj,qz,qv]
 refine wpAnyH_ready (rs:=[7]) (by kernel_rfl) (by simp) (AllReadyH.cons (o:={dst:=some 5,op:=_,type:=_,pos:=_,after:=_,guard:=_}) rfl (fun K' hK=>?_) AllReadyH.nil)
 go_simp
 refine hK.out _ _ (⟨HX7.out.whole,HO7.out.cell⟩) (fun hS=>?_)
 clear hK K'
 try simp only[Act.put,qj,qz,qv]
 refine wpAnyH_done (by kernel_rfl) ?_ _
 refine NoPanic.normal ?_
 go_wp2_with fail
 refine bodyPost_ret (v:= .tuple #[.agg (onceC o.no o.key (nonceS b)).toArray,.nilIface]) (results_blk_tmp (g:=w.heap.size+1) rfl _ _ _ _ _ _ rfl rfl HZ7.out Tryd.underlying56 rfl (by rw[HOl.out];exact sizeOnce)) rfl ?_
 exact⟨rfl,arr_grown_line HA6.out HZ6.out (by decide) HG7.out,HB6.out.grown HG7.out (fun e=>by injection e with e;omega),HH6.out.cells HZ6.out (by decide) HG7.out,
  HK6.out.grown HG7.out (Nat.le_trans hKb.2.2 (Nat.le_trans HK04.out.size (Nat.le_trans hz5 hg6'.size))) (fun k e=>by cases e;omega)⟩
end Go.Proofs.YtelgjaiknaalkaaDoor
