/- Lemmas, joined and made smaller by a program. -/
import Derived.Test.YtelgjaiknaalkaaDoorPo20
import Derived.Test.YtelgjaiknaalkaaDoorPo19
import Derived.Test.YtelgjaiknaalkaaDoorPo22
import Derived.Test.YtelgjaiknaalkaaDoorPo09
import Derived.OrdersHeld
open Go.Lib renaming hid → qq
open List renaming setIfInBounds_toArray → qj
open List renaming set_cons_zero → qz
open List renaming set_cons_succ → qv
set_option linter.unusedVariables false
set_option linter.unusedSimpArgs false
namespace Go.Proofs.YtelgjaiknaalkaaDoor
open Go.RowKit
set_option maxRecDepth 100000
theorem bv_ofInt8(z:Int):bv (BitVec.ofInt 8 z)=z % 256:=by
 show((BitVec.ofInt 8 z).toNat:Int)=z % 256
 rw[BitVec.toNat_ofInt]
 omega
theorem b8_ofInt(z:Int):b8 (BitVec.ofInt 8 z)= .int .u8 (z % 256):=by rw[b8_eq,bv_ofInt8]
theorem be_four(n:Int):be n 4=[BitVec.ofInt 8 (n/16777216),BitVec.ofInt 8 (n/65536),BitVec.ofInt 8 (n/256),BitVec.ofInt 8 n]:=by simp[be,beAt]
theorem be_one(n:Int):be n 1=[BitVec.ofInt 8 n]:=by simp[be,beAt]
theorem bput_any(n:Int)(w:World):Calls Tryd.prog 30 #[.int .i64 n] w fun e w'=>∃v,e= .returned v∧Own b8 w' w.heap.size 5 v (be n 4)∧Below w.heap.size w w':=by
 have hl: #[Value.int IntKind.u8 (n/16777216 % 256),Value.int IntKind.u8 (n/65536 % 256),Value.int IntKind.u8 (n/256 % 256),Value.int IntKind.u8 (n % 256)]=((be n 4).map b8).toArray:=by
  rw[be_four];simp only[List.map_cons,List.map_nil,b8_ofInt]
 have HL:=qq hl
 clear hl
 go_enter Tryd.func30,Tryd.ntmps30
 go_wp2_with fail
 go_ret
 rw[HL.out]
 refine⟨_,rfl,?_,(Below.refl _ w).alloc (Nat.le_refl _) _⟩
 have:=Own.lit b8 w w.heap.size 5 (be n 4) (Nat.le_refl _) (by rw[be_len];simp[maxLen])
 rw[be_len]at this
 exact this
theorem concat_four(W:World)(B:Nat){m1 d1 m2 d2 m3 d3 m4 d4:Nat}{C1 C2 C3 C4:Option Addr}{x1 x2 x3 x4:List (BitVec 8)}(hr1:Rd b8 W B C1 x1)(hr2:Rd b8 W B C2 x2)(hr3:Rd b8 W B C3 x3)(hr4:Rd b8 W B C4 x4)(hB:B≤W.heap.size)(hm1:m1=x1.length)(hm2:m2=x2.length)(hm3:m3=x3.length)(hm4:m4=x4.length)
 (htot:x1.length+(x2.length+(x3.length+x4.length))≤40000000):
 Calls Tryd.prog 29 #[.slice (some ⟨W.heap.size,0,none⟩) 4 4] (W.alloc (.cells #[.slice C1 m1 d1,.slice C2 m2 d2,.slice C3 m3 d3,.slice C4 m4 d4] 33)) fun e w'=>∃v,e= .returned v∧Own b8 w' (W.heap.size+1) 5 v (x1++(x2++(x3++x4)))∧Below W.heap.size W w':=by
 refine(concat_any _ B W.heap.size 0 4 4 _ (pts_new W B [((C1,m1,d1),x1),((C2,m2,d2),x2),((C3,m3,d3),x3),((C4,m4,d4),x4)] (by simpa using⟨hr1,hr2,hr3,hr4⟩) (by simpa using⟨hm1,hm2,hm3,hm4⟩) hB) (by simp;omega) rfl (by omega) (by simp;omega)).mono ?_
 rintro e w' ⟨v,rfl,ho,hb⟩
 refine⟨v,rfl,?_,((Below.refl _ W).alloc (Nat.le_refl _) _).trans (hb.mono (by simp))⟩
 rw[World.size_alloc]at ho
 exact ho.cast (by simp)
def ctxV(grp:List (BitVec 8))(ep fr nu:Int):List (BitVec 8):=groupB grp ep fr++be nu 4
theorem ctxV_len{grp:List (BitVec 8)}(h:grp.length=32)(ep fr nu:Int):(ctxV grp ep fr nu).length=41:=by
 unfold ctxV;rw[List.length_append,groupB_len,be_len,h]
theorem lit_one(fr:Int):(List.map b8 [BitVec.ofInt 8 fr]).toArray= #[Value.int .u8 (fr % 256)]:=by simp only[List.map_cons,List.map_nil,b8_ofInt]
set_option maxHeartbeats 2000000 in
theorem context_any(grp:List (BitVec 8))(hg:grp.length=32)(ep fr nu:Int)(A:Option Addr)(n c:Nat)(w:World):
 Calls Tryd.prog 16 #[.agg (packetC grp ep fr nu A n c).toArray] w fun e w'=>∃v,e= .returned v∧Own b8 w' w.heap.size 5 v (ctxV grp ep fr nu)∧Below w.heap.size w w':=by
 have HG:=qq hg
 have HBx:=qq (show PkBox (w.alloc (.cells (packetC grp ep fr nu A n c).toArray 35)) w.heap.size grp ep fr nu A n c from Blk.new w _ _)
 have HB0:=qq ((Below.refl w.heap.size w).alloc (Nat.le_refl _) (.cells (packetC grp ep fr nu A n c).toArray 35))
 have hz:=World.size_alloc w (.cells (packetC grp ep fr nu A n c).toArray 35)
 clear hg
 go_enter Tryd.func16,Tryd.ntmps16
 go_upto_region 1 with fail
 generalize World.alloc w _=w0 at HBx HB0 hz ⊢
 have HS:=qq (show∀W,Below w0.heap.size w0 W→W.cell? ⟨w.heap.size,32,none⟩=some (.int .i64 ep)∧W.cell? ⟨w.heap.size,33,none⟩=some (.int .i64 fr)∧W.cell? ⟨w.heap.size,34,none⟩=some (.int .i64 nu)from fun W hb=>by
  obtain⟨c32,c33,c34,-⟩:=(HBx.out.below hb (by omega)).all5 HG.out
  exact⟨c32,c33,c34⟩)
 have hk0:=HS.out _ (Below.refl _ w0).drew
 have HB1:=qq (show Below w0.heap.size w0 w0.drew from(Below.refl _ w0).drew)
 have HR1x0:=qq (show Rd b8 w0.drew w0.drew.heap.size (some ⟨w.heap.size,0,none⟩) grp from fun _=>⟨w.heap.size,0,rfl,by show w.heap.size<w0.heap.size;omega,fun j u hu=>by
  have h:=(HBx.out.r0 HG.out) j (b8 u) (by rw[List.getElem?_map,hu];rfl)
  exact h⟩)
 refine wp_region_noPanic ?_
 refine wp_region_held_drew (S:=fun w'=>w'.cell? ⟨w.heap.size,32,none⟩=some (.int .i64 ep)∧w'.cell? ⟨w.heap.size,33,none⟩=some (.int .i64 fr)∧w'.cell? ⟨w.heap.size,34,none⟩=some (.int .i64 nu)) (by kernel_rfl) hk0 (fun hS=>?_)
 refine wpAnyH_take (i:=0) (oi:={dst:=some 3,op:=_,type:=_,pos:=_,after:=_,guard:=_}) (v:= .pointer (some ⟨w.heap.size,0,none⟩)) rfl (by kernel_rfl) (by kernel_rfl) (by kernel_rfl) (fun _ _ _ h=>h) (Or.inl ⟨by rfl,?_⟩) hS ?_
 ·intro w' hw'
  go_simp
 try simp only[Act.put,qj,qz,qv]
 refine wpAnyH_take (i:=1) (oi:={dst:=some 4,op:=_,type:=_,pos:=_,after:=_,guard:=_}) (v:= .slice (some ⟨w.heap.size,0,none⟩) 32 32) rfl (by kernel_rfl) (by kernel_rfl) (by kernel_rfl) (fun _ _ _ h=>h) (Or.inl ⟨by rfl,?_⟩) hS ?_
 ·intro w' hw'
  go_simp
 try simp only[Act.put,qj,qz,qv]
 refine wpAnyH_take (i:=2) (oi:={dst:=some 5,op:=_,type:=_,pos:=_,after:=_,guard:=_}) (v:= .pointer (some ⟨w.heap.size,32,none⟩)) rfl (by kernel_rfl) (by kernel_rfl) (by kernel_rfl) (fun _ _ _ h=>h) (Or.inl ⟨by rfl,?_⟩) hS ?_
 ·intro w' hw'
  go_simp
 try simp only[Act.put,qj,qz,qv]
 refine wpAnyH_take (i:=3) (oi:={dst:=some 6,op:=_,type:=_,pos:=_,after:=_,guard:=_}) (v:= .int .i64 ep) rfl (by kernel_rfl) (by kernel_rfl) (by kernel_rfl) (fun _ _ _ h=>h) (Or.inl ⟨by rfl,?_⟩) hS ?_
 ·intro w' hw'
  obtain⟨s0,s1,s2⟩:=hw'
  go_simp
 try simp only[Act.put,qj,qz,qv]
 refine wpAnyH_take (i:=5) (oi:={dst:=some 8,op:=_,type:=_,pos:=_,after:=_,guard:=_}) (v:= .pointer (some ⟨w.heap.size,33,none⟩)) rfl (by kernel_rfl) (by kernel_rfl) (by kernel_rfl) (fun _ _ _ h=>h) (Or.inl ⟨by rfl,?_⟩) hS ?_
 ·intro w' hw'
  go_simp
 try simp only[Act.put,qj,qz,qv]
 refine wpAnyH_take (i:=6) (oi:={dst:=some 9,op:=_,type:=_,pos:=_,after:=_,guard:=_}) (v:= .int .i64 fr) rfl (by kernel_rfl) (by kernel_rfl) (by kernel_rfl) (fun _ _ _ h=>h) (Or.inl ⟨by rfl,?_⟩) hS ?_
 ·intro w' hw'
  obtain⟨s0,s1,s2⟩:=hw'
  go_simp
 try simp only[Act.put,qj,qz,qv]
 refine wpAnyH_take (i:=7) (oi:={dst:=some 10,op:=_,type:=_,pos:=_,after:=_,guard:=_}) (v:= .int .u8 (fr % 256)) rfl (by kernel_rfl) (by kernel_rfl) (by kernel_rfl) (fun _ _ _ h=>h) (Or.inl ⟨by rfl,?_⟩) hS ?_
 ·intro w' hw'
  go_simp;rfl
 try simp only[Act.put,qj,qz,qv]
 refine wpAnyH_take (i:=9) (oi:={dst:=some 12,op:=_,type:=_,pos:=_,after:=_,guard:=_}) (v:= .pointer (some ⟨w.heap.size,34,none⟩)) rfl (by kernel_rfl) (by kernel_rfl) (by kernel_rfl) (fun _ _ _ h=>h) (Or.inl ⟨by rfl,?_⟩) hS ?_
 ·intro w' hw'
  go_simp
 try simp only[Act.put,qj,qz,qv]
 refine wpAnyH_take (i:=10) (oi:={dst:=some 13,op:=_,type:=_,pos:=_,after:=_,guard:=_}) (v:= .int .i64 nu) rfl (by kernel_rfl) (by kernel_rfl) (by kernel_rfl) (fun _ _ _ h=>h) (Or.inl ⟨by rfl,?_⟩) hS ?_
 ·intro w' hw'
  obtain⟨s0,s1,s2⟩:=hw'
  go_simp
 try simp only[Act.put,qj,qz,qv]
 refine wpAnyH_ready (rs:=[4,8]) (by kernel_rfl) (by simp) (AllReadyH.cons (o:={dst:=some 7,op:=_,type:=_,pos:=_,after:=_,guard:=_}) rfl (fun K' hK=>?_) (AllReadyH.cons (o:={dst:=some 11,op:=_,type:=_,pos:=_,after:=_,guard:=_}) rfl (fun K' hK=>?_) AllReadyH.nil))
 ·
  go_simp
  go_at_call 30
  refine(bput_any ep _).mono ?_
  rintro e w2 ⟨v2,rfl,ho,hb⟩
  obtain⟨A4,c4,rfl,hr,-,-,-⟩:=ho.shape' (be_len _ _)
  have HR2x4:=qq hr
  have hx:Below w0.drew.heap.size w0.drew w2:=hb
  have HR2x0:=qq ((HR1x0.out.below hx).more hx.size)
  have HB2:=qq (HB1.out.trans (hx.mono HB1.out.size))
  clear hr hx ho hb
  refine hK.out _ _ (HS.out _ HB2.out) (fun hS=>?_)
  clear hK K'
  try simp only[Act.put,qj,qz,qv]
  refine wpAnyH_ready (rs:=[8,11]) (by kernel_rfl) (by simp) (AllReadyH.cons (o:={dst:=some 11,op:=_,type:=_,pos:=_,after:=_,guard:=_}) rfl (fun K' hK=>?_) (AllReadyH.cons (o:={dst:=some 14,op:=_,type:=_,pos:=_,after:=_,guard:=_}) rfl (fun K' hK=>?_) AllReadyH.nil))
  ·
   go_simp
   obtain⟨w3,hw3⟩:∃w3,w3=World.alloc w2 (.cells (List.map b8 [BitVec.ofInt 8 fr]).toArray 5):=⟨_,rfl⟩
   have hr:=Rd.new b8 w2 5 [BitVec.ofInt 8 fr]
   have hx:Below w2.heap.size w2 (World.alloc w2 (.cells (List.map b8 [BitVec.ofInt 8 fr]).toArray 5)):=(Below.refl _ _).alloc (Nat.le_refl _) _
   have hsz:(World.alloc w2 (.cells (List.map b8 [BitVec.ofInt 8 fr]).toArray 5)).heap.size=w2.heap.size+1:=World.size_alloc _ _
   rw[←hw3]at hr hx hsz
   rw[lit_one]at hw3
   rw[←hw3]
   have HR3x8:=qq (show Rd b8 w3 w3.heap.size (some ⟨w2.heap.size,0,none⟩) (be fr 1) by rw[hsz,be_one];exact hr)
   have HR3x0:=qq ((HR2x0.out.below hx).more hx.size)
   have HR3x4:=qq ((HR2x4.out.below hx).more hx.size)
   have HB3:=qq (HB2.out.trans (hx.mono HB2.out.size))
   clear hr hx hsz hw3
   refine hK.out _ _ (HS.out _ HB3.out) (fun hS=>?_)
   clear hK K'
   try simp only[Act.put,qj,qz,qv]
   refine wpAnyH_ready (rs:=[11]) (by kernel_rfl) (by simp) (AllReadyH.cons (o:={dst:=some 14,op:=_,type:=_,pos:=_,after:=_,guard:=_}) rfl (fun K' hK=>?_) AllReadyH.nil)
   go_simp
   go_at_call 30
   refine(bput_any nu _).mono ?_
   rintro e w4 ⟨v4,rfl,ho,hb⟩
   obtain⟨A11,c11,rfl,hr,-,-,-⟩:=ho.shape' (be_len _ _)
   have HR4x11:=qq hr
   have hx:Below w3.heap.size w3 w4:=hb
   have HR4x0:=qq ((HR3x0.out.below hx).more hx.size)
   have HR4x4:=qq ((HR3x4.out.below hx).more hx.size)
   have HR4x8:=qq ((HR3x8.out.below hx).more hx.size)
   have HB4:=qq (HB3.out.trans (hx.mono HB3.out.size))
   clear hr hx ho hb
   refine hK.out _ _ (HS.out _ HB4.out) (fun hS=>?_)
   clear hK K'
   try simp only[Act.put,qj,qz,qv]
   refine wpAnyH_ready (rs:=[12]) (by kernel_rfl) (by simp) (AllReadyH.cons (o:={dst:=some 15,op:=_,type:=_,pos:=_,after:=_,guard:=_}) rfl (fun K' hK=>?_) AllReadyH.nil)
   go_simp
   refine hK.out _ _ (HS.out _ (HB4.out.alloc HB4.out.size _)) (fun hS=>?_)
   clear hK K'
   try simp only[Act.put,qj,qz,qv]
   refine wpAnyH_ready (rs:=[13]) (by kernel_rfl) (by simp) (AllReadyH.cons (o:={dst:=some 16,op:=_,type:=_,pos:=_,after:=_,guard:=_}) rfl (fun K' hK=>?_) AllReadyH.nil)
   go_simp
   go_at_call 29
   refine(concat_four w4 w4.heap.size HR4x0.out HR4x4.out HR4x8.out HR4x11.out (Nat.le_refl _) HG.out.symm (be_len _ _).symm (be_len _ _).symm (be_len _ _).symm (by rw[HG.out,be_len,be_len,be_len];omega)).mono ?_
   rintro e w9 ⟨v9,rfl,ho,hb⟩
   have HO9:=qq (ho.less (show w.heap.size≤w4.heap.size+1 by have:=HB4.out.size;omega))
   have HB9:=qq (HB4.out.trans (hb.mono HB4.out.size))
   clear ho hb
   refine hK.out _ _ (HS.out _ HB9.out) (fun hS=>?_)
   clear hK K'
   try simp only[Act.put,qj,qz,qv]
   refine wpAnyH_take (i:=14) (oi:={dst:=some 2,op:=_,type:=_,pos:=_,after:=_,guard:=_}) (v:=v9) rfl (by kernel_rfl) (by kernel_rfl) (by kernel_rfl) (fun _ _ _ h=>h) (Or.inl ⟨by rfl,?_⟩) hS ?_
   ·intro w' hw'
    go_simp
   try simp only[Act.put,qj,qz,qv]
   refine wpAnyH_done (by kernel_rfl) ?_ _
   refine NoPanic.normal ?_
   go_wp2_with fail
   go_ret
   exact⟨_,rfl,HO9.out.cast (by unfold ctxV groupB;simp only[List.append_assoc]),(HB0.out.trans (HB9.out.mono HB0.out.size))⟩
  ·
   go_simp
   go_at_call 30
   refine(bput_any nu _).mono ?_
   rintro e w3 ⟨v3,rfl,ho,hb⟩
   obtain⟨A11,c11,rfl,hr,-,-,-⟩:=ho.shape' (be_len _ _)
   have HR3x11:=qq hr
   have hx:Below w2.heap.size w2 w3:=hb
   have HR3x0:=qq ((HR2x0.out.below hx).more hx.size)
   have HR3x4:=qq ((HR2x4.out.below hx).more hx.size)
   have HB3:=qq (HB2.out.trans (hx.mono HB2.out.size))
   clear hr hx ho hb
   refine hK.out _ _ (HS.out _ HB3.out) (fun hS=>?_)
   clear hK K'
   try simp only[Act.put,qj,qz,qv]
   refine wpAnyH_ready (rs:=[8]) (by kernel_rfl) (by simp) (AllReadyH.cons (o:={dst:=some 11,op:=_,type:=_,pos:=_,after:=_,guard:=_}) rfl (fun K' hK=>?_) AllReadyH.nil)
   go_simp
   obtain⟨w4,hw4⟩:∃w4,w4=World.alloc w3 (.cells (List.map b8 [BitVec.ofInt 8 fr]).toArray 5):=⟨_,rfl⟩
   have hr:=Rd.new b8 w3 5 [BitVec.ofInt 8 fr]
   have hx:Below w3.heap.size w3 (World.alloc w3 (.cells (List.map b8 [BitVec.ofInt 8 fr]).toArray 5)):=(Below.refl _ _).alloc (Nat.le_refl _) _
   have hsz:(World.alloc w3 (.cells (List.map b8 [BitVec.ofInt 8 fr]).toArray 5)).heap.size=w3.heap.size+1:=World.size_alloc _ _
   rw[←hw4]at hr hx hsz
   rw[lit_one]at hw4
   rw[←hw4]
   have HR4x8:=qq (show Rd b8 w4 w4.heap.size (some ⟨w3.heap.size,0,none⟩) (be fr 1) by rw[hsz,be_one];exact hr)
   have HR4x0:=qq ((HR3x0.out.below hx).more hx.size)
   have HR4x4:=qq ((HR3x4.out.below hx).more hx.size)
   have HR4x11:=qq ((HR3x11.out.below hx).more hx.size)
   have HB4:=qq (HB3.out.trans (hx.mono HB3.out.size))
   clear hr hx hsz hw4
   refine hK.out _ _ (HS.out _ HB4.out) (fun hS=>?_)
   clear hK K'
   try simp only[Act.put,qj,qz,qv]
   refine wpAnyH_ready (rs:=[12]) (by kernel_rfl) (by simp) (AllReadyH.cons (o:={dst:=some 15,op:=_,type:=_,pos:=_,after:=_,guard:=_}) rfl (fun K' hK=>?_) AllReadyH.nil)
   go_simp
   refine hK.out _ _ (HS.out _ (HB4.out.alloc HB4.out.size _)) (fun hS=>?_)
   clear hK K'
   try simp only[Act.put,qj,qz,qv]
   refine wpAnyH_ready (rs:=[13]) (by kernel_rfl) (by simp) (AllReadyH.cons (o:={dst:=some 16,op:=_,type:=_,pos:=_,after:=_,guard:=_}) rfl (fun K' hK=>?_) AllReadyH.nil)
   go_simp
   go_at_call 29
   refine(concat_four w4 w4.heap.size HR4x0.out HR4x4.out HR4x8.out HR4x11.out (Nat.le_refl _) HG.out.symm (be_len _ _).symm (be_len _ _).symm (be_len _ _).symm (by rw[HG.out,be_len,be_len,be_len];omega)).mono ?_
   rintro e w9 ⟨v9,rfl,ho,hb⟩
   have HO9:=qq (ho.less (show w.heap.size≤w4.heap.size+1 by have:=HB4.out.size;omega))
   have HB9:=qq (HB4.out.trans (hb.mono HB4.out.size))
   clear ho hb
   refine hK.out _ _ (HS.out _ HB9.out) (fun hS=>?_)
   clear hK K'
   try simp only[Act.put,qj,qz,qv]
   refine wpAnyH_take (i:=14) (oi:={dst:=some 2,op:=_,type:=_,pos:=_,after:=_,guard:=_}) (v:=v9) rfl (by kernel_rfl) (by kernel_rfl) (by kernel_rfl) (fun _ _ _ h=>h) (Or.inl ⟨by rfl,?_⟩) hS ?_
   ·intro w' hw'
    go_simp
   try simp only[Act.put,qj,qz,qv]
   refine wpAnyH_done (by kernel_rfl) ?_ _
   refine NoPanic.normal ?_
   go_wp2_with fail
   go_ret
   exact⟨_,rfl,HO9.out.cast (by unfold ctxV groupB;simp only[List.append_assoc]),(HB0.out.trans (HB9.out.mono HB0.out.size))⟩
 ·
  go_simp
  obtain⟨w2,hw2⟩:∃w2,w2=World.alloc w0.drew (.cells (List.map b8 [BitVec.ofInt 8 fr]).toArray 5):=⟨_,rfl⟩
  have hr:=Rd.new b8 w0.drew 5 [BitVec.ofInt 8 fr]
  have hx:Below w0.drew.heap.size w0.drew (World.alloc w0.drew (.cells (List.map b8 [BitVec.ofInt 8 fr]).toArray 5)):=(Below.refl _ _).alloc (Nat.le_refl _) _
  have hsz:(World.alloc w0.drew (.cells (List.map b8 [BitVec.ofInt 8 fr]).toArray 5)).heap.size=w0.drew.heap.size+1:=World.size_alloc _ _
  rw[←hw2]at hr hx hsz
  rw[lit_one]at hw2
  rw[show(w0.alloc (Obj.cells #[Value.int IntKind.u8 (fr % 256)] 5)).drew=w2 from hw2.symm]
  have HR2x8:=qq (show Rd b8 w2 w2.heap.size (some ⟨w.heap.size+1,0,none⟩) (be fr 1) by rw[hsz,be_one,←hz];exact hr)
  have HR2x0:=qq ((HR1x0.out.below hx).more hx.size)
  have HB2:=qq (HB1.out.trans (hx.mono HB1.out.size))
  clear hr hx hsz hw2
  refine hK.out _ _ (HS.out _ HB2.out) (fun hS=>?_)
  clear hK K'
  try simp only[Act.put,qj,qz,qv]
  refine wpAnyH_ready (rs:=[4]) (by kernel_rfl) (by simp) (AllReadyH.cons (o:={dst:=some 7,op:=_,type:=_,pos:=_,after:=_,guard:=_}) rfl (fun K' hK=>?_) AllReadyH.nil)
  go_simp
  go_at_call 30
  refine(bput_any ep _).mono ?_
  rintro e w3 ⟨v3,rfl,ho,hb⟩
  obtain⟨A4,c4,rfl,hr,-,-,-⟩:=ho.shape' (be_len _ _)
  have HR3x4:=qq hr
  have hx:Below w2.heap.size w2 w3:=hb
  have HR3x0:=qq ((HR2x0.out.below hx).more hx.size)
  have HR3x8:=qq ((HR2x8.out.below hx).more hx.size)
  have HB3:=qq (HB2.out.trans (hx.mono HB2.out.size))
  clear hr hx ho hb
  refine hK.out _ _ (HS.out _ HB3.out) (fun hS=>?_)
  clear hK K'
  try simp only[Act.put,qj,qz,qv]
  refine wpAnyH_ready (rs:=[11]) (by kernel_rfl) (by simp) (AllReadyH.cons (o:={dst:=some 14,op:=_,type:=_,pos:=_,after:=_,guard:=_}) rfl (fun K' hK=>?_) AllReadyH.nil)
  go_simp
  go_at_call 30
  refine(bput_any nu _).mono ?_
  rintro e w4 ⟨v4,rfl,ho,hb⟩
  obtain⟨A11,c11,rfl,hr,-,-,-⟩:=ho.shape' (be_len _ _)
  have HR4x11:=qq hr
  have hx:Below w3.heap.size w3 w4:=hb
  have HR4x0:=qq ((HR3x0.out.below hx).more hx.size)
  have HR4x8:=qq ((HR3x8.out.below hx).more hx.size)
  have HR4x4:=qq ((HR3x4.out.below hx).more hx.size)
  have HB4:=qq (HB3.out.trans (hx.mono HB3.out.size))
  clear hr hx ho hb
  refine hK.out _ _ (HS.out _ HB4.out) (fun hS=>?_)
  clear hK K'
  try simp only[Act.put,qj,qz,qv]
  refine wpAnyH_ready (rs:=[12]) (by kernel_rfl) (by simp) (AllReadyH.cons (o:={dst:=some 15,op:=_,type:=_,pos:=_,after:=_,guard:=_}) rfl (fun K' hK=>?_) AllReadyH.nil)
  go_simp
  refine hK.out _ _ (HS.out _ (HB4.out.alloc HB4.out.size _)) (fun hS=>?_)
  clear hK K'
  try simp only[Act.put,qj,qz,qv]
  refine wpAnyH_ready (rs:=[13]) (by kernel_rfl) (by simp) (AllReadyH.cons (o:={dst:=some 16,op:=_,type:=_,pos:=_,after:=_,guard:=_}) rfl (fun K' hK=>?_) AllReadyH.nil)
  go_simp
  go_at_call 29
  refine(concat_four w4 w4.heap.size HR4x0.out HR4x4.out HR4x8.out HR4x11.out (Nat.le_refl _) HG.out.symm (be_len _ _).symm (be_len _ _).symm (be_len _ _).symm (by rw[HG.out,be_len,be_len,be_len];omega)).mono ?_
  rintro e w9 ⟨v9,rfl,ho,hb⟩
  have HO9:=qq (ho.less (show w.heap.size≤w4.heap.size+1 by have:=HB4.out.size;omega))
  have HB9:=qq (HB4.out.trans (hb.mono HB4.out.size))
  clear ho hb
  refine hK.out _ _ (HS.out _ HB9.out) (fun hS=>?_)
  clear hK K'
  try simp only[Act.put,qj,qz,qv]
  refine wpAnyH_take (i:=14) (oi:={dst:=some 2,op:=_,type:=_,pos:=_,after:=_,guard:=_}) (v:=v9) rfl (by kernel_rfl) (by kernel_rfl) (by kernel_rfl) (fun _ _ _ h=>h) (Or.inl ⟨by rfl,?_⟩) hS ?_
  ·intro w' hw'
   go_simp
  try simp only[Act.put,qj,qz,qv]
  refine wpAnyH_done (by kernel_rfl) ?_ _
  refine NoPanic.normal ?_
  go_wp2_with fail
  go_ret
  exact⟨_,rfl,HO9.out.cast (by unfold ctxV groupB;simp only[List.append_assoc]),(HB0.out.trans (HB9.out.mono HB0.out.size))⟩
end Go.Proofs.YtelgjaiknaalkaaDoor
