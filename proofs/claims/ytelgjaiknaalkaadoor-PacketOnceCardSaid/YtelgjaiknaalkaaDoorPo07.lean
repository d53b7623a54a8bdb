/- Lemmas, joined and made smaller by a program. -/
import Derived.Test.YtelgjaiknaalkaaDoorPo06
import Derived.Lib.SlBytesConst
import Derived.Laws.CopyOwn
import Derived.Test.YtelgjaiknaalkaaDoorPo04
import Derived.Test.YtelgjaiknaalkaaDoorPo05
open Go.Lib renaming hid → qq
open List renaming set_cons_zero → qz
set_option linter.unusedVariables false
set_option linter.unusedSimpArgs false
namespace Go.Proofs.YtelgjaiknaalkaaDoor
open Go.RowKit
theorem pts_new(W:World)(B:Nat)(ps:List Pt)(hr:∀u∈ps,Rd b8 W B u.1.1 u.2)(hl:∀u∈ps,u.1.2.1=u.2.length)(hB:B≤W.heap.size):Pts (W.alloc (.cells (ps.map fun u=>sl u.1).toArray 33)) B W.heap.size 0 ps:=
 ⟨fun k u hu=>by
  rw[Nat.zero_add,cell_of_row _ W.heap.size k _ 33 (0,0) (heap_alloc_new W _)]
  simp[hu],by simp,fun u hu=>(hr u hu).alloc hB _,hl⟩
theorem short_n(W:World)(B n:Nat)(ps:List Pt)(cs:Array Value)(hcs:cs=(ps.map fun u=>sl u.1).toArray)(hr:∀u∈ps,Rd b8 W B u.1.1 u.2)(hl:∀u∈ps,u.1.2.1=u.2.length)(hB:B≤W.heap.size)(hn:n=ps.length)(hn2:n≤100000)(xs:List (BitVec 8))(hxs:xs=ps.flatMap fun p=>p.2)(htot:xs.length≤50000000):
 Calls Tryd.prog 87 #[.slice (some ⟨W.heap.size,0,none⟩) n n] (W.alloc (.cells cs 33)) fun e w'=>e= .returned (arrV b8 (sum32 xs))∧Below W.heap.size W w':=by
 subst hcs
 refine(short_any _ B W.heap.size 0 n n ps (pts_new W B ps hr hl hB) (by simp;omega) hn hn2 xs hxs htot).mono ?_
 rintro e w' ⟨rfl,hb⟩
 exact⟨rfl,((Below.refl _ W).alloc (Nat.le_refl _) _).trans (hb.mono (by simp))⟩
theorem short_one(W:World)(B n c:Nat)(A:Option Addr)(xs:List (BitVec 8))(hr:Rd b8 W B A xs)(hB:B≤W.heap.size)(hn:n=xs.length)(htot:xs.length≤50000000):
 Calls Tryd.prog 87 #[.slice (some ⟨W.heap.size,0,none⟩) 1 1] (W.alloc (.cells #[.slice A n c] 33)) fun e w'=>e= .returned (arrV b8 (sum32 xs))∧Below W.heap.size W w':=
 short_n W B 1 [((A,n,c),xs)] _ rfl (by simpa using hr) (by simpa using hn) hB rfl (by omega) xs (by simp) htot
theorem sum32_len(xs:List (BitVec 8)):(sum32 xs).length=32:=by
 unfold sum32
 generalize Sha.pieces _ _ _ _=R
 exact out32_len R
def keyB(key:List (BitVec 8)):List (BitVec 8):=if 64<key.length then sum32 key else key
theorem keyB_le(key:List (BitVec 8)):(keyB key).length≤64:=by
 unfold keyB
 split
 ·rw[sum32_len];omega
 ·omega
def kfill(kk:List (BitVec 8)):List (BitVec 8):=kk++List.replicate (64-kk.length) 0#8
theorem kfill_len(kk:List (BitVec 8))(h:kk.length≤64):(kfill kk).length=64:=by
 unfold kfill;rw[List.length_append,List.length_replicate];omega
def kpad(key:List (BitVec 8))(x:BitVec 8):List (BitVec 8):=(kfill (keyB key)).map (· ^^^x)
theorem kpad_len(key:List (BitVec 8))(x:BitVec 8):(kpad key x).length=64:=by
 unfold kpad;rw[List.length_map,kfill_len _ (keyB_le key)]
def xorTo(l:List (BitVec 8))(x:BitVec 8)(k:Nat):List (BitVec 8):=(l.take k).map (· ^^^x)++l.drop k
theorem xorTo_len(l:List (BitVec 8))(x:BitVec 8)(k:Nat):(xorTo l x k).length=l.length:=by
 unfold xorTo;rw[List.length_append,List.length_map,←List.length_append,List.take_append_drop]
theorem xorTo_at(l:List (BitVec 8))(x:BitVec 8)(k:Nat)(hk:k<l.length):(xorTo l x k).getD k 0#8=l.getD k 0#8:=by
 unfold xorTo
 rw[List.getD,List.getElem?_append_right (by rw[List.length_map,List.length_take];omega),List.length_map,List.length_take,Nat.min_eq_left (by omega),Nat.sub_self,List.getElem?_drop];rfl
theorem xorTo_set(l:List (BitVec 8))(x:BitVec 8)(k:Nat)(hk:k<l.length):(xorTo l x k).set k (l.getD k 0#8^^^x)=xorTo l x (k+1):=by
 have hl:((l.take k).map (· ^^^x)).length=k:=by rw[List.length_map,List.length_take];omega
 unfold xorTo
 rw[List.set_append_right _ _ (by omega),hl,Nat.sub_self,List.take_succ_eq_append_getElem hk,List.map_append,List.append_assoc]
 have e:l.getD k 0#8=l[k]:=by simp[List.getD,List.getElem?_eq_getElem hk]
 rw[List.drop_eq_getElem_cons hk,qz,e]
 rfl
theorem xorTo_all(l:List (BitVec 8))(x:BitVec 8)(k:Nat)(hk:l.length≤k):xorTo l x k=l.map (· ^^^x):=by
 unfold xorTo;rw[List.take_of_length_le hk,List.drop_of_length_le hk,List.append_nil]
theorem own_arr{α:Type}{f:α→Value}{w:World}{B E g n:Nat}{xs:List α}(h:Own f w B E (.slice (some ⟨g,0,none⟩) n n) xs):Arr f w g E xs:=by
 have hn:=h.len
 rcases h.2 with⟨e,_⟩|⟨g',cap,cur,e,hb,hg,hnc,hcm,hs,ht⟩
 ·cases e
 ·injection e with e1 e2 e3
  injection e1 with e1
  injection e1 with e1
  subst e1;subst e3
  unfold Arr
  rw[hg]
  congr 2
  apply Array.ext'
  rw[List.take_of_length_le (by rw[Array.length_toList,hs,hn];exact Nat.le_refl _)]at ht
  rw[ht]
theorem arr_own{α:Type}{f:α→Value}{w:World}{B E g n:Nat}{xs:List α}(h:Arr f w g E xs)(hn:n=xs.length)(hB:B≤g)(hm:n≤maxLen):Own f w B E (.slice (some ⟨g,0,none⟩) n n) xs:=by
 subst hn
 exact⟨by simp,.inr ⟨g,xs.length,_,rfl,hB,h,Nat.le_refl _,hm,by simp,by rw[List.take_of_length_le (by simp)]⟩⟩
theorem splice_fill'(kk:List (BitVec 8))(m:Nat):splice ((List.replicate m 0#8).map b8) 0 (kk.map b8)=(kk++List.replicate (m-kk.length) 0#8).map b8:=by
 unfold splice
 simp[List.drop_replicate]
theorem splice_fill(kk:List (BitVec 8))(h:kk.length≤64):splice ((List.replicate 64 0#8).map b8) 0 (kk.map b8)=(kfill kk).map b8:=splice_fill' kk 64
theorem sizeU8:(Tryd.prog.info? 5).map (·.size)=some 1:=by kernel_rfl
set_option maxRecDepth 100000 in
set_option maxHeartbeats 1000000 in
theorem kpad_small(w:World)(B n c:Nat)(A:Option Addr)(key:List (BitVec 8))(x:BitVec 8)(hr:Rd b8 w B A key)(hB:B≤w.heap.size)(hn:n=key.length)(hs:n≤64):
 Calls Tryd.prog 85 #[.slice A n c,.int .u8 (bv x)] w fun e w'=>∃v,e= .returned v∧Own b8 w' w.heap.size 5 v (kpad key x)∧Below w.heap.size w w':=by
 obtain⟨i0,hi0,hz0,hz1,hz2⟩:=info_parts infoU8
 have HR:=qq hr
 have HKn:=qq hn
 have HKl:=qq (show key.length≤64 by omega)
 have HKb:=qq (show keyB key=key from if_neg (by omega))
 clear hr hn
 go_enter Tryd.func85,Tryd.ntmps85
 go_wp2_with (first
  |(refine wpList_make_full _ rfl (.const (.int .i64 64)) (.const (.int .i64 64)) 33 rfl w.heap.size 5 i0 _ 1 Tryd.underlying33 hi0 hz0 hz1 .i64 .i64 64 64 64 rfl rfl rfl rfl (by rw[hz2];omega) (by simp[maxLen]) (by omega) ?_;intro w3 hown3 hg3;have HO3:=qq (own_arr (own_zeros' hown3));have HG3:=qq (show Below w.heap.size w w3 from(Below.refl w.heap.size w).grown hg3 (by omega) (fun k e=>by cases e));have HR3:=qq (show Rd b8 w3 B A key from(HR.out).grown hg3 hB (fun a e=>by simp));have hs3:=hg3.size;clear hown3 hg3)
  |(refine wpList_copy_splice (o:=⟨some 18,_,_,_,_,_⟩) rfl (.tmp 16) (.tmp 17) 33 33 rfl 5 Tryd.underlying33 sizeU8 (some ⟨w.heap.size,0,none⟩) A 64 64 n c rfl rfl w.heap.size 0 ((List.replicate 64 0#8).map b8) 5 HO3.out ((key).map b8) (by rw[List.length_map,←HKn.out];exact(Nat.min_eq_left (by have:=HKl.out;have:=HKn.out;omega)).symm) (fun hp=>⟨rfl,by obtain⟨b',off',e',hb',hc'⟩:=HR3.out (by simpa using hp);exact⟨_,e',HR3.out.cells e'⟩⟩) (by rw[List.length_map,List.length_map,List.length_replicate];have:=HKl.out;omega) (fun v hv=>by obtain⟨x,-,rfl⟩:=List.mem_map.1 hv;exact b8_one x) w.heap.size w HG3.out (Below.size (Below.refl w.heap.size w)) ?_;intro w4 hx4 hb4;have HX4:=qq (show Arr b8 w4 w.heap.size 5 (kfill (key))from by have:=hx4.out;rw[splice_fill _ HKl.out]at this;exact this);have HB4:=qq hb4;clear hx4 hb4))
 have HF:=qq (show Arr b8 w4 w.heap.size 5 (xorTo (kfill (key)) x 0)from HX4.out.cast (by unfold xorTo;simp))
 have HFl:=qq (kfill_len (key) HKl.out)
 clear HX4 HO3 HG3 HR3
 go_loopw [21] (fun v wr=>∃k:Nat,k≤64∧v= .int .i64 k∧Arr b8 wr w.heap.size 5 (xorTo (kfill (key)) x k)∧Below w.heap.size w wr) (fun v _=>64-(intOf v).toNat)
 case atStart=>exact⟨0,by omega,rfl,HF.out,HB4.out⟩
 case round=>
  clear HF HB4
  obtain⟨k,hk,rfl,ha,hb⟩:=hrel
  have HA:=qq ha
  have HB:=qq hb
  clear ha hb
  by_cases hlt:k<64
  ·have c1:=HA.out.cellD (k:=k) (by rw[xorTo_len,HFl.out];exact hlt) 0#8
   have f1:=HA.out.frozen k
   have hs:=xorTo_set (kfill (key)) x k (by rw[HFl.out];exact hlt)
   rw[xorTo_at _ _ _ (by rw[HFl.out];exact hlt)]at c1
   generalize(kfill (key)).getD k 0#8=y at c1 hs
   simp only[b8]at c1
   have lk:(k:Int)<64:=by omega
   have Hs:=qq hs
   clear hs
   go_wp2_with fail
   go_roundw
   case rel=>exact⟨k+1,by omega,by go_num,(HA.out.set_ k (y^^^x)).cast Hs.out,HB.out.setCell (p:=⟨w.heap.size,k,none⟩) (Below.size (Below.refl w.heap.size w)) _⟩
   case measure=>simp[intOf];omega
  ·obtain rfl:k=64:=by omega
   rw[show(((64:Nat)):Int)=64 from rfl]
   go_wp2_with fail
   go_ret
   refine⟨_,rfl,arr_own (HA.out.cast ?_) (by rw[kpad_len]) (Below.size (Below.refl w.heap.size w)) (by simp[maxLen]),HB.out⟩
   rw[xorTo_all _ _ _ (by rw[HFl.out];exact Nat.le_refl _)]
   unfold kpad
   rw[HKb.out]
set_option maxRecDepth 100000 in
set_option maxHeartbeats 1000000 in
theorem kpad_great(w:World)(B n c:Nat)(A:Option Addr)(key:List (BitVec 8))(x:BitVec 8)(hr:Rd b8 w B A key)(hB:B≤w.heap.size)(hn:n=key.length)(hs:64<n)(hbig:n≤50000000):
 Calls Tryd.prog 85 #[.slice A n c,.int .u8 (bv x)] w fun e w'=>∃v,e= .returned v∧Own b8 w' w.heap.size 5 v (kpad key x)∧Below w.heap.size w w':=by
 obtain⟨i0,hi0,hz0,hz1,hz2⟩:=info_parts infoU8
 obtain⟨S,hS⟩:∃S,S=sum32 key:=⟨_,rfl⟩
 have hsh:=short_one w B n c A key hr hB hn (by omega)
 rw[←hS,arrV_mk]at hsh
 have hSl:S.length=32:=by rw[hS,sum32_len]
 have HSh:=qq hsh
 have HKl:=qq (show S.length≤64 by omega)
 have HKn:=qq (show 32=S.length by omega)
 have HKb:=qq (show keyB key=S by unfold keyB;rw[if_pos (by omega),hS])
 clear hr hn hsh hS hSl
 go_enter Tryd.func85,Tryd.ntmps85
 go_wp2_with fail
 refine HSh.out.mono ?_
 rintro e w1 ⟨rfl,hb1⟩
 have hz1':=hb1.size
 have HB1:=qq hb1
 have HS0:=qq (Arr.new b8 w1 29 (List.replicate 32 0#8))
 clear hb1
 go_wp2_with (first
  |(refine wpList_store_arr rfl 29 (.tmp 5) (.tmp 13) rfl w1.heap.size rfl S rfl _ _ HS0.out (by rw[←HKn.out];rfl) (by rw[size32,HKn.out]) b8_one' ?_;intro w2 hx2 hg2;have HX2:=qq (hx2.rd 0);have HB2:=qq ((HB1.out.alloc hz1' (.cells ((List.replicate 32 0#8).map b8).toArray 29)).grown hg2 (by simp;omega) (fun k e=>by cases e;exact hz1'));have hz2':w1.heap.size<w2.heap.size:=hx2.lt;clear hx2 hg2 HS0 HB1)
  |(refine wpList_make_full _ rfl (.const (.int .i64 64)) (.const (.int .i64 64)) 33 rfl w.heap.size 5 i0 _ 1 Tryd.underlying33 hi0 hz0 hz1 .i64 .i64 64 64 64 rfl rfl rfl rfl (by rw[hz2];omega) (by simp[maxLen]) (by omega) ?_;intro w3 hown3 hg3;have HO3:=qq (own_arr (own_zeros' hown3));have HG3:=qq (show Below w.heap.size w w3 from(HB2.out).grown hg3 (by omega) (fun k e=>by cases e));have HR3:=qq (show Rd b8 w3 (w1.heap.size+1) (some ⟨w1.heap.size,0,none⟩) S from(HX2.out).grown hg3 hz2' (fun a e=>by simp));have hs3:=hg3.size;clear hown3 hg3)
  |(refine wpList_copy_splice (o:=⟨some 18,_,_,_,_,_⟩) rfl (.tmp 16) (.tmp 17) 33 33 rfl 5 Tryd.underlying33 sizeU8 (some ⟨w2.heap.size,0,none⟩) (some ⟨w1.heap.size,0,none⟩) 64 64 32 32 rfl rfl w2.heap.size 0 ((List.replicate 64 0#8).map b8) 5 HO3.out ((S).map b8) (by rw[List.length_map,←HKn.out];exact(Nat.min_eq_left (by have:=HKl.out;have:=HKn.out;omega)).symm) (fun hp=>⟨rfl,by obtain⟨b',off',e',hb',hc'⟩:=HR3.out (by simpa using hp);exact⟨_,e',HR3.out.cells e'⟩⟩) (by rw[List.length_map,List.length_map,List.length_replicate];have:=HKl.out;omega) (fun v hv=>by obtain⟨x,-,rfl⟩:=List.mem_map.1 hv;exact b8_one x) w.heap.size w HG3.out (Below.size (HB2.out)) ?_;intro w4 hx4 hb4;have HX4:=qq (show Arr b8 w4 w2.heap.size 5 (kfill (S))from by have:=hx4.out;rw[splice_fill _ HKl.out]at this;exact this);have HB4:=qq hb4;clear hx4 hb4))
 have HF:=qq (show Arr b8 w4 w2.heap.size 5 (xorTo (kfill (S)) x 0)from HX4.out.cast (by unfold xorTo;simp))
 have HFl:=qq (kfill_len (S) HKl.out)
 clear HX4 HO3 HG3 HR3
 go_loopw [21] (fun v wr=>∃k:Nat,k≤64∧v= .int .i64 k∧Arr b8 wr w2.heap.size 5 (xorTo (kfill (S)) x k)∧Below w.heap.size w wr) (fun v _=>64-(intOf v).toNat)
 case atStart=>exact⟨0,by omega,rfl,HF.out,HB4.out⟩
 case round=>
  clear HF HB4
  obtain⟨k,hk,rfl,ha,hb⟩:=hrel
  have HA:=qq ha
  have HB:=qq hb
  clear ha hb
  by_cases hlt:k<64
  ·have c1:=HA.out.cellD (k:=k) (by rw[xorTo_len,HFl.out];exact hlt) 0#8
   have f1:=HA.out.frozen k
   have hs:=xorTo_set (kfill (S)) x k (by rw[HFl.out];exact hlt)
   rw[xorTo_at _ _ _ (by rw[HFl.out];exact hlt)]at c1
   generalize(kfill (S)).getD k 0#8=y at c1 hs
   simp only[b8]at c1
   have lk:(k:Int)<64:=by omega
   have Hs:=qq hs
   clear hs
   go_wp2_with fail
   go_roundw
   case rel=>exact⟨k+1,by omega,by go_num,(HA.out.set_ k (y^^^x)).cast Hs.out,HB.out.setCell (p:=⟨w2.heap.size,k,none⟩) (Below.size (HB2.out)) _⟩
   case measure=>simp[intOf];omega
  ·obtain rfl:k=64:=by omega
   rw[show(((64:Nat)):Int)=64 from rfl]
   go_wp2_with fail
   go_ret
   refine⟨_,rfl,arr_own (HA.out.cast ?_) (by rw[kpad_len]) (Below.size (HB2.out)) (by simp[maxLen]),HB.out⟩
   rw[xorTo_all _ _ _ (by rw[HFl.out];exact Nat.le_refl _)]
   unfold kpad
   rw[HKb.out]
theorem kpad_any(w:World)(B n c:Nat)(A:Option Addr)(key:List (BitVec 8))(x:BitVec 8)(hr:Rd b8 w B A key)(hB:B≤w.heap.size)(hn:n=key.length)(hbig:n≤50000000):
 Calls Tryd.prog 85 #[.slice A n c,.int .u8 (bv x)] w fun e w'=>∃v,e= .returned v∧Own b8 w' w.heap.size 5 v (kpad key x)∧Below w.heap.size w w':=by
 by_cases h:n≤64
 ·exact kpad_small w B n c A key x hr hB hn h
 ·exact kpad_great w B n c A key x hr hB hn (by omega) hbig
def tagV(key text:List (BitVec 8)):List (BitVec 8):=sum32 (kpad key 92#8++sum32 (kpad key 54#8++text))
theorem tagV_len(key text:List (BitVec 8)):(tagV key text).length=32:=sum32_len _
theorem short_two(W:World)(B n c m d:Nat)(A C:Option Addr)(xs ys:List (BitVec 8))(hr:Rd b8 W B A xs)(hr2:Rd b8 W B C ys)(hB:B≤W.heap.size)(hn:n=xs.length)(hm:m=ys.length)(htot:xs.length+ys.length≤50000000):
 Calls Tryd.prog 87 #[.slice (some ⟨W.heap.size,0,none⟩) 2 2] (W.alloc (.cells #[.slice A n c,.slice C m d] 33)) fun e w'=>e= .returned (arrV b8 (sum32 (xs++ys)))∧Below W.heap.size W w':=
 short_n W B 2 [((A,n,c),xs),((C,m,d),ys)] _ rfl (by simpa using⟨hr,hr2⟩) (by simpa using⟨hn,hm⟩) hB rfl (by omega) (xs++ys) (by simp) (by simpa using htot)
set_option maxRecDepth 100000 in
set_option maxHeartbeats 1000000 in
theorem tag_any(w:World)(Bk n c:Nat)(A:Option Addr)(key:List (BitVec 8))(hk:Rd b8 w Bk A key)(hBk:Bk≤w.heap.size)(hn:n=key.length)(hkb:key.length≤40000000)
 (B b off d m:Nat)(ps:List Pt)(hp:Pts w B b off ps)(hB:B≤w.heap.size)(hm:m=ps.length)(hm2:m≤100000)(xs:List (BitVec 8))(hxs:xs=ps.flatMap fun p=>p.2)(htot:xs.length≤40000000):
 Calls Tryd.prog 82 #[.slice A n c,.slice (some ⟨b,off,none⟩) m d] w fun e w'=>e= .returned (arrV b8 (tagV key xs))∧Below w.heap.size w w':=by
 have HK:=qq hk
 have HN:=qq hn
 have HP:=qq hp
 have HM:=qq hm
 have HX:=qq hxs
 have HT:=qq htot
 have hnb:n≤40000000:=by omega
 have HO0:=qq (Arr.new b8 w 29 (List.replicate 32 0#8))
 clear hk hn hp hm hxs htot hkb
 go_enter Tryd.func82,Tryd.ntmps82
 go_wp2_with fail
 refine(new_any _).mono ?_
 rintro e w1 ⟨rfl,hd1,hb1⟩
 have hz1:=hb1.size
 rw[World.size_alloc]at hd1 hb1 hz1
 have HD1:=qq (show DigT w1 (w.heap.size+1) (w.heap.size+1) []from DigT.nil_ hd1)
 have hl1:w.heap.size+1<w1.heap.size:=hd1.lt
 have HO1:=qq (HO0.out.below hb1 (by omega))
 have HB1:=qq (Below.trans ((Below.refl _ w).alloc (Nat.le_refl _) _) (hb1.mono (Nat.le_succ _)))
 clear hd1 hb1 HO0
 have hpk:=fun x W (hW:Below w.heap.size w W)=>kpad_any W Bk n c A key x (HK.out.below (hW.mono hBk)) (Nat.le_trans hBk hW.size) HN.out (by omega)
 have HPk:=qq hpk
 clear hpk
 have hpk1:=HPk.out 54#8 w1 HB1.out
 rw[show bv 54#8=54 from rfl]at hpk1
 have HPk1:=qq hpk1
 clear hpk1
 go_wp2_with fail
 refine HPk1.out.mono ?_
 rintro e w2 ⟨v2,rfl,hown2,hb2⟩
 obtain⟨g2,c2,rfl,hg2,hg2l,-⟩:=hown2.form' (kpad_len key 54#8) (by omega)
 have hz2:=hb2.size
 have HD2:=qq (HD1.out.below hb2 (Nat.le_refl _))
 have HO2:=qq (HO1.out.below hb2 (by omega))
 have HB2:=qq (HB1.out.trans (hb2.mono (by omega)))
 have hadd:=add_any w2 (w.heap.size+1) (w.heap.size+1) w2.heap.size 64 c2 (some ⟨g2,0,none⟩) [] (kpad key 54#8) HD2.out (by omega) hown2.rd (Nat.le_refl _) (by rw[kpad_len]) (fun a _ e=>by cases e;show g2≠_;omega) (by rw[kpad_len];simp)
 rw[List.nil_append]at hadd
 have HAdd:=qq hadd
 clear hown2 hb2 hadd HD1 HO1 HB1 HPk1
 go_wp2_with fail
 refine HAdd.out.mono ?_
 rintro e w3 ⟨rfl,hd3,hg3⟩
 have hz3:=hg3.size
 have HD3:=qq (show DigT w3 (w.heap.size+1) (w.heap.size+1) (kpad key 54#8++allTo ps 0)from(by unfold allTo;simpa using hd3.less (B':=w.heap.size+1) (by omega)))
 have HO3:=qq (HO2.out.grown hg3 (by simp))
 have HB3:=qq (HB2.out.grown hg3 HB2.out.size (fun k e=>by cases e;omega))
 clear hd3 hg3 HD2 HO2 HB2 HAdd
 go_wp2_with fail
 go_loopw [16] (fun v wr=>∃k:Nat,k≤m∧v= .int .i64 k∧DigT wr (w.heap.size+1) (w.heap.size+1) (kpad key 54#8++allTo ps k)∧Arr b8 wr w.heap.size 29 (List.replicate 32 0#8)∧Below w.heap.size w wr) (fun v _=>m-(intOf v).toNat)
 case atStart=>exact⟨0,by omega,rfl,HD3.out,HO3.out,HB3.out⟩
 case round=>
  clear HD3 HO3 HB3
  obtain⟨k,hk,rfl,hd,ho,hb⟩:=hrel
  have HD:=qq hd
  have HO:=qq ho
  have HB:=qq hb
  have hz:=hd.lt
  clear hd ho hb
  by_cases hlt:k<m
  ·have hk':k<ps.length:=by rw[←HM.out];exact hlt
   have hp2:=HP.out.below HB.out hB HP.out.lt
   have h1:=hp2.row k _ (List.getElem?_eq_getElem hk')
   have h2:=hp2.len _ (List.getElem_mem hk')
   have h3:=hp2.rd _ (List.getElem_mem hk')
   have h4:=lenTo_mono ps (k+1) ps.length (by omega)
   rw[lenTo_all,lenTo_succ ps k hk',←HX.out]at h4
   have h5:=HT.out
   have h6:=allTo_succ ps k hk'
   have h7:=allTo_len ps k
   obtain⟨⟨⟨A',m',cc⟩,ys⟩,hu⟩:∃u,ps[k]=u:=⟨_,rfl⟩
   rw[hu]at h1 h2 h3 h4 h6
   simp only[sl]at h1 h2 h3 h4 h6
   have hc:=add_any wr (w.heap.size+1) (w.heap.size+1) B m' cc A' (kpad key 54#8++allTo ps k) ys HD.out (by omega) h3 (by omega) h2 (fun a hl e=>by
    obtain⟨b',off',e',hb',-⟩:=h3 hl
    rw[e]at e';cases e'
    show b'≠_;omega) (by rw[List.length_append,kpad_len];omega)
   rw[List.append_assoc,←h6]at hc
   have HC:=qq hc
   clear hp2 h2 h3 h4 h5 h6 h7 hu hc
   go_wp2_with fail
   refine HC.out.mono ?_
   rintro e w2 ⟨rfl,hd2,hg2⟩
   have HD2:=qq (hd2.less (B':=w.heap.size+1) (by omega))
   have HO2:=qq (HO.out.grown hg2 (by simp))
   have HB2:=qq (HB.out.grown hg2 HB.out.size (fun k e=>by cases e;omega))
   clear hd2 hg2
   go_wp2_with fail
   go_roundw
   case rel=>exact⟨k+1,by omega,by go_num,HD2.out,HO2.out,HB2.out⟩
   case measure=>simp[intOf];omega
  ·obtain rfl:k=m:=by omega
   have hall:allTo ps k=xs:=by unfold allTo;rw[HM.out,List.take_length,HX.out]
   have hd:=HD.out
   rw[hall]at hd
   obtain⟨S,hS⟩:∃S,S=sum32 (kpad key 54#8++xs):=⟨_,rfl⟩
   have hs:=sum_any wr (w.heap.size+1) (w.heap.size+1) (kpad key 54#8++xs) hd (by rw[List.length_append,kpad_len];have:=HT.out;omega)
   rw[arrV_mk,←hS]at hs
   have HS:=qq hs
   have HSe:=qq hS
   have HSl:=qq (show S.length=32 by rw[hS];exact sum32_len _)
   clear hall hd hs hS
   go_wp2_with fail
   refine HS.out.mono ?_
   rintro e w5 ⟨rfl,hb5⟩
   have hz5:=hb5.size
   have HO5:=qq (HO.out.below hb5 (by omega))
   have HB5:=qq (HB.out.trans (hb5.mono HB.out.size))
   have HT5:=qq (Arr.new b8 w5 29 (List.replicate 32 0#8))
   clear hb5 HO HB HD HS
   go_wp2_with (refine wpList_store_arr rfl 29 (.tmp 8) (.tmp 25) rfl w5.heap.size rfl S rfl _ _ HT5.out (by rw[HSl.out];rfl) (by rw[size32,HSl.out]) b8_one' ?_;intro w6 hx6 hg6)
   have hz6:w5.heap.size<w6.heap.size:=hx6.lt
   have HS6:=qq hx6
   have HO6:=qq ((HO5.out.alloc (.cells ((List.replicate 32 0#8).map b8).toArray 29)).grown hg6 (by simp;omega))
   have HB6:=qq ((HB5.out.alloc HB5.out.size (.cells ((List.replicate 32 0#8).map b8).toArray 29)).grown hg6 (by simp;omega) (fun k e=>by cases e;omega))
   clear hx6 hg6 HT5 HO5 HB5
   have hpk2:=HPk.out 92#8 w6.drew HB6.out.drew
   rw[show bv 92#8=92 from rfl]at hpk2
   have HPk2:=qq hpk2
   obtain⟨Z,hZ⟩:∃Z,Z=(tagV key xs).map b8:=⟨_,rfl⟩
   have hZl:Z.length=32:=by rw[hZ,List.length_map,tagV_len]
   have hZi:(Tryd.prog.info? 29).map (·.size)=some Z.length:=by rw[hZl];exact size32
   have hZo:∀v∈Z,v.oneCell'=true:=by rw[hZ];intro v hv;obtain⟨u,-,rfl⟩:=List.mem_map.1 hv;exact b8_one u
   have hsh:∀(W:World) (g7 c7:Nat),Rd b8 W W.heap.size (some ⟨g7,0,none⟩) (kpad key 92#8)→Rd b8 W W.heap.size (some ⟨w5.heap.size,0,none⟩) S→Calls Tryd.prog 87 #[.slice (some ⟨W.heap.size,0,none⟩) 2 2] (W.alloc (.cells #[.slice (some ⟨g7,0,none⟩) 64 c7,.slice (some ⟨w5.heap.size,0,none⟩) 32 32] 33)) fun e w'=>e= .returned (.agg Z.toArray)∧Below W.heap.size W w':=fun W g7 c7 h1 h2=>by
    have:=short_two W W.heap.size 64 c7 32 32 _ _ _ _ h1 h2 (Nat.le_refl _) (by rw[kpad_len]) HSl.out.symm (by rw[kpad_len,HSl.out];omega)
    rwa[arrV_mk,HSe.out,show sum32 (kpad key 92#8++sum32 (kpad key 54#8++xs))=tagV key xs from rfl,←hZ]at this
   have HSh:=qq hsh
   have HZ:=qq hZ
   clear hpk2 hsh hZ
   go_frame
   go_region_held3 (fun _=>True) (trivial)
    (first
     |(go_simp;refine HPk2.out.mono ?_;rintro e w7 ⟨v7,rfl,hown7,hb7⟩;obtain⟨g7,c7,rfl,hg7,hg7l,-⟩:=hown7.form' (kpad_len key 92#8) (by omega);have HO7:=qq (hown7.less (Nat.zero_le _));have hz7:w6.heap.size≤w7.heap.size:=hb7.size;have HB7:=qq hb7;clear hown7 hb7)
     |(go_simp;refine(HSh.out w7 g7 c7 HO7.out.rd (((HS6.out.drew.below HB7.out hz6).rd 0).more (by omega))).mono ?_;rintro e w8 ⟨rfl,hb8⟩;have HA8:=qq ((HO6.out.drew.below HB7.out (by show w.heap.size<w6.heap.size;omega)).below hb8 (by omega));have ht8:w8.there w.heap.size 0 32:=HA8.out.there (Nat.le_refl _);have HB8:=qq hb8;clear hb8))
   obtain⟨hx9,hg9⟩:=arr_setCells (f:=b8) (tagV key xs) [] _ w8 (by rw[tagV_len];rfl) HA8.out
   rw[←HZ.out]at hx9 hg9
   go_wp2_with fail
   refine bodyPost_ret (v:=arrV b8 (tagV key xs)) (results_arr (g:=w.heap.size) rfl _ _ _ _ _ rfl hx9 Tryd.underlying29 rfl (by rw[tagV_len];exact size32)) rfl ?_
   refine⟨rfl,?_⟩
   have hb68:Below w6.heap.size w6 w8:=(((Below.refl _ w6).drew).trans HB7.out).trans (HB8.out.mono hz7)
   have hbw:=HB6.out.trans (hb68.mono HB6.out.size)
   exact hbw.grown hg9 hbw.size (fun k e=>by cases e;omega)
theorem tag_three(W:World)(Bk n c B m1 d1 m2 d2 m3 d3:Nat)(A C1 C2 C3:Option Addr)(key xs ys zs:List (BitVec 8))(hk:Rd b8 W Bk A key)(hBk:Bk≤W.heap.size)(hn:n=key.length)(hkb:key.length≤40000000)(hr1:Rd b8 W B C1 xs)(hr2:Rd b8 W B C2 ys)(hr3:Rd b8 W B C3 zs)(hB:B≤W.heap.size)(hm1:m1=xs.length)(hm2:m2=ys.length)(hm3:m3=zs.length)(htot:xs.length+ys.length+zs.length≤40000000):
 Calls Tryd.prog 82 #[.slice A n c,.slice (some ⟨W.heap.size,0,none⟩) 3 3] (W.alloc (.cells #[.slice C1 m1 d1,.slice C2 m2 d2,.slice C3 m3 d3] 33)) fun e w'=>e= .returned (arrV b8 (tagV key (xs++ys++zs)))∧Below W.heap.size W w':=by
 refine(tag_any _ Bk n c A key (hk.alloc hBk _) (by simp;omega) hn hkb B W.heap.size 0 3 3 _ (pts_new W B [((C1,m1,d1),xs),((C2,m2,d2),ys),((C3,m3,d3),zs)] (by simpa using⟨hr1,hr2,hr3⟩) (by simpa using⟨hm1,hm2,hm3⟩) hB) (by simp;omega) rfl (by omega) (xs++ys++zs) (by simp) (by simp;omega)).mono ?_
 rintro e w' ⟨rfl,hb⟩
 exact⟨rfl,((Below.refl _ W).alloc (Nat.le_refl _) _).trans (hb.mono (by simp))⟩
def tagI(key inf:List (BitVec 8)):Nat→List (BitVec 8)
 |0=> []
 |i+1=>tagV key (tagI key inf i++inf++ [BitVec.ofInt 8 ((i:Int)+1)])
def exA(key inf:List (BitVec 8)):Nat→List (BitVec 8)
 |0=> []
 |i+1=>exA key inf i++tagI key inf (i+1)
theorem tagI_len(key inf:List (BitVec 8))(i:Nat):(tagI key inf (i+1)).length=32:=tagV_len _ _
theorem tagI_le(key inf:List (BitVec 8))(i:Nat):(tagI key inf i).length≤32:=by
 cases i with
 |zero=>simp[tagI]
 |succ i=>rw[tagI_len];exact Nat.le_refl _
theorem exA_len(key inf:List (BitVec 8))(i:Nat):(exA key inf i).length=32*i:=by
 induction i with
 |zero=>rfl
 |succ i ih=>simp only[exA,List.length_append,ih,tagI_len];omega
theorem exA_take(key inf:List (BitVec 8))(i j n:Nat)(hij:i≤j)(hn:n≤32*i):(exA key inf j).take n=(exA key inf i).take n:=by
 induction j with
 |zero=>have:i=0:=by omega
        subst this;rfl
 |succ j ih=>
  rcases Nat.lt_or_ge i (j+1)with h|h
  ·simp only[exA]
   rw[List.take_append_of_le_length (by rw[exA_len];omega)]
   exact ih (by omega)
  ·have:i=j+1:=by omega
   subst this;rfl
def expV(key inf:List (BitVec 8))(n:Nat):List (BitVec 8):=(exA key inf 255).take n
theorem expV_len(key inf:List (BitVec 8))(n:Nat)(h:n≤8160):(expV key inf n).length=n:=by
 unfold expV;rw[List.length_take,exA_len];omega
theorem expV_of(key inf:List (BitVec 8))(i n:Nat)(hi:i≤255)(hn:n≤32*i):expV key inf n=(exA key inf i).take n:=exA_take key inf i 255 n hi hn
def exL(key inf:List (BitVec 8))(l:List Nat):List (BitVec 8):=l.flatMap (tagI key inf)
theorem exL_snoc(key inf:List (BitVec 8))(l:List Nat)(i:Nat):exL key inf (l++ [i])=exL key inf l++tagI key inf i:=by unfold exL;rw[List.flatMap_append];simp
theorem exL_len(key inf:List (BitVec 8))(l:List Nat)(h:∀i∈l,1≤i):(exL key inf l).length=32*l.length:=by
 induction l with
 |nil=>rfl
 |cons i l ih=>
  have h1:(tagI key inf i).length=32:=by
   obtain⟨j,rfl⟩:∃j,i=j+1:=⟨i-1,by have:=h i (by simp);omega⟩
   exact tagI_len _ _ _
  have h2:=ih (fun j hj=>h j (by simp[hj]))
  unfold exL at h2 ⊢
  rw[List.flatMap_cons,List.length_append,h1,h2,List.length_cons];omega
theorem exL_range(key inf:List (BitVec 8))(k:Nat):exL key inf (List.range' 1 k)=exA key inf k:=by
 induction k with
 |zero=>rfl
 |succ k ih=>rw[List.range'_concat,exL_snoc,ih,show 1+1*k=k+1 by omega];rfl
end Go.Proofs.YtelgjaiknaalkaaDoor
