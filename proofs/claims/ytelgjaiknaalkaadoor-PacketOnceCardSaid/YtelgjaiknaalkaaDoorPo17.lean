/- Lemmas, joined and made smaller by a program. -/
import Derived.Test.YtelgjaiknaalkaaDoorPo16
import Derived.Test.YtelgjaiknaalkaaDoorPo04
import Derived.Test.YtelgjaiknaalkaaDoorPo01
import Derived.Lib.TrailingZeros
import Derived.Test.YtelgjaiknaalkaaDoorRows
import Derived.Shelf.Spec.TrailingZeros
import Derived.Lib.Hide
import Derived.WalkSpells
import Derived.WalkLawsBesides
import Derived.WalkKit
open Go.Lib renaming hid → qq
set_option linter.unusedVariables false
set_option linter.unusedSimpArgs false
namespace Go.Proofs.YtelgjaiknaalkaaDoor
open Go.RowKit
theorem takeO_lens{l:LineM}(h:LOK l){n:Int}(hE:takeE l n=0):(takeO l n).key.length=32∧(takeO l n).nonce.length=12:=by
 by_cases hlo:n<l.place
 ·obtain⟨n0,n1,nh,nl,na,nf⟩:=takeE_zero hE
  have hk:=h.hi
  obtain⟨o,ho,he⟩:=h.all n nl hlo na (by omega)
  rw[takeO_low h hlo hE ho he]
  exact⟨(h.held o ho).2.2.2.2.1,(h.held o ho).2.2.2.2.2⟩
 ·rw[takeO_run (k:=(n-l.place).toNat) (by omega) hE]
  exact⟨ofL_key _ _,ofL_nonce _ _⟩
theorem onceC_33(no:Int)(key:List (BitVec 8))(v:Value)(h:key.length=32):(onceC no key v)[33]?=some v:=by
 unfold onceC
 rw[List.getElem?_cons_succ,List.getElem?_append_right (by simp[h])]
 simp[h]
theorem onceC_set33(no:Int)(key:List (BitVec 8))(v v':Value)(h:key.length=32):(onceC no key v).set 33 v'=onceC no key v':=by
 unfold onceC
 simp[List.set_append,h]
set_option maxRecDepth 100000 in
theorem clone_nil(w:World):Calls Tryd.prog 37 #[.slice none 0 0] w fun e w'=>e= .returned (.slice none 0 0)∧w=w':=by
 have hne:=fun w=>Lib.run_eql_slice_nil (P:=Tryd.prog) w 33 5 none 0 0 0 0 Tryd.underlying33
 go_enter Tryd.func37,Tryd.ntmps37
 go_wp2_with fail
 go_ret
 exact⟨rfl,rfl⟩
set_option maxRecDepth 100000
set_option maxHeartbeats 4000000 in
theorem look_bad(w:World)(gC gl:Nat)(xs:List LP)(hc:ChAt w gC gl xs)(i:Nat)(hi:i<xs.length)(hm:xs.length≤1000)(n:Int)(hE:takeE xs[i].l n≠0):
 Calls Tryd.prog 20 #[.pointer (some ⟨gC,0,none⟩),.int .i64 (i:Int),.int .i64 n] w fun e w'=>e= .returned (.tuple #[.agg zeroOnce.toArray,errV (takeE xs[i].l n)])∧Below w.heap.size w w':=by
 obtain⟨w1,hw1⟩:∃w1,w1=w.alloc (.cells zeroOnce.toArray 56):=⟨_,rfl⟩
 have HZ1:=qq (show Blk w1 w.heap.size 56 zeroOnce by rw[hw1];exact Blk.new _ _ _)
 have HK1:=qq (show Below w.heap.size w w1 by rw[hw1];exact(Below.refl _ w).alloc (Nat.le_refl _) _)
 have hz1:w1.heap.size=w.heap.size+1:=by rw[hw1];simp
 have HW1:=qq hw1
 clear hw1
 have HC1:=qq (hc.below HK1.out)
 have HL:=qq (line_any w1 gC gl xs HC1.out i hi hm)
 have hx:=hc.ok _ (List.getElem_mem hi)
 obtain⟨x,hxe⟩:∃x,x=xs[i]:=⟨_,rfl⟩
 rw[←hxe]at hx
 have HXe:=qq hxe
 have HX:=qq hx
 have hh:=HC1.out.held _ (List.getElem_mem hi)
 have hr:=HC1.out.range i hi
 rw[←hxe]at hh hr
 have HCp:=qq (copied_any w1 gl (i*37) x.t x.h x.s x.l.link x.l.place x.gm hr hx.lok.len HC1.out.lines.lt _ hh.map)
 have HH1:=qq hh
 have HC0:=qq hc
 rw[←hxe]at hE ⊢
 have HNe:=qq (errV_pos hE)
 have HE:=qq hE
 clear hxe hx hh hr hE hc
 generalize hEE:takeE x.l n=E at HNe HE ⊢
 have HEE:=qq hEE
 clear hEE
 go_enter Tryd.func20,Tryd.ntmps20
 go_upto_region 1 with fail
 have hw1:=HW1.out
 simp only[show zeroOnce.toArray= #[Value.int .i64 0,Value.int .u8 0,Value.int .u8 0,Value.int .u8 0,Value.int .u8 0,Value.int .u8 0,Value.int .u8 0,Value.int .u8 0,Value.int .u8 0,Value.int .u8 0,Value.int .u8 0,Value.int .u8 0,Value.int .u8 0,Value.int .u8 0,Value.int .u8 0,Value.int .u8 0,Value.int .u8 0,Value.int .u8 0,Value.int .u8 0,Value.int .u8 0,Value.int .u8 0,Value.int .u8 0,Value.int .u8 0,Value.int .u8 0,Value.int .u8 0,Value.int .u8 0,Value.int .u8 0,Value.int .u8 0,Value.int .u8 0,Value.int .u8 0,Value.int .u8 0,Value.int .u8 0,Value.int .u8 0,Value.slice none 0 0]from rfl]at hw1
 rw[←hw1]
 clear hw1
 go_wp2_with fail
 refine HL.out.mono ?_
 rintro e w2 ⟨rfl,rfl⟩
 go_wp2_with fail
 refine HCp.out.mono ?_
 rintro e w2 ⟨gn,mn,rfl,hgn,hmn,hB2,hM2,hb2⟩
 have hH2:HeldAt w2 mn x.hp:=⟨hM2,fun p hp=>(HH1.out.mem p hp).below hb2 (HH1.out.mem p hp).lt⟩
 have HT:=qq (take_any w2 gn ⟨x.l,x.hp,mn,x.t,x.h,x.s,x.M⟩ ⟨HX.out.lok,HX.out.marks,HX.out.fst,HX.out.nd⟩ hB2 hH2 n w1.heap.size ⟨hgn,hmn,hb2.size⟩)
 have HB2:=qq hb2
 have HZ2:=qq (HZ1.out.below hb2 (by omega))
 have hz2:=hb2.size
 clear hB2 hM2 hb2 hH2
 go_wp2_with fail
 refine HT.out.mono ?_
 rintro e w3 ⟨h1,-,hb3⟩
 have h1:=h1 (by show takeE x.l n≠0;rw[HEE.out];exact HE.out)
 rw[show takeE (LP.l ⟨x.l,x.hp,mn,x.t,x.h,x.s,x.M⟩) n=E from HEE.out,HNe.out]at h1
 subst h1
 have HZ3:=qq (HZ2.out.below hb3 (by omega))
 have hz3:=hb3.size
 have HB3:=qq (show Below w.heap.size w w3 from HK1.out.trans ((HB2.out.trans hb3).mono (by omega)))
 have HZa:=qq (show Blk (w3.alloc (.cells zeroOnce.toArray 56)) w3.heap.size 56 zeroOnce from Blk.new _ _ _)
 clear hb3
 go_upto_region 5 with(refine wpList_store_piece rfl 56 (.tmp 9) (.tmp 23) rfl w3.heap.size 0 rfl zeroOnce rfl 56 _ [] zeroOnce [] HZa.out (by simp) rfl rfl sizeOnce (onceC_one _ _ _ _ _) ?_;intro w4 hx4 hg4)
 have HK4:=qq (show Below w3.heap.size w3 w4 from((Below.refl _ w3).alloc (Nat.le_refl _) _).grown hg4 (by simp) (fun k e=>by cases e;exact Nat.le_refl _))
 have HX4:=qq (show Blk w4 w3.heap.size 56 zeroOnce from hx4.cast (by simp))
 have HZ4:=qq (HZ3.out.below HK4.out (by omega))
 have HB4:=qq (HB3.out.trans (HK4.out.mono (by omega)))
 have hz4:w3.heap.size+1≤w4.heap.size:=by have:=hg4.size;simpa using this
 have c33:=HX4.out.cell 33 (u:= .slice none 0 0) (onceC_33 _ _ _ (by simp))
 have f33:=HX4.out.frozen 33
 have HCl:=qq (clone_nil w4)
 clear hx4 hg4
 go_wp2_with fail
 refine HCl.out.mono ?_
 rintro e w5 ⟨rfl,rfl⟩
 go_upto_region 6 with fail
 have hg5:=grownBy_set w4 w3.heap.size 33 (.slice none 0 0)
 have HX5:=qq ((HX4.out.set_ 33 (.slice none 0 0)).cast (onceC_set33 _ _ _ _ (by simp)))
 have HZ5:=qq (HZ4.out.grown hg5 (fun e=>by injection e with e;omega))
 have HB5:=qq (HB4.out.grown hg5 HB4.out.size (fun k e=>by cases e;omega))
 generalize w4.setCell ⟨w3.heap.size,33,none⟩ (.slice none 0 0)=w5 at HX5 HZ5 HB5 hg5 ⊢
 clear hg5 c33 f33
 refine wp_region_lit ?_
 refine wpList_load_mid rfl 56 (.tmp 9) rfl w3.heap.size 0 rfl zeroOnce _ HX5.out.whole Tryd.underlying56 rfl sizeOnce ?_
 go_wp2_with (refine wpList_store_piece rfl 56 (.tmp 6) (.tmp 29) rfl w.heap.size 0 rfl zeroOnce rfl 56 _ [] zeroOnce [] HZ5.out (by simp) rfl rfl sizeOnce (onceC_one _ _ _ _ _) ?_;intro w9 hx9 hg9)
 have HX9:=qq (show Blk w9 w.heap.size 56 zeroOnce from hx9.cast (by simp))
 refine bodyPost_ret (v:= .tuple #[.agg zeroOnce.toArray,errV E]) (results_blk_tmp (g:=w.heap.size) rfl _ _ _ _ _ _ rfl (by exact HNe.out.symm) HX9.out Tryd.underlying56 rfl sizeOnce) rfl ?_
 exact⟨rfl,HB5.out.grown hg9 HB5.out.size (fun k e=>by cases e;exact Nat.le_refl _)⟩
set_option maxHeartbeats 8000000 in
theorem look_ok(w:World)(gC gl:Nat)(xs:List LP)(hc:ChAt w gC gl xs)(i:Nat)(hi:i<xs.length)(hm:xs.length≤1000)(n:Int)(hE:takeE xs[i].l n=0):
 Calls Tryd.prog 20 #[.pointer (some ⟨gC,0,none⟩),.int .i64 (i:Int),.int .i64 n] w fun e w'=>∃g c,e= .returned (.tuple #[.agg (onceC n (takeO xs[i].l n).key (.slice (some ⟨g,0,none⟩) 12 c)).toArray,.nilIface])∧
  w.heap.size≤g∧Own b8 w' w.heap.size 5 (.slice (some ⟨g,0,none⟩) 12 c) (takeO xs[i].l n).nonce∧Below w.heap.size w w':=by
 obtain⟨w1,hw1⟩:∃w1,w1=w.alloc (.cells zeroOnce.toArray 56):=⟨_,rfl⟩
 have HZ1:=qq (show Blk w1 w.heap.size 56 zeroOnce by rw[hw1];exact Blk.new _ _ _)
 have HK1:=qq (show Below w.heap.size w w1 by rw[hw1];exact(Below.refl _ w).alloc (Nat.le_refl _) _)
 have hz1:w1.heap.size=w.heap.size+1:=by rw[hw1];simp
 have HW1:=qq hw1
 clear hw1
 have HC1:=qq (hc.below HK1.out)
 have HL:=qq (line_any w1 gC gl xs HC1.out i hi hm)
 have hx:=hc.ok _ (List.getElem_mem hi)
 obtain⟨x,hxe⟩:∃x,x=xs[i]:=⟨_,rfl⟩
 rw[←hxe]at hx
 have HXe:=qq hxe
 have HX:=qq hx
 have hh:=HC1.out.held _ (List.getElem_mem hi)
 have hr:=HC1.out.range i hi
 rw[←hxe]at hh hr
 have HCp:=qq (copied_any w1 gl (i*37) x.t x.h x.s x.l.link x.l.place x.gm hr hx.lok.len HC1.out.lines.lt _ hh.map)
 have HH1:=qq hh
 have HC0:=qq hc
 rw[←hxe]at hE ⊢
 obtain⟨hKl,hNl⟩:=takeO_lens hx.lok hE
 obtain⟨O,hO⟩:∃O,O=takeO x.l n:=⟨_,rfl⟩
 rw[←hO]at hKl hNl ⊢
 have HOe:=qq hO
 have HKl:=qq hKl
 have HNl:=qq hNl
 have HE:=qq hE
 clear hxe hx hh hr hE hc hO hKl hNl
 go_enter Tryd.func20,Tryd.ntmps20
 go_upto_region 1 with fail
 have hw1:=HW1.out
 simp only[show zeroOnce.toArray= #[Value.int .i64 0,Value.int .u8 0,Value.int .u8 0,Value.int .u8 0,Value.int .u8 0,Value.int .u8 0,Value.int .u8 0,Value.int .u8 0,Value.int .u8 0,Value.int .u8 0,Value.int .u8 0,Value.int .u8 0,Value.int .u8 0,Value.int .u8 0,Value.int .u8 0,Value.int .u8 0,Value.int .u8 0,Value.int .u8 0,Value.int .u8 0,Value.int .u8 0,Value.int .u8 0,Value.int .u8 0,Value.int .u8 0,Value.int .u8 0,Value.int .u8 0,Value.int .u8 0,Value.int .u8 0,Value.int .u8 0,Value.int .u8 0,Value.int .u8 0,Value.int .u8 0,Value.int .u8 0,Value.int .u8 0,Value.slice none 0 0]from rfl]at hw1
 rw[←hw1]
 clear hw1
 go_wp2_with fail
 refine HL.out.mono ?_
 rintro e w2 ⟨rfl,rfl⟩
 go_wp2_with fail
 refine HCp.out.mono ?_
 rintro e w2 ⟨gn,mn,rfl,hgn,hmn,hB2,hM2,hb2⟩
 have hH2:HeldAt w2 mn x.hp:=⟨hM2,fun p hp=>(HH1.out.mem p hp).below hb2 (HH1.out.mem p hp).lt⟩
 have HT:=qq (take_any w2 gn ⟨x.l,x.hp,mn,x.t,x.h,x.s,x.M⟩ ⟨HX.out.lok,HX.out.marks,HX.out.fst,HX.out.nd⟩ hB2 hH2 n w1.heap.size ⟨hgn,hmn,hb2.size⟩)
 have HB2:=qq hb2
 have HZ2:=qq (HZ1.out.below hb2 (by omega))
 have hz2:=hb2.size
 clear hB2 hM2 hb2 hH2
 go_wp2_with fail
 refine HT.out.mono ?_
 rintro e w3 ⟨-,h1,hb3⟩
 obtain⟨b,y,h1,hA3,-,-,-,-,-,-,-⟩:=h1 HE.out
 rw[show takeO (LP.l ⟨x.l,x.hp,mn,x.t,x.h,x.s,x.M⟩) n=O from HOe.out.symm]at h1 hA3
 subst h1
 have HZ3:=qq (HZ2.out.below hb3 (by omega))
 have hz3:=hb3.size
 have HB3:=qq (show Below w.heap.size w w3 from HK1.out.trans ((HB2.out.trans hb3).mono (by omega)))
 have HZa:=qq (show Blk (w3.alloc (.cells zeroOnce.toArray 56)) w3.heap.size 56 zeroOnce from Blk.new _ _ _)
 have HA3:=qq hA3
 clear hb3 hA3 HT
 go_upto_region 5 with(refine wpList_store_piece rfl 56 (.tmp 9) (.tmp 23) rfl w3.heap.size 0 rfl (onceC n O.key (nonceS b)) rfl 56 _ [] zeroOnce [] HZa.out (by simp) rfl (by rw[onceC_len _ _ _ HKl.out];rfl) (by rw[sizeOnce,onceC_len _ _ _ HKl.out]) (onceC_one _ _ _ _ _) ?_;intro w4 hx4 hg4)
 have HX4:=qq (show Blk w4 w3.heap.size 56 (onceC n O.key (nonceS b))from hx4.cast (by simp))
 have HK4:=qq (show Below w3.heap.size w3 w4 from((Below.refl _ w3).alloc (Nat.le_refl _) _).grown hg4 (by simp) (fun k e=>by cases e;exact Nat.le_refl _))
 have hz4:w3.heap.size+1≤w4.heap.size:=by have:=hg4.size;simpa using this
 have HZ4:=qq (HZ3.out.below HK4.out (by omega))
 have HB4:=qq (HB3.out.trans (HK4.out.mono (by omega)))
 have hA4:=HA3.out.below HK4.out HA3.out.lt
 have hr4:Rd b8 w4 (b+1) (some ⟨b,32,none⟩) O.nonce:=by
  have h:=hA4.rd 32
  rwa[show(O.key++O.nonce).drop 32=O.nonce by rw[←HKl.out,List.drop_left]]at h
 have HCl:=qq (clone_any w4 (b+1) (some ⟨b,32,none⟩) 12 12 O.nonce hr4 hA4.lt HNl.out.symm (fun e=>by cases e) (by omega))
 have c33:=HX4.out.cell 33 (u:=nonceS b) (onceC_33 _ _ _ HKl.out)
 unfold nonceS at c33
 clear hx4 hg4 hr4 hA4
 go_wp2_with fail
 refine HCl.out.mono ?_
 rintro e w5 ⟨v,rfl,hO5,hb5⟩
 obtain⟨g,c,rfl,hg,-,-⟩:=hO5.form' HNl.out (by decide)
 have HO5:=qq hO5
 have HX5:=qq (HX4.out.below hb5 (by omega))
 have HZ5:=qq (HZ4.out.below hb5 (by omega))
 have HB5:=qq (HB4.out.trans (hb5.mono (by omega)))
 have hz5:=hb5.size
 have f33:=HX5.out.frozen 33
 have c33':=HX5.out.cell 33 (u:=nonceS b) (onceC_33 _ _ _ HKl.out)
 clear hO5 hb5 c33 HCl
 go_upto_region 6 with fail
 have hg6:=grownBy_set w5 w3.heap.size 33 (.slice (some ⟨g,0,none⟩) 12 c)
 have HX6:=qq ((HX5.out.set_ 33 (.slice (some ⟨g,0,none⟩) 12 c)).cast (onceC_set33 _ _ _ _ HKl.out))
 have HZ6:=qq (HZ5.out.grown hg6 (fun e=>by injection e with e;omega))
 have HB6:=qq (HB5.out.grown hg6 HB5.out.size (fun k e=>by cases e;omega))
 have HO6:=qq (HO5.out.kept hg6 (.inr (fun e=>by have e:some g=some w3.heap.size:=e;injection e with e;omega)))
 generalize w5.setCell ⟨w3.heap.size,33,none⟩ (.slice (some ⟨g,0,none⟩) 12 c)=w6 at HX6 HZ6 HB6 HO6 hg6 ⊢
 clear hg6 c33' f33
 refine wp_region_lit ?_
 refine wpList_load_mid rfl 56 (.tmp 9) rfl w3.heap.size 0 rfl (onceC n O.key (.slice (some ⟨g,0,none⟩) 12 c)) _ HX6.out.whole Tryd.underlying56 rfl (by rw[sizeOnce,onceC_len _ _ _ HKl.out]) ?_
 go_wp2_with (refine wpList_store_piece rfl 56 (.tmp 6) (.tmp 29) rfl w.heap.size 0 rfl (onceC n O.key (.slice (some ⟨g,0,none⟩) 12 c)) rfl 56 _ [] zeroOnce [] HZ6.out (by simp) rfl (by rw[onceC_len _ _ _ HKl.out];rfl) (by rw[sizeOnce,onceC_len _ _ _ HKl.out]) (onceC_one _ _ _ _ _) ?_;intro w9 hx9 hg9)
 have HX9:=qq (show Blk w9 w.heap.size 56 (onceC n O.key (.slice (some ⟨g,0,none⟩) 12 c))from hx9.cast (by simp))
 refine bodyPost_ret (v:= .tuple #[.agg (onceC n O.key (.slice (some ⟨g,0,none⟩) 12 c)).toArray,.nilIface]) (results_blk_tmp (g:=w.heap.size) rfl _ _ _ _ _ _ rfl rfl HX9.out Tryd.underlying56 rfl (by rw[sizeOnce,onceC_len _ _ _ HKl.out])) rfl ?_
 exact⟨g,c,rfl,by omega,(HO6.out.kept hg9 (.inr (fun e=>by have e:some g=some w.heap.size:=e;injection e with e;omega))).less (by omega),HB6.out.grown hg9 HB6.out.size (fun k e=>by cases e;exact Nat.le_refl _)⟩
end Go.Proofs.YtelgjaiknaalkaaDoor
namespace Go.Proofs.YtelgjaiknaalkaaDoor
def ones:Nat→Nat→Nat
 |0,_=>0
 |f+1,x=>if x % 2=1 then 1+ones f (x/2)else 0
theorem ctz_ones:∀(f x:Nat),x<2^f→Lib.ctzFrom f (2^f-1-x)=ones f x
 |0,_,_=>rfl
 |f+1,x,h=>by
  have e1:2^(f+1)=2*2^f:=by rw[Nat.pow_succ,Nat.mul_comm]
  rw[e1]at h ⊢
  have ih:=ctz_ones f (x/2) (by omega)
  unfold Lib.ctzFrom ones
  by_cases hx:x % 2=1
  ·rw[if_neg (by omega),if_pos hx,←ih,show(2*2^f-1-x)/2=2^f-1-x/2 by omega]
  ·rw[if_pos (by omega),if_neg hx]
theorem ones_le:∀(f x:Nat),ones f x≤f
 |0,_=>Nat.le_refl _
 |f+1,x=>by
  unfold ones
  have:=ones_le f (x/2)
  split<;>omega
theorem ones_pow:∀(f x:Nat),2^ones f x≤x+1
 |0,_=>by simp[ones]
 |f+1,x=>by
  unfold ones
  split
  ·have:=ones_pow f (x/2)
   rw[Nat.add_comm 1,Nat.pow_succ];omega
  ·simp
def lvl(x:Int):Int:=if x<0 then-1 else(ones 64 x.toNat:Int)
def half(x:Int):Int:=((2^(ones 64 x.toNat-1):Nat):Int)
def childL(x:Int):Int:=if lvl x<1 then-1 else x-half x
def childR(x:Int):Int:=if lvl x<1 then-1 else IntKind.i64.wrap (x+half x)
def soundB(n:Int):Bool:=n==1||n==2||n==4||n==8||n==16||n==32
def nodeB(x n:Int):Bool:=soundB n&&decide (0≤x)&&decide (x≤2*n-2)
def parN(x:Nat):Nat:=(x|||2^ones 64 x)-(if x.testBit (ones 64 x+1)then 2^(ones 64 x+1)else 0)
def parV(x n:Int):Int:=if nodeB x n=false∨x=n-1 then-1 else(parN x.toNat:Int)
def reach(x:Int):Int:=((2^ones 64 x.toNat:Nat):Int)-1
def lo(x n:Int):Int:=if nodeB x n then(x-reach x)/2 else-1
def hi(x n:Int):Int:=if nodeB x n then(x+reach x)/2 else-1
end Go.Proofs.YtelgjaiknaalkaaDoor
namespace Go.Proofs.YtelgjaiknaalkaaDoor
open Go.RowKit
def Tab(w:World):Prop:=TabAt 1 Lib.deBruijn64tab w
theorem Tab.lt{w:World}(h:Tab w):1<w.heap.size:=by
 have h0:=h 0 (by decide)
 apply Decidable.byContradiction
 intro hn
 rw[World.cell?]at h0
 simp[Array.getElem?_eq_none (Nat.le_of_not_lt hn)]at h0
theorem Tab.below{w w':World}(h:Tab w)(hb:Below w.heap.size w w'):Tab w':=fun j hj=>(World.cell?_of_block (a:=⟨1,j,none⟩) (hb.block 1 h.lt)).trans (h j hj)
set_option maxRecDepth 100000 in
set_option maxHeartbeats 1000000 in
theorem tz64_core(x k idx:Nat)(w:World)(hx0:((x:Int)==0)=false)
 (key:IntKind.u64.wrap (bits BinOp.and IntKind.u64 (x:Int) (IntKind.u64.wrap (-(x:Int)))*285870213051353865)/288230376151711744=(idx:Int))
 (hi:idx<64)(hk:k<64)(hcell:w.cell? ⟨1,idx,none⟩=some (.int .u8 k)):
 Calls Tryd.prog 77 #[.int .u64 x] w fun e w'=>e= .returned (.int .i64 k)∧w=w':=by
 go_enter Tryd.func77,Tryd.ntmps77
 go_wp2_with (simp only[key])
 go_ret
 exact⟨rfl,rfl⟩
theorem tz64_any(x:Nat)(hx:x<18446744073709551616)(hx0:x≠0)(w:World)(hT:Tab w):
 Calls Tryd.prog 77 #[.int .u64 x] w fun e w'=>e= .returned (.int .i64 (Lib.ctz 64 x))∧w=w':=by
 obtain⟨hlow,hk⟩:=Lib.lowest_bit 64 x hx0 hx
 obtain⟨hi,htab⟩:=Lib.deBruijn64_at _ hk
 have hcell:=hT _ hi
 rw[htab]at hcell
 exact tz64_core x _ _ w (by simp;omega) (tz64_key x _ hx hx0 hlow) hi hk hcell
set_option maxRecDepth 100000 in
set_option maxHeartbeats 1000000 in
theorem tz_any(x:Nat)(hx:x<18446744073709551616)(hx0:x≠0)(w:World)(hT:Tab w):
 Calls Tryd.prog 69 #[.int .u64 x] w fun e w'=>e= .returned (.int .i64 (Lib.ctz 64 x))∧w=w':=by
 have Hc:=qq (tz64_any x hx hx0 w hT)
 go_enter Tryd.func69,Tryd.ntmps69
 go_wp2_with (go_at_call 77;refine Hc.out.mono ?_;rintro e w' ⟨rfl,rfl⟩)
 go_ret
 exact⟨rfl,rfl⟩
set_option maxRecDepth 100000 in
set_option maxHeartbeats 1000000 in
theorem level_any(x:Int)(hx:x<9223372036854775808)(w:World)(hT:Tab w):
 Calls Tryd.prog 57 #[.int .i64 x] w fun e w'=>e= .returned (.int .i64 (lvl x))∧w=w':=by
 by_cases h0:x<0
 ·have e:lvl x= -1:=if_pos h0
  rw[e]
  go_enter Tryd.func57,Tryd.ntmps57
  go_wp2
  go_ret
  exact⟨rfl,rfl⟩
 ·obtain⟨X,rfl,hX⟩:∃X:BitVec 64,x=bv X∧X.toNat=x.toNat:=⟨BitVec.ofNat 64 x.toNat,by unfold bv;rw[BitVec.toNat_ofNat];omega,by rw[BitVec.toNat_ofNat];omega⟩
  have e:lvl (bv X)=(ones 64 X.toNat:Int):=by unfold lvl;rw[if_neg h0,←hX]
  have hn:X.toNat<2^64:=X.isLt
  have hY:(BitVec.ofNat 64 18446744073709551615^^^X).toNat=18446744073709551615-X.toNat:=by
   rw[show BitVec.ofNat 64 18446744073709551615=BitVec.allOnes 64 from rfl,BitVec.allOnes_xor,BitVec.toNat_not]
  have hlt:X.toNat<9223372036854775808:=by unfold bv at hx;omega
  have ec:Lib.ctz 64 (BitVec.ofNat 64 18446744073709551615^^^X).toNat=ones 64 X.toNat:=by
   have:=ctz_ones 64 X.toNat hn
   rw[hY]
   unfold Lib.ctz
   rw[if_neg (by omega)]
   exact this
  have hc0:Calls Tryd.prog 69 #[.int .u64 (bv (BitVec.ofNat 64 18446744073709551615^^^X))] w fun e w'=>e= .returned (.int .i64 (Lib.ctz 64 (BitVec.ofNat 64 18446744073709551615^^^X).toNat))∧w=w':=
   tz_any (BitVec.ofNat 64 18446744073709551615^^^X).toNat (BitVec.isLt _) (by omega) w hT
  have Hc:=qq hc0
  have hxor:bits .xor .u64 (if IntKind.u64.signed=true then-1 else IntKind.u64.max) (bv X)=bv (BitVec.ofNat 64 18446744073709551615^^^X):=by
   rw[show(if IntKind.u64.signed=true then(-1:Int)else IntKind.u64.max)=@OfNat.ofNat Int 18446744073709551615 instOfNat from rfl]
   exact xor_u64_litl X 18446744073709551615
  have Hx:=qq hxor
  clear hxor
  rw[e,←ec]
  have h0':decide (bv X<0)=false:=by simpa using h0
  clear e ec hY hn hX h0 hT hx hlt hc0
  go_enter Tryd.func57,Tryd.ntmps57
  go_wp2_with (go_at_call 69;rw[Hx.out];(refine Hc.out.mono ?_;rintro e w' ⟨rfl,rfl⟩))
  go_ret
  exact⟨rfl,rfl⟩
theorem sound_facts:∀m:Nat,m<33→1≤m→((bits .and .i64 (m:Int) ((m:Int)-1)==0)=soundB (m:Int)):=by decide+kernel
set_option maxRecDepth 100000 in
set_option maxHeartbeats 1000000 in
theorem sound_any(n:Int)(w:World):
 Calls Tryd.prog 24 #[.int .i64 n] w fun e w'=>e= .returned (.bool (soundB n))∧w=w':=by
 by_cases h1:n<1
 ·have e:soundB n=false:=by simp[soundB];omega
  have h1':decide (1≤n)=false:=by simp;omega
  rw[e]
  go_enter Tryd.func24,Tryd.ntmps24
  go_wp2
  go_ret
  exact⟨rfl,rfl⟩
 by_cases h2:32<n
 ·have e:soundB n=false:=by simp[soundB];omega
  have h1':decide (1≤n)=true:=by simp;omega
  have h2':decide (n≤32)=false:=by simp;omega
  rw[e]
  go_enter Tryd.func24,Tryd.ntmps24
  go_wp2
  go_ret
  exact⟨rfl,rfl⟩
 have hf:(bits .and .i64 n (n-1)==0)=soundB n:=by
  have:=sound_facts n.toNat (by omega) (by omega)
  rwa[show((n.toNat:Nat):Int)=n by omega]at this
 have h1':decide (1≤n)=true:=by simp;omega
 have h2':decide (n≤32)=true:=by simp;omega
 have b1:1≤n:=by omega
 have b2:n≤32:=by omega
 rw[←hf]
 clear hf
 go_enter Tryd.func24,Tryd.ntmps24
 go_wp2
 go_ret
 exact⟨rfl,rfl⟩
def rootV(n:Int):Int:=if soundB n then n-1 else-1
set_option maxRecDepth 100000 in
set_option maxHeartbeats 1000000 in
theorem root_any(n:Int)(h1: -9223372036854775808≤n)(h2:n<9223372036854775808)(w:World):
 Calls Tryd.prog 10 #[.int .i64 n] w fun e w'=>e= .returned (.int .i64 (rootV n))∧w=w':=by
 have Hc:=qq (sound_any n w)
 cases hs:soundB n with
 |false=>
  have e:rootV n= -1:=by simp[rootV,hs]
  rw[e]
  rw[hs]at Hc
  clear hs e
  go_enter Tryd.func10,Tryd.ntmps10
  go_wp2_with (go_at_call 24;refine Hc.out.mono ?_;rintro e w' ⟨rfl,rfl⟩)
  go_ret
  exact⟨rfl,rfl⟩
 |true=>
  have b:1≤n∧n≤32:=by simp[soundB]at hs;omega
  obtain⟨b1,b2⟩:=b
  have e:rootV n=n-1:=by simp[rootV,hs]
  rw[e]
  rw[hs]at Hc
  clear hs e
  go_enter Tryd.func10,Tryd.ntmps10
  go_wp2_with (go_at_call 24;refine Hc.out.mono ?_;rintro e w' ⟨rfl,rfl⟩)
  go_ret
  exact⟨rfl,rfl⟩
theorem children_deep(x:Int)(h:¬lvl x<1)(hx:x<9223372036854775808):∃k:Nat,k≤62∧lvl x=((k+1:Nat):Int)∧half x=((2^k:Nat):Int)∧((2^k:Nat):Int)≤x∧2^k≤4611686018427387904:=by
 have h0:¬x<0:=by
  intro h0;apply h;unfold lvl;rw[if_pos h0];decide
 have e:lvl x=(ones 64 x.toNat:Int):=by unfold lvl;rw[if_neg h0]
 have:=ones_le 64 x.toNat
 rw[e]at h
 have hp:=ones_pow 64 x.toNat
 obtain⟨k,hk⟩:∃k,ones 64 x.toNat=k+1:=⟨ones 64 x.toNat-1,by omega⟩
 have hk62:k≤62:=by
  apply Decidable.byContradiction
  intro hn
  have:2^64≤2^ones 64 x.toNat:=Nat.pow_le_pow_right (by decide) (by omega)
  omega
 have hmax:(2:Nat)^k≤2^62:=Nat.pow_le_pow_right (by decide) hk62
 rw[hk,Nat.pow_succ]at hp
 exact⟨k,hk62,by rw[e,hk],by unfold half;rw[hk];rfl,by omega,by omega⟩
theorem pow_cast(k:Nat):(2:Int)^k=((2^k:Nat):Int):=by simp
set_option maxRecDepth 100000 in
set_option maxHeartbeats 1000000 in
theorem children_any(x:Int)(hx:x<9223372036854775808)(w:World)(hT:Tab w):
 Calls Tryd.prog 39 #[.int .i64 x] w fun e w'=>e= .returned (.tuple #[.int .i64 (childL x),.int .i64 (childR x)])∧w=w':=by
 have Hc:=qq (level_any x hx w hT)
 by_cases h:lvl x<1
 ·have e1:childL x= -1:=if_pos h
  have e2:childR x= -1:=if_pos h
  have h':decide (lvl x<1)=true:=by simpa using h
  rw[e1,e2]
  clear e1 e2 h
  generalize lvl x=l at*
  go_enter Tryd.func39,Tryd.ntmps39
  go_wp2_with (go_at_call 57;refine Hc.out.mono ?_;rintro e w' ⟨rfl,rfl⟩)
  go_ret2
  exact⟨rfl,rfl⟩
 ·obtain⟨k,hk,e,hh,h0,hm⟩:=children_deep x h hx
  have e1:childL x=x-half x:=if_neg h
  have e2:childR x=IntKind.i64.wrap (x+half x):=if_neg h
  have hc:=pow_cast k
  rw[hh]at e1 e2
  rw[e1,e2]
  rw[e]at Hc
  clear e1 e2 h e hh hT
  generalize 2^k=p at*
  have Hp:=qq hc
  have f1:wrap64 (x-wrap64 (p:Int))=x-p:=by rw[IntWalk.wrap64_in (p:Int) (by omega),IntWalk.wrap64_in (x-p) (by omega)]
  have f2:wrap64 (x+wrap64 (p:Int))=IntKind.i64.wrap (x+p):=by rw[IntWalk.wrap64_in (p:Int) (by omega),IntWalk.i64_left]
  have F1:=qq f1
  have F2:=qq f2
  clear hc f1 f2
  go_enter Tryd.func39,Tryd.ntmps39
  go_wp2_with (go_at_call 57;refine Hc.out.mono ?_;rintro e w' ⟨rfl,rfl⟩)
  go_ret2
  exact⟨by rw[←F1.out,←F2.out,←Hp.out];rfl,rfl⟩
end Go.Proofs.YtelgjaiknaalkaaDoor
