/- Lemmas. -/
import Derived.Test.YtelgjaiknaalkaaGreatDoorPu05
import Derived.Lib.TrailingZeros
import Derived.Shelf.Spec.TrailingZeros
import Derived.Great.BuildSlice
import Derived.Laws.AppendOwnNone
import Derived.Lib.AppendStr
open Go.Proofs.Tryz
open List renaming setIfInBounds_toArray → qj
open List renaming set_cons_zero → qz
open List renaming set_cons_succ → qv
open List renaming getElem?_append_right → JA, set_append → JR, getElem_mem → Q5, length_append → QO, mem_singleton → Je, mem_append → QS, length_cons → Jr, length_take → QV, flatMap_cons → JW, mem_cons → Ja, map_cons → Jd, length_map → QN, getElem?_eq_some_iff → JS, take_of_length_le → Js, eq_nil_of_length_eq_zero → J2, append_nil → Zb, replicate → QL, getElem?_eq_getElem → QT, getD → QR, getElem?_map → Jn
open Go.RowKit.Below renaming refl → QK
open Nat renaming le_refl → QI, pow_succ → JB, mul_comm → Jw, pow_le_pow_right → J7, le_trans → QX, mul_add → JN, zero_add → JD, mod_eq_of_lt → JP
open Array renaming getElem?_eq_none → J3
open Go.World renaming cell?_of_block → JK, size_alloc → QQ
open BitVec renaming ofNat → QP, toNat_ofNat → Q8
open Go.Value renaming int → QM
set_option linter.unusedVariables false
set_option linter.unusedSimpArgs false
set_option maxRecDepth 100000
set_option maxHeartbeats 8000000
namespace Go.Proofs.YtelgjaiknaalkaaGreatDoor
section
open Go.RowKit
theorem qaG{l:jo}(h:LOK l){n:Int}(hE:qQ l n=0):(qS l n).key.length=32∧(qS l n).nonce.length=12:=by
 by_cases hlo:n<l.place
 ·obtain⟨n0,n1,nh,nl,na,nf⟩:=qap hE
  have hk:=h.hi;obtain⟨o,ho,he⟩:=h.all n nl hlo na (by omega);rw[qcA h hlo hE ho he];exact⟨(h.held o ho).2.2.2.2.1,(h.held o ho).2.2.2.2.2⟩
 ·rw[qbm (k:=(n-l.place).toNat) (by omega) hE]
  exact⟨qbY _ _,qcv _ _⟩
theorem qa4(no:Int)(key:qf)(v:Value)(h:key.length=32):(qy no key v)[33]?=some v:=by
 unfold qy;rw[List.getElem?_cons_succ,JA (by simp[h])];simp[h]
theorem qc4(no:Int)(key:qf)(v v':Value)(h:key.length=32):(qy no key v).set 33 v'=qy no key v':=by
 unfold qy;simp[JR,h]
theorem qkO(w:World):Calls prog 69 #[.slice none 0 0] w fun e w'=>e= .returned (.slice none 0 0)∧w=w':=by
 have hne:=fun w=>Lib.run_eql_slice_nil (P:=prog) w 28 5 none 0 0 0 0 underlying28
 go_enter func69,ntmps69
 go_wp2_with fail
 go_ret;exact⟨rfl,rfl⟩
set_option maxRecDepth 100000
theorem qmn(w:World)(gC gl:Nat)(xs:List LP)(hc:zo w gC gl xs)(i:Nat)(hi:i<xs.length)(hm:xs.length≤1000)(n:Int)(hE:qQ xs[i].l n≠0):
 Calls prog 40 #[.pointer (some ⟨gC,0,none⟩),.int .i64 (i:Int),.int .i64 n] w fun e w'=>e= .returned (.tuple #[.agg qg.toArray,zG (qQ xs[i].l n)])∧Below w.heap.size w w':=by
 obtain⟨w1,hw1⟩:∃w1,w1=w.alloc (.cells qg.toArray 94):=⟨_,rfl⟩;have HZ1:=qe (show Blk w1 w.heap.size 94 qg by rw[hw1];exact Blk.new _ _ _);have HK1:=qe (show Below w.heap.size w w1 by rw[hw1];exact(QK _ w).alloc (QI _) _);have hz1:w1.heap.size=w.heap.size+1:=by rw[hw1];simp
 have HW1:=qe hw1;clear hw1;have HC1:=qe (hc.below HK1.1);have HL:=qe (uz w1 gC gl xs HC1.1 i hi hm);have hx:=hc.ok _ (Q5 hi);obtain⟨x,hxe⟩:∃x,x=xs[i]:=⟨_,rfl⟩;rw[←hxe]at hx;have HXe:=qe hxe;have HX:=qe hx;have hh:=HC1.1.held _ (Q5 hi);have hr:=HC1.1.range i hi;rw[←hxe]at hh hr;have HCp:=qe (qaF w1 gl (i*37) x.t x.h x.s x.l.link x.l.place x.gm hr hx.lok.len HC1.1.lines.lt _ hh.map)
 have HH1:=qe hh;have HC0:=qe hc;rw[←hxe]at hE ⊢;have HNe:=qe (jO hE);have HE:=qe hE;clear hxe hx hh hr hE hc;generalize hEE:qQ x.l n=E at HNe HE ⊢;have HEE:=qe hEE;clear hEE;go_enter func40,ntmps40
 go_upto_region 1 with fail
 have hw1:=HW1.1;simp only[q7]at hw1
 rw[←hw1];clear hw1;go_wp2_with fail
 refine HL.1.mono ?_;rintro e w2 ⟨rfl,rfl⟩;go_wp2_with fail
 refine HCp.1.mono ?_;rintro e w2 ⟨gn,mn,rfl,hgn,hmn,hB2,hM2,hb2⟩;have hH2:jn w2 mn x.hp:=⟨hM2,fun p hp=>(HH1.1.mem p hp).below hb2 (HH1.1.mem p hp).lt⟩;have HT:=qe (qb3 w2 gn ⟨x.l,x.hp,mn,x.t,x.h,x.s,x.M⟩ ⟨HX.1.lok,HX.1.marks,HX.1.fst,HX.1.nd⟩ hB2 hH2 n w1.heap.size ⟨hgn,hmn,hb2.size⟩);have HB2:=qe hb2;have HZ2:=qe (HZ1.1.below hb2 (by omega));have hz2:=hb2.size;clear hB2 hM2 hb2 hH2
 go_wp2_with fail
 refine HT.1.mono ?_;rintro e w3 ⟨h1,-,hb3⟩;have h1:=h1 (by show qQ x.l n≠0;rw[HEE.1];exact HE.1);rw[show qQ (LP.l ⟨x.l,x.hp,mn,x.t,x.h,x.s,x.M⟩) n=E from HEE.1,HNe.1]at h1;subst h1;have HZ3:=qe (HZ2.1.below hb3 (by omega));have hz3:=hb3.size;have HB3:=qe (show Below w.heap.size w w3 from HK1.1.trans ((HB2.1.trans hb3).mono (by omega)));have HZa:=qe (show Blk (w3.alloc (.cells qg.toArray 94)) w3.heap.size 94 qg from Blk.new _ _ _)
 clear hb3;go_upto_region 5 with(refine qi rfl 94 (.tmp 9) (.tmp 23) rfl w3.heap.size 0 rfl qg rfl 94 _ [] qg [] HZa.1 (by simp) rfl rfl qA (qF _ _ _ _ _) ?_;intro w4 hx4 hg4)
 have HK4:=qe (show Below w3.heap.size w3 w4 from((QK _ w3).alloc (QI _) _).grown hg4 (by simp) (fun k e=>by cases e;exact QI _));have HX4:=qe (show Blk w4 w3.heap.size 94 qg from hx4.cast (by simp));have HZ4:=qe (HZ3.1.below HK4.1 (by omega));have HB4:=qe (HB3.1.trans (HK4.1.mono (by omega)));have hz4:w3.heap.size+1≤w4.heap.size:=by have:=hg4.size;simpa using this
 have c33:=HX4.1.cell 33 (u:= .slice none 0 0) (qa4 _ _ _ (by simp));have f33:=HX4.1.frozen 33;have HCl:=qe (qkO w4);clear hx4 hg4;go_wp2_with fail
 refine HCl.1.mono ?_;rintro e w5 ⟨rfl,rfl⟩;go_upto_region 6 with fail
 have hg5:=qM w4 w3.heap.size 33 (.slice none 0 0);have HX5:=qe ((HX4.1.set_ 33 (.slice none 0 0)).cast (qc4 _ _ _ _ (by simp)));have HZ5:=qe (HZ4.1.grown hg5 (fun e=>by injection e with e;omega));have HB5:=qe (HB4.1.grown hg5 HB4.1.size (fun k e=>by cases e;omega));generalize w4.setCell ⟨w3.heap.size,33,none⟩ (.slice none 0 0)=w5 at HX5 HZ5 HB5 hg5 ⊢;clear hg5 c33 f33;refine wp_region_lit ?_
 refine wpList_load_mid rfl 94 (.tmp 9) rfl w3.heap.size 0 rfl qg _ HX5.1.whole underlying94 rfl qA ?_;go_wp2_with (refine qi rfl 94 (.tmp 6) (.tmp 29) rfl w.heap.size 0 rfl qg rfl 94 _ [] qg [] HZ5.1 (by simp) rfl rfl qA (qF _ _ _ _ _) ?_;intro w9 hx9 hg9)
 have HX9:=qe (show Blk w9 w.heap.size 94 qg from hx9.cast (by simp));refine bodyPost_ret (v:= .tuple #[.agg qg.toArray,zG E]) (qu (g:=w.heap.size) rfl _ _ _ _ _ _ rfl (by exact HNe.1.symm) HX9.1 underlying94 rfl qA) rfl ?_;exact⟨rfl,HB5.1.grown hg9 HB5.1.size (fun k e=>by cases e;exact QI _)⟩
theorem qnA(w:World)(gC gl:Nat)(xs:List LP)(hc:zo w gC gl xs)(i:Nat)(hi:i<xs.length)(hm:xs.length≤1000)(n:Int)(hE:qQ xs[i].l n=0):
 Calls prog 40 #[.pointer (some ⟨gC,0,none⟩),.int .i64 (i:Int),.int .i64 n] w fun e w'=>∃g c,e= .returned (.tuple #[.agg (qy n (qS xs[i].l n).key (.slice (some ⟨g,0,none⟩) 12 c)).toArray,.nilIface])∧
  w.heap.size≤g∧Own b8 w' w.heap.size 5 (.slice (some ⟨g,0,none⟩) 12 c) (qS xs[i].l n).nonce∧Below w.heap.size w w':=by
 obtain⟨w1,hw1⟩:∃w1,w1=w.alloc (.cells qg.toArray 94):=⟨_,rfl⟩;have HZ1:=qe (show Blk w1 w.heap.size 94 qg by rw[hw1];exact Blk.new _ _ _);have HK1:=qe (show Below w.heap.size w w1 by rw[hw1];exact(QK _ w).alloc (QI _) _);have hz1:w1.heap.size=w.heap.size+1:=by rw[hw1];simp
 have HW1:=qe hw1;clear hw1;have HC1:=qe (hc.below HK1.1);have HL:=qe (uz w1 gC gl xs HC1.1 i hi hm);have hx:=hc.ok _ (Q5 hi);obtain⟨x,hxe⟩:∃x,x=xs[i]:=⟨_,rfl⟩;rw[←hxe]at hx;have HXe:=qe hxe;have HX:=qe hx;have hh:=HC1.1.held _ (Q5 hi);have hr:=HC1.1.range i hi;rw[←hxe]at hh hr;have HCp:=qe (qaF w1 gl (i*37) x.t x.h x.s x.l.link x.l.place x.gm hr hx.lok.len HC1.1.lines.lt _ hh.map)
 have HH1:=qe hh;have HC0:=qe hc;rw[←hxe]at hE ⊢;obtain⟨hKl,hNl⟩:=qaG hx.lok hE;obtain⟨O,hO⟩:∃O,O=qS x.l n:=⟨_,rfl⟩;rw[←hO]at hKl hNl ⊢;have HOe:=qe hO;have HKl:=qe hKl;have HNl:=qe hNl;have HE:=qe hE;clear hxe hx hh hr hE hc hO hKl hNl;go_enter func40,ntmps40
 go_upto_region 1 with fail
 have hw1:=HW1.1;simp only[q7]at hw1
 rw[←hw1];clear hw1;go_wp2_with fail
 refine HL.1.mono ?_;rintro e w2 ⟨rfl,rfl⟩;go_wp2_with fail
 refine HCp.1.mono ?_;rintro e w2 ⟨gn,mn,rfl,hgn,hmn,hB2,hM2,hb2⟩;have hH2:jn w2 mn x.hp:=⟨hM2,fun p hp=>(HH1.1.mem p hp).below hb2 (HH1.1.mem p hp).lt⟩;have HT:=qe (qb3 w2 gn ⟨x.l,x.hp,mn,x.t,x.h,x.s,x.M⟩ ⟨HX.1.lok,HX.1.marks,HX.1.fst,HX.1.nd⟩ hB2 hH2 n w1.heap.size ⟨hgn,hmn,hb2.size⟩);have HB2:=qe hb2;have HZ2:=qe (HZ1.1.below hb2 (by omega));have hz2:=hb2.size;clear hB2 hM2 hb2 hH2
 go_wp2_with fail
 refine HT.1.mono ?_;rintro e w3 ⟨-,h1,hb3⟩;obtain⟨b,y,h1,hA3,-,-,-,-,-,-,-⟩:=h1 HE.1;rw[show qS (LP.l ⟨x.l,x.hp,mn,x.t,x.h,x.s,x.M⟩) n=O from HOe.1.symm]at h1 hA3;subst h1;have HZ3:=qe (HZ2.1.below hb3 (by omega));have hz3:=hb3.size;have HB3:=qe (show Below w.heap.size w w3 from HK1.1.trans ((HB2.1.trans hb3).mono (by omega)));have HZa:=qe (show Blk (w3.alloc (.cells qg.toArray 94)) w3.heap.size 94 qg from Blk.new _ _ _)
 have HA3:=qe hA3;clear hb3 hA3 HT;go_upto_region 5 with(refine qi rfl 94 (.tmp 9) (.tmp 23) rfl w3.heap.size 0 rfl (qy n O.key (qx b)) rfl 94 _ [] qg [] HZa.1 (by simp) rfl (by rw[qw _ _ _ HKl.1];rfl) (by rw[qA,qw _ _ _ HKl.1]) (qF _ _ _ _ _) ?_;intro w4 hx4 hg4)
 have HX4:=qe (show Blk w4 w3.heap.size 94 (qy n O.key (qx b))from hx4.cast (by simp));have HK4:=qe (show Below w3.heap.size w3 w4 from((QK _ w3).alloc (QI _) _).grown hg4 (by simp) (fun k e=>by cases e;exact QI _));have hz4:w3.heap.size+1≤w4.heap.size:=by have:=hg4.size;simpa using this
 have HZ4:=qe (HZ3.1.below HK4.1 (by omega));have HB4:=qe (HB3.1.trans (HK4.1.mono (by omega)));have hA4:=HA3.1.below HK4.1 HA3.1.lt;have hr4:Rd b8 w4 (b+1) (some ⟨b,32,none⟩) O.nonce:=by
  have h:=hA4.rd 32;rwa[show(O.key++O.nonce).drop 32=O.nonce by rw[←HKl.1,List.drop_left]]at h
 have HCl:=qe (qct w4 (b+1) (some ⟨b,32,none⟩) 12 12 O.nonce hr4 hA4.lt HNl.1.symm (fun e=>by cases e) (by omega));have c33:=HX4.1.cell 33 (u:=qx b) (qa4 _ _ _ HKl.1);unfold qx at c33;clear hx4 hg4 hr4 hA4;go_wp2_with fail
 refine HCl.1.mono ?_;rintro e w5 ⟨v,rfl,hO5,hb5⟩;obtain⟨g,c,rfl,hg,-,-⟩:=hO5.form' HNl.1 (by decide);have HO5:=qe hO5;have HX5:=qe (HX4.1.below hb5 (by omega));have HZ5:=qe (HZ4.1.below hb5 (by omega));have HB5:=qe (HB4.1.trans (hb5.mono (by omega)));have hz5:=hb5.size;have f33:=HX5.1.frozen 33;have c33':=HX5.1.cell 33 (u:=qx b) (qa4 _ _ _ HKl.1);clear hO5 hb5 c33 HCl;go_upto_region 6 with fail
 have hg6:=qM w5 w3.heap.size 33 (.slice (some ⟨g,0,none⟩) 12 c);have HX6:=qe ((HX5.1.set_ 33 (.slice (some ⟨g,0,none⟩) 12 c)).cast (qc4 _ _ _ _ HKl.1));have HZ6:=qe (HZ5.1.grown hg6 (fun e=>by injection e with e;omega));have HB6:=qe (HB5.1.grown hg6 HB5.1.size (fun k e=>by cases e;omega));have HO6:=qe (HO5.1.kept hg6 (.inr (fun e=>by have e:some g=some w3.heap.size:=e;injection e with e;omega)))
 generalize w5.setCell ⟨w3.heap.size,33,none⟩ (.slice (some ⟨g,0,none⟩) 12 c)=w6 at HX6 HZ6 HB6 HO6 hg6 ⊢;clear hg6 c33' f33;refine wp_region_lit ?_;refine wpList_load_mid rfl 94 (.tmp 9) rfl w3.heap.size 0 rfl (qy n O.key (.slice (some ⟨g,0,none⟩) 12 c)) _ HX6.1.whole underlying94 rfl (by rw[qA,qw _ _ _ HKl.1]) ?_;go_wp2_with (refine qi rfl 94 (.tmp 6) (.tmp 29) rfl w.heap.size 0 rfl (qy n O.key (.slice (some ⟨g,0,none⟩) 12 c)) rfl 94 _ [] qg [] HZ6.1 (by simp) rfl (by rw[qw _ _ _ HKl.1];rfl) (by rw[qA,qw _ _ _ HKl.1]) (qF _ _ _ _ _) ?_;intro w9 hx9 hg9)
 have HX9:=qe (show Blk w9 w.heap.size 94 (qy n O.key (.slice (some ⟨g,0,none⟩) 12 c))from hx9.cast (by simp));refine bodyPost_ret (v:= .tuple #[.agg (qy n O.key (.slice (some ⟨g,0,none⟩) 12 c)).toArray,.nilIface]) (qu (g:=w.heap.size) rfl _ _ _ _ _ _ rfl rfl HX9.1 underlying94 rfl (by rw[qA,qw _ _ _ HKl.1])) rfl ?_;exact⟨g,c,rfl,by omega,(HO6.1.kept hg9 (.inr (fun e=>by have e:some g=some w.heap.size:=e;injection e with e;omega))).less (by omega),HB6.1.grown hg9 HB6.1.size (fun k e=>by cases e;exact QI _)⟩
end
def kQ:Nat→Nat→Nat
 |0,_=>0
 |f+1,x=>if x % 2=1 then 1+kQ f (x/2)else 0
theorem qgT:∀(f x:Nat),x<2^f→Lib.ctzFrom f (2^f-1-x)=kQ f x
 |0,_,_=>rfl
 |f+1,x,h=>by
  have e1:2^(f+1)=2*2^f:=by rw[JB,Jw]
  rw[e1]at h ⊢;have ih:=qgT f (x/2) (by omega);unfold Lib.ctzFrom kQ;by_cases hx:x % 2=1
  ·rw[if_neg (by omega),if_pos hx,←ih,show(2*2^f-1-x)/2=2^f-1-x/2 by omega]
  ·rw[if_pos (by omega),if_neg hx]
theorem qjB:∀(f x:Nat),kQ f x≤f
 |0,_=>QI _
 |f+1,x=>by
  unfold kQ;have:=qjB f (x/2);split<;>omega
theorem qgU:∀(f x:Nat),2^kQ f x≤x+1
 |0,_=>by simp[kQ]
 |f+1,x=>by
  unfold kQ;split
  ·have:=qgU f (x/2)
   rw[Nat.add_comm 1,JB];omega
  ·simp
def lvl(x:Int):Int:=if x<0 then-1 else(kQ 64 x.toNat:Int)
def QD(x:Int):Int:=((2^(kQ 64 x.toNat-1):Nat):Int)
def vx(x:Int):Int:=if lvl x<1 then-1 else x-QD x
def uA(x:Int):Int:=if lvl x<1 then-1 else IntKind.i64.wrap (x+QD x)
def jB(n:Int):Bool:=n==1||n==2||n==4||n==8||n==16||n==32
def uH(x n:Int):Bool:=jB n&&decide (0≤x)&&decide (x≤2*n-2)
def qo3(x:Nat):Nat:=(x|||2^kQ 64 x)-(if x.testBit (kQ 64 x+1)then 2^(kQ 64 x+1)else 0)
def uO(x n:Int):Int:=if uH x n=false∨x=n-1 then-1 else(qo3 x.toNat:Int)
def qn9(x:Int):Int:=((2^kQ 64 x.toNat:Nat):Int)-1
def lo(x n:Int):Int:=if uH x n then(x-qn9 x)/2 else-1
def hi(x n:Int):Int:=if uH x n then(x+qn9 x)/2 else-1
theorem qoa(x n:Int)(h:uH x n=true):∃a b:Nat,x=a∧n=b∧b∈ [1,2,4,8,16,32]∧a<2*b-1:=by
 simp only[uH,jB,Bool.and_eq_true,Bool.or_eq_true,beq_iff_eq,decide_eq_true_eq]at h;obtain⟨⟨hs,h0⟩,h1⟩:=h;refine⟨x.toNat,n.toNat,by omega,by omega,?_,by omega⟩;rcases hs with((((rfl|rfl)|rfl)|rfl)|rfl)|rfl<;>decide
theorem qnB:∀n∈ ([1,2,4,8,16,32]:List Nat),∀x:Nat,x<2*n-1→∀p:Nat,p<2*n-1→(decide (vx (p:Int)=(x:Int))||decide (uA (p:Int)=(x:Int)))=decide ((p:Int)=uO (x:Int) (n:Int)):=by decide+kernel
theorem qfP:∀n∈ ([1,2,4,8,16,32]:List Nat),∀x:Nat,x<2*n-1→(decide (-1≤uO (x:Int) (n:Int))&&decide (uO (x:Int) (n:Int)≤2*(n:Int)-2)&&decide (0≤lvl (x:Int))&&decide (lvl (x:Int)≤5)
 &&(decide (uO (x:Int) (n:Int)<0)||decide (lvl (uO (x:Int) (n:Int))=lvl (x:Int)+1)))=true:=by decide+kernel
section
open Go.RowKit
def Tab(w:World):Prop:=TabAt 1 Lib.deBruijn64tab w
theorem Tab.lt{w:World}(h:Tab w):1<w.heap.size:=by
 have h0:=h 0 (by decide);apply Decidable.byContradiction;intro hn;rw[World.cell?]at h0;simp[J3 (Nat.le_of_not_lt hn)]at h0
theorem Tab.below{w w':World}(h:Tab w)(hb:Below w.heap.size w w'):Tab w':=fun j hj=>(JK (a:=⟨1,j,none⟩) (hb.block 1 h.lt)).trans (h j hj)
theorem qkP(x k idx:Nat)(w:World)(hx0:((x:Int)==0)=false)
 (key:IntKind.u64.wrap (bits BinOp.and IntKind.u64 (x:Int) (IntKind.u64.wrap (-(x:Int)))*285870213051353865)/288230376151711744=(idx:Int))
 (hi:idx<64)(hk:k<64)(hcell:w.cell? ⟨1,idx,none⟩=some (.int .u8 k)):
 Calls prog 136 #[.int .u64 x] w fun e w'=>e= .returned (.int .i64 k)∧w=w':=by
 go_enter func136,ntmps136
 go_wp2_with (simp only[key])
 go_ret;exact⟨rfl,rfl⟩
theorem qmo(x:Nat)(hx:x<18446744073709551616)(hx0:x≠0)(w:World)(hT:Tab w):
 Calls prog 136 #[.int .u64 x] w fun e w'=>e= .returned (.int .i64 (Lib.ctz 64 x))∧w=w':=by
 obtain⟨hlow,hk⟩:=Lib.lowest_bit 64 x hx0 hx;obtain⟨hi,htab⟩:=Lib.deBruijn64_at _ hk;have hcell:=hT _ hi;rw[htab]at hcell;exact qkP x _ _ w (by simp;omega) (tz64_key x _ hx hx0 hlow) hi hk hcell
theorem qoo(x:Nat)(hx:x<18446744073709551616)(hx0:x≠0)(w:World)(hT:Tab w):
 Calls prog 126 #[.int .u64 x] w fun e w'=>e= .returned (.int .i64 (Lib.ctz 64 x))∧w=w':=by
 have Hc:=qe (qmo x hx hx0 w hT);go_enter func126,ntmps126
 go_wp2_with (go_at_call 136;refine Hc.1.mono ?_;rintro e w' ⟨rfl,rfl⟩)
 go_ret;exact⟨rfl,rfl⟩
theorem qkQ(x:Int)(hx:x<9223372036854775808)(w:World)(hT:Tab w):
 Calls prog 105 #[.int .i64 x] w fun e w'=>e= .returned (.int .i64 (lvl x))∧w=w':=by
 by_cases h0:x<0
 ·have e:lvl x= -1:=if_pos h0
  rw[e];go_enter func105,ntmps105
  go_wp2
  go_ret;exact⟨rfl,rfl⟩
 ·obtain⟨X,rfl,hX⟩:∃X:BitVec 64,x=bv X∧X.toNat=x.toNat:=⟨QP 64 x.toNat,by unfold bv;rw[Q8];omega,by rw[Q8];omega⟩
  have e:lvl (bv X)=(kQ 64 X.toNat:Int):=by unfold lvl;rw[if_neg h0,←hX]
  have hn:X.toNat<2^64:=X.isLt;have hY:(QP 64 18446744073709551615^^^X).toNat=18446744073709551615-X.toNat:=by
   rw[show QP 64 18446744073709551615=BitVec.allOnes 64 from rfl,BitVec.allOnes_xor,BitVec.toNat_not]
  have hlt:X.toNat<9223372036854775808:=by unfold bv at hx;omega
  have ec:Lib.ctz 64 (QP 64 18446744073709551615^^^X).toNat=kQ 64 X.toNat:=by
   have:=qgT 64 X.toNat hn;rw[hY];unfold Lib.ctz;rw[if_neg (by omega)];exact this
  have hc0:Calls prog 126 #[.int .u64 (bv (QP 64 18446744073709551615^^^X))] w fun e w'=>e= .returned (.int .i64 (Lib.ctz 64 (QP 64 18446744073709551615^^^X).toNat))∧w=w':=
   qoo (QP 64 18446744073709551615^^^X).toNat (BitVec.isLt _) (by omega) w hT
  have Hc:=qe hc0;have hxor:bits .xor .u64 (if IntKind.u64.signed=true then-1 else IntKind.u64.max) (bv X)=bv (QP 64 18446744073709551615^^^X):=by
   rw[show(if IntKind.u64.signed=true then(-1:Int)else IntKind.u64.max)=@OfNat.ofNat Int 18446744073709551615 instOfNat from rfl];exact qbQ X 18446744073709551615
  have Hx:=qe hxor;clear hxor;rw[e,←ec];have h0':decide (bv X<0)=false:=by simpa using h0
  clear e ec hY hn hX h0 hT hx hlt hc0;go_enter func105,ntmps105
  go_wp2_with (go_at_call 126;rw[Hx.1];(refine Hc.1.mono ?_;rintro e w' ⟨rfl,rfl⟩))
  go_ret;exact⟨rfl,rfl⟩
theorem qgV:∀m:Nat,m<33→1≤m→((bits .and .i64 (m:Int) ((m:Int)-1)==0)=jB (m:Int)):=by decide+kernel
theorem qkR(n:Int)(w:World):
 Calls prog 53 #[.int .i64 n] w fun e w'=>e= .returned (.bool (jB n))∧w=w':=by
 by_cases h1:n<1
 ·have e:jB n=false:=by simp[jB];omega
  have h1':decide (1≤n)=false:=by simp;omega
  rw[e];go_enter func53,ntmps53
  go_wp2
  go_ret;exact⟨rfl,rfl⟩
 by_cases h2:32<n
 ·have e:jB n=false:=by simp[jB];omega
  have h1':decide (1≤n)=true:=by simp;omega
  have h2':decide (n≤32)=false:=by simp;omega
  rw[e];go_enter func53,ntmps53
  go_wp2
  go_ret;exact⟨rfl,rfl⟩
 have hf:(bits .and .i64 n (n-1)==0)=jB n:=by
  have:=qgV n.toNat (by omega) (by omega);rwa[show((n.toNat:Nat):Int)=n by omega]at this
 have h1':decide (1≤n)=true:=by simp;omega
 have h2':decide (n≤32)=true:=by simp;omega
 have b1:1≤n:=by omega
 have b2:n≤32:=by omega
 rw[←hf];clear hf;go_enter func53,ntmps53
 go_wp2
 go_ret;exact⟨rfl,rfl⟩
theorem qgW(n:Int):(n=1∨n=2∨n=4∨n=8∨n=16∨n=32)∨(jB n=false∧(n==1)=false∧(n==2)=false∧(n==4)=false∧(n==8)=false∧(n==16)=false∧(n==32)=false):=by
 simp[jB];omega
theorem qb4(n:Int)(w:World):
 Calls prog 31 #[.int .i64 n] w fun e w'=>e= .returned (.bool (jB n))∧w=w':=by
 rcases qgW n with(rfl|rfl|rfl|rfl|rfl|rfl)|⟨e,h1,h2,h3,h4,h5,h6⟩
 case inr=>
  rw[e];go_enter func31,ntmps31
  go_wp2
  go_ret;exact⟨rfl,rfl⟩
 all_goals
  go_enter func31,ntmps31
  go_wp2
  go_ret;exact⟨rfl,rfl⟩
theorem qfQ(x:Int)(hx:x<9223372036854775808)(w:World):
 Calls prog 86 #[.int .i64 x] w fun e w'=>e= .returned (.int .i64 (lvl x))∧w=w':=by
 by_cases h0:x<0
 ·have e:lvl x= -1:=if_pos h0
  rw[e];go_enter func86,ntmps86
  go_wp2
  go_ret;exact⟨rfl,rfl⟩
 ·obtain⟨n,rfl⟩:∃n:Nat,x=n:=⟨x.toNat,by omega⟩
  have e:lvl (n:Int)=(kQ 64 n:Int):=by unfold lvl;rw[if_neg h0];simp
  rw[e];have hn:n<9223372036854775808:=by omega
  clear e h0 hx;obtain⟨L,hL⟩:∃L,L=kQ 64 n:=⟨_,rfl⟩;rw[←hL];have HL:=qe hL;clear hL;go_enter func86,ntmps86
  go_wp2
  go_loop [0,3] (fun x k=>∃m j f:Nat,m<2^f∧m<9223372036854775808∧j+kQ f m=L∧j+f=64∧x= .int .i64 m∧k= .int .i64 j) (fun x _=>(intOf x).toNat)
  case atStart=>exact⟨n,0,64,by omega,hn,by rw[HL.1];omega,rfl,rfl,rfl⟩
  case round=>
   obtain⟨m,j,f,hm,hm2,hj,hf,rfl,rfl⟩:=hrel;have Hm:=qe hm;have Hj:=qe hj;have jle:j≤64:=by omega
   clear hm hj;by_cases hodd:m % 2=1
   ·have hodd':((m:Int) % 2==1)=true:=by simp;omega
    have Ho:=qe hodd;clear hodd
    go_wp2
    go_round
    case rel=>
     have ho:=Ho.1;have hm:=Hm.1;have hj:=Hj.1;cases f with
     |zero=>simp at hm;omega
     |succ f=>
      rw[JB]at hm;rw[kQ,if_pos ho]at hj;exact⟨m/2,j+1,f,by omega,by omega,by omega,by omega,by go_num,by go_num⟩
    case measure=>have ho:=Ho.1;simp[intOf];omega
   ·have hodd':((m:Int) % 2==1)=false:=by simp;omega
    have ej:L=j:=by
     have hj:=Hj.1;cases f with
     |zero=>simpa[kQ]using hj.symm
     |succ f=>rw[kQ,if_neg hodd]at hj;omega
    have Ej:=qe ej;clear hodd ej
    go_wp2
    go_ret;exact⟨by rw[Ej.out];rfl,rfl⟩
theorem qgX(x n:Int)(w:World):
 Calls prog 107 #[.int .i64 x,.int .i64 n] w fun e w'=>e= .returned (.bool (uH x n))∧w=w':=by
 have Hc:=qe (qb4 n w);cases hs:jB n with
 |false=>
  have e:uH x n=false:=by simp[uH,hs]
  rw[e];rw[hs]at Hc;have Hs:=qe hs;clear hs e;go_enter func107,ntmps107
  go_wp2_with (go_at_call 31;refine Hc.1.mono ?_;rintro e w' ⟨rfl,rfl⟩)
  go_ret;exact⟨rfl,rfl⟩
 |true=>
  have b:1≤n∧n≤32:=by simp[jB]at hs;omega
  obtain⟨b1,b2⟩:=b;rw[hs]at Hc;have Hs:=qe hs;by_cases h0:0≤x
  ·have h0':decide (0≤x)=true:=by simpa using h0
   have e:uH x n=decide (x≤2*n-2):=by simp[uH,hs,h0]
   rw[e];clear hs e;go_enter func107,ntmps107
   go_wp2_with (go_at_call 31;refine Hc.1.mono ?_;rintro e w' ⟨rfl,rfl⟩)
   go_ret;exact⟨rfl,rfl⟩
  ·have h0':decide (0≤x)=false:=by simp;omega
   have e:uH x n=false:=by simp[uH,hs];omega
   rw[e];clear hs e;go_enter func107,ntmps107
   go_wp2_with (go_at_call 31;refine Hc.1.mono ?_;rintro e w' ⟨rfl,rfl⟩)
   go_ret;exact⟨rfl,rfl⟩
def uP(n:Int):Int:=if jB n then n-1 else-1
theorem qdX(n:Int)(h1: -9223372036854775808≤n)(h2:n<9223372036854775808)(w:World):
 Calls prog 28 #[.int .i64 n] w fun e w'=>e= .returned (.int .i64 (uP n))∧w=w':=by
 have Hc:=qe (qkR n w);cases hs:jB n with
 |false=>
  have e:uP n= -1:=by simp[uP,hs]
  rw[e];rw[hs]at Hc;clear hs e;go_enter func28,ntmps28
  go_wp2_with (go_at_call 53;refine Hc.1.mono ?_;rintro e w' ⟨rfl,rfl⟩)
  go_ret;exact⟨rfl,rfl⟩
 |true=>
  have b:1≤n∧n≤32:=by simp[jB]at hs;omega
  obtain⟨b1,b2⟩:=b;have e:uP n=n-1:=by simp[uP,hs]
  rw[e];rw[hs]at Hc;clear hs e;go_enter func28,ntmps28
  go_wp2_with (go_at_call 53;refine Hc.1.mono ?_;rintro e w' ⟨rfl,rfl⟩)
  go_ret;exact⟨rfl,rfl⟩
theorem qbs(x:Int)(h:¬lvl x<1)(hx:x<9223372036854775808):∃k:Nat,k≤62∧lvl x=((k+1:Nat):Int)∧QD x=((2^k:Nat):Int)∧((2^k:Nat):Int)≤x∧2^k≤4611686018427387904:=by
 have h0:¬x<0:=by
  intro h0;apply h;unfold lvl;rw[if_pos h0];decide
 have e:lvl x=(kQ 64 x.toNat:Int):=by unfold lvl;rw[if_neg h0]
 have:=qjB 64 x.toNat;rw[e]at h;have hp:=qgU 64 x.toNat;obtain⟨k,hk⟩:∃k,kQ 64 x.toNat=k+1:=⟨kQ 64 x.toNat-1,by omega⟩;have hk62:k≤62:=by
  apply Decidable.byContradiction;intro hn;have:2^64≤2^kQ 64 x.toNat:=J7 (by decide) (by omega);omega
 have hmax:(2:Nat)^k≤2^62:=J7 (by decide) hk62;rw[hk,JB]at hp;exact⟨k,hk62,by rw[e,hk],by unfold QD;rw[hk];rfl,by omega,by omega⟩
theorem qmp(k:Nat):(2:Int)^k=((2^k:Nat):Int):=by simp
theorem qb5(x:Int)(hx:x<9223372036854775808)(w:World)(hT:Tab w):
 Calls prog 83 #[.int .i64 x] w fun e w'=>e= .returned (.tuple #[.int .i64 (vx x),.int .i64 (uA x)])∧w=w':=by
 have Hc:=qe (qkQ x hx w hT);by_cases h:lvl x<1
 ·have e1:vx x= -1:=if_pos h
  have e2:uA x= -1:=if_pos h;have h':decide (lvl x<1)=true:=by simpa using h
  rw[e1,e2];clear e1 e2 h;generalize lvl x=l at*;go_enter func83,ntmps83
  go_wp2_with (go_at_call 105;refine Hc.1.mono ?_;rintro e w' ⟨rfl,rfl⟩)
  go_ret2;exact⟨rfl,rfl⟩
 ·obtain⟨k,hk,e,hh,h0,hm⟩:=qbs x h hx
  have e1:vx x=x-QD x:=if_neg h;have e2:uA x=IntKind.i64.wrap (x+QD x):=if_neg h;have hc:=qmp k;rw[hh]at e1 e2;rw[e1,e2];rw[e]at Hc;clear e1 e2 h e hh hT;generalize 2^k=p at*;have Hp:=qe hc;have f1:wrap64 (x-wrap64 (p:Int))=x-p:=by rw[IntWalk.wrap64_in (p:Int) (by omega),IntWalk.wrap64_in (x-p) (by omega)]
  have f2:wrap64 (x+wrap64 (p:Int))=IntKind.i64.wrap (x+p):=by rw[IntWalk.wrap64_in (p:Int) (by omega),IntWalk.i64_left]
  have F1:=qe f1;have F2:=qe f2;clear hc f1 f2;go_enter func83,ntmps83
  go_wp2_with (go_at_call 105;refine Hc.1.mono ?_;rintro e w' ⟨rfl,rfl⟩)
  go_ret2;exact⟨by rw[←F1.out,←F2.out,←Hp.1];rfl,rfl⟩
theorem qaT(x:Int)(hx:x<9223372036854775808)(w:World):
 Calls prog 56 #[.int .i64 x] w fun e w'=>e= .returned (.tuple #[.int .i64 (vx x),.int .i64 (uA x)])∧w=w':=by
 have Hc:=qe (qfQ x hx w);by_cases h:lvl x<1
 ·have e1:vx x= -1:=if_pos h
  have e2:uA x= -1:=if_pos h;have h':decide (lvl x<1)=true:=by simpa using h
  rw[e1,e2];clear e1 e2 h;generalize lvl x=l at*;go_enter func56,ntmps56
  go_wp2_with (go_at_call 86;refine Hc.1.mono ?_;rintro e w' ⟨rfl,rfl⟩)
  go_ret2;exact⟨rfl,rfl⟩
 ·obtain⟨k,hk,e,hh,h0,hm⟩:=qbs x h hx
  have e1:vx x=x-QD x:=if_neg h;have e2:uA x=IntKind.i64.wrap (x+QD x):=if_neg h;rw[hh]at e1 e2;rw[e1,e2];rw[e]at Hc;clear e1 e2 h e hh;obtain⟨p,hp⟩:∃p,p=2^k:=⟨_,rfl⟩;rw[←hp]at h0 hm ⊢;have Hp:=qe hp;have f2:wrap64 (x+(p:Int))=IntKind.i64.wrap (x+p):=by rw[IntWalk.i64_left]
  have F2:=qe f2;clear hp f2;go_enter func56,ntmps56
  go_wp2_with (go_at_call 86;refine Hc.1.mono ?_;rintro e w' ⟨rfl,rfl⟩)
  go_loop [5,6] (fun q i=>∃j q':Nat,j≤k∧q'=2^j∧q'≤p∧i= .int .i64 ((j+1:Nat):Int)∧q= .int .i64 q') (fun _ i=>k+1-(intOf i).toNat)
  case atStart=>exact⟨0,1,by omega,rfl,by rw[Hp.1];exact Nat.one_le_two_pow,rfl,rfl⟩
  case round=>
   obtain⟨j,q,hj,hq,hqp,rfl,rfl⟩:=hrel;have Hq:=qe hq;clear hq;by_cases hlt:j<k
   ·have hq2:2*q≤p:=by
     rw[Hp.1,Hq.1];have:2^(j+1)≤2^k:=J7 (by decide) (by omega);rw[JB]at this;omega
    go_wp2
    go_round
    case rel=>exact⟨j+1,2*q,by omega,by rw[Hq.1,JB,Jw],hq2,by go_num,by go_num⟩
    case measure=>simp[intOf];omega
   ·obtain rfl:j=k:=by omega
    obtain rfl:q=p:=by rw[Hp.1,Hq.1]
    go_wp2
    go_ret2;exact⟨by rw[←F2.out];rfl,rfl⟩
def vN:Nat→qf→List (qf)
 |0,s=> [s]
 |k+1,s=>vN k (vB s uF)++vN k (vB s kh)
theorem vD(k:Nat):∀s,(vN k s).length=2^k:=by
 induction k with
 |zero=>intro s;rfl
 |succ k ih=>intro s;simp only[vN,QO,ih];rw[JB];omega
theorem qjC(k:Nat):∀s:qf,s.length=32→∀z∈vN k s,z.length=32:=by
 induction k with
 |zero=>intro s hs z hz;simp only[vN,Je]at hz;subst hz;exact hs
 |succ k ih=>
  intro s hs z hz;simp only[vN,QS]at hz;rcases hz with h|h
  ·exact ih _ (jl _ _) z h
  ·exact ih _ (jl _ _) z h
def Qu(s:qf)(g:Nat):List Value:=jf false 0 0#64 s 0 (.map (some g))
def vI(ss:List (qf))(gs:List Nat):List Value:=(List.zipWith Qu ss gs).flatten
theorem qgY(a b:List (qf))(g h:List Nat)(hl:a.length=g.length):vI (a++b) (g++h)=vI a g++vI b h:=by
 unfold vI;rw[List.zipWith_append hl,List.flatten_append]
theorem qc5:∀(ss:List (qf)) (gs:List Nat),(∀z∈ss,z.length=32)→ss.length=gs.length→(vI ss gs).length=37*ss.length
 | [],[],_,_=>rfl
 |s::ss,g::gs,h,hl=>by
  have ih:=qc5 ss gs (fun z hz=>h z (by simp[hz])) (by simpa using hl);unfold vI at ih ⊢;rw[List.zipWith_cons_cons,List.flatten_cons,QO,ih,Jr];show(jf false 0 0#64 s 0 (.map (some g))).length+_=_;rw[kD _ _ _ _ _ _ (h s (by simp))];omega
theorem qiB(s:qf)(h:s.length=32)(m:Option Nat):prog.built 130 [(1,.agg (s.map b8).toArray),(3,.map m)]=some (jf false 0 0#64 s 0 (.map m)).toArray:=by
 obtain⟨x0,x1,x2,x3,x4,x5,x6,x7,x8,x9,x10,x11,x12,x13,x14,x15,x16,x17,x18,x19,x20,x21,x22,x23,x24,x25,x26,x27,x28,x29,x30,x31,rfl⟩:=un h
 kernel_rfl
def ua(k a:Nat):Nat:=2*a+2^k-1
theorem qoG:∀k:Nat,k≤5→∀q:Nat,q≤32→(q+1)*2^k≤32→(if k=0 then vx (ua k (q*2^k):Int)= -1 else vx (ua k (q*2^k):Int)=(ua (k-1) (q*2^k):Int)∧uA (ua k (q*2^k):Int)=(ua (k-1) (q*2^k+2^(k-1)):Int)):=by decide+kernel
theorem Tab.grown{w w':World}{g:Nat}(h:Tab w)(hb:w.grownBy w' (some g))(hg:1≠g):Tab w':=fun j hj=>(JK (a:=⟨1,j,none⟩) (hb.block 1 h.lt (fun e=>by injection e with e;exact hg e))).trans (h j hj)
theorem qkS(w:World)(hT:Tab w)(gl n a:Nat)(s:qf)(hs:s.length=32)(pre mid post:List Value)(hB:Blk w gl 130 (pre++(mid++post)))(hpre:pre.length=a*37)(hmid:mid.length=37)(han:a<n)(hn:n≤32)(hg1:1<gl):
 Calls prog 54 #[jL b8 s,.int .i64 (ua 0 a:Int),.slice (some ⟨gl,0,none⟩) n n] w fun e w'=>e= .returned (.tuple #[])∧∃gm,Blk w' gl 130 (pre++(Qu s gm++post))∧zu w' gm []∧w.heap.size≤gm∧w.grownBy w' (some gl):=by
 have hk:=qoG 0 (by decide) a (by omega) (by omega);simp only[if_true,Nat.pow_zero,Nat.mul_one]at hk;have hx0:ua 0 a=2*a:=by unfold ua;omega
 rw[hx0]at hk ⊢;have HS:=qe hs;have HA0:=qe (Arr.new b8 w 23 s);have HB0:=qe (hB.alloc (.cells (s.map b8).toArray 23));have HT0:=qe (hT.below ((QK _ w).alloc (QI _) (.cells (s.map b8).toArray 23)));have HG0:=qe ((QK w.heap.size w).alloc (QI _) (.cells (s.map b8).toArray 23));have hz0:(w.alloc (.cells (s.map b8).toArray 23)).heap.size=w.heap.size+1:=by simp
 have hgl:=hB.lt;rw[qn];clear hs hB hT;go_enter func54,ntmps54
 go_upto_region 1 with fail
 generalize w.alloc (.cells (s.map b8).toArray 23)=w1 at HA0 HB0 HT0 HG0 hz0 ⊢;have HC:=qe (qb5 ((2*a:Nat):Int) (by omega) w1 HT0.1);go_wp2_with fail
 refine HC.1.mono ?_;rintro e w2 ⟨rfl,rfl⟩;rw[hk];have hmm:=@run_makeMap prog;have hq1:(2*(a:Int)).tdiv 2=(a:Int):=by rw[Int.mul_comm,Int.mul_tdiv_cancel _ (by decide)]
 have hq2:(2*(a:Int))/2=(a:Int):=by omega
 have h2:(0:Int)≤(a:Int):=by omega
 have h3:(a:Int)<(n:Int):=by omega
 have HM2:=qe (show Blk (w1.alloc (.map #[] 0)) gl 130 (pre++(mid++post))from HB0.1.alloc _);have HN2:=qe (show zu (w1.alloc (.map #[] 0)) (w.heap.size+1) [] by rw[←hz0];exact zu.new _);go_upto_region 3 with fail
 go_wp2_with (first
  |(refine qm rfl 23 (.tmp 3) rfl w.heap.size rfl _ s HA0.1 _ underlying23 rfl (by rw[qR,HS.1]) ?_)
  |(refine jh rfl 130 [(1,.tmp 18),(3,.tmp 19)] rfl _ [(1,.agg (s.map b8).toArray),(3,.map (some (w.heap.size+1)))] rfl (qiB s HS.1 (some (w.heap.size+1))) ?_)
  |(refine qi rfl 130 (.tmp 21) (.tmp 20) rfl gl (a*37) rfl (Qu s (w.heap.size+1)) rfl 130 _ pre mid post HM2.1 rfl hpre (by unfold Qu;rw[hmid,kD _ _ _ _ _ _ HS.1]) (by unfold Qu;rw[qa2,kD _ _ _ _ _ _ HS.1]) (qcy rfl) ?_;intro w3 hx3 hg3))
 refine bodyPost_ret (results_none rfl _ _ _) rfl ?_;have hg1:w.grownBy w1 (some gl):=⟨HG0.1.os,HG0.1.tape,HG0.1.output,HG0.1.size,fun k hk _=>HG0.1.block k hk⟩;have hg2:=World.grownBy_alloc w1 (.map #[] 0) none;refine⟨rfl,w.heap.size+1,hx3,HN2.1.kept hg3 (fun e=>by injection e with e;omega),by omega,⟨hg3.os.trans (hg2.os.trans hg1.os),hg3.tape.trans (hg2.tape.trans hg1.tape),hg3.output.trans (hg2.output.trans hg1.output),QX hg1.size (QX hg2.size hg3.size),fun k hk hne=>?_⟩⟩
 exact((hg3.block k (by simp;omega) hne).trans (hg2.block k (by omega) (by simp))).trans (hg1.block k hk hne)
theorem qdY:∀(k:Nat),k≤5→∀(w:World) (hT:Tab w) (gl n q:Nat) (s:qf) (hs:s.length=32) (pre mid post:List Value) (hB:Blk w gl 130 (pre++(mid++post))) (hpre:pre.length=q*2^k*37) (hmid:mid.length=37*2^k)
 (hqn:(q+1)*2^k≤n) (hn:n≤32) (hg1:1<gl),
 Calls prog 54 #[jL b8 s,.int .i64 (ua k (q*2^k):Int),.slice (some ⟨gl,0,none⟩) n n] w fun e w'=>e= .returned (.tuple #[])∧∃gms:List Nat,gms.length=2^k∧Blk w' gl 130 (pre++(vI (vN k s) gms++post))∧
  (∀g∈gms,zu w' g []∧w.heap.size≤g)∧gms.Nodup∧w.grownBy w' (some gl)
 |0,_,w,hT,gl,n,q,s,hs,pre,mid,post,hB,hpre,hmid,hqn,hn,hg1=>by
  simp only[Nat.pow_zero,Nat.mul_one]at hpre hmid hqn ⊢;refine(qkS w hT gl n q s hs pre mid post hB hpre hmid (by omega) hn hg1).mono ?_;rintro e w' ⟨rfl,gm,hb,hm,hge,hg⟩;refine⟨rfl,[gm],rfl,?_,fun g hg'=>by rw[Je]at hg';subst hg';exact⟨hm,hge⟩,by simp,hg⟩;have e:vI (vN 0 s) [gm]=Qu s gm:=by simp[vI,vN]
  rw[e];exact hb
 |k+1,hk,w,hT,gl,n,q,s,hs,pre,mid,post,hB,hpre,hmid,hqn,hn,hg1=>by
  have e2:2^(k+1)=2*2^k:=by rw[JB,Jw]
  have hkid:=qoG (k+1) hk q (by have:1≤2^(k+1):=Nat.one_le_two_pow;have:q+1≤(q+1)*2^(k+1):=Nat.le_mul_of_pos_right _ (by omega);omega) (by omega);rw[if_neg (by omega)]at hkid;simp only[Nat.add_sub_cancel]at hkid;have ql:q*2^(k+1)=2*q*2^k:=by rw[e2,←Nat.mul_assoc,Jw q 2]
  have qr:q*2^(k+1)+2^k=(2*q+1)*2^k:=by rw[ql,Nat.add_mul,Nat.one_mul]
  have hp0:1≤2^k:=Nat.one_le_two_pow;obtain⟨P,hP⟩:∃P,P=2^k:=⟨_,rfl⟩;have hq1:(q+1)*2^(k+1)=q*2^(k+1)+2^(k+1):=by rw[Nat.add_mul,Nat.one_mul]
  obtain⟨X,hX⟩:∃X,X=ua (k+1) (q*2^(k+1)):=⟨_,rfl⟩;obtain⟨XL,hXL⟩:∃XL,XL=ua k (q*2^(k+1)):=⟨_,rfl⟩;obtain⟨XR,hXR⟩:∃XR,XR=ua k (q*2^(k+1)+2^k):=⟨_,rfl⟩;have hXs:X<1000:=by rw[hX];unfold ua;omega
  rw[←hX,←hXL,←hXR]at hkid;obtain⟨L,hL⟩:∃L,L=vB s uF:=⟨_,rfl⟩;obtain⟨R,hR⟩:∃R,R=vB s kh:=⟨_,rfl⟩;have HLl:=qe (show L.length=32 by rw[hL];exact jl _ _);have HRl:=qe (show R.length=32 by rw[hR];exact jl _ _);have hbl:(2*q+1)*2^k≤n:=by
   have h9:(2*q+1)*2^k=2*q*2^k+2^k:=by rw[Nat.add_mul,Nat.one_mul]
   omega
  have hbr:(2*q+1+1)*2^k≤n:=by
   have h9:(2*q+1+1)*2^k=(2*q+1)*2^k+2^k:=by rw[Nat.add_mul,Nat.one_mul]
   omega
  have ihl:=fun(w':World) (hT':Tab w') (pre mid post:List Value) (hB':Blk w' gl 130 (pre++(mid++post))) (h1:pre.length=2*q*2^k*37) (h2:mid.length=37*2^k)=>qdY k (by omega) w' hT' gl n (2*q) L HLl.1 pre mid post hB' h1 h2 hbl hn hg1
  have ihr:=fun(w':World) (hT':Tab w') (pre mid post:List Value) (hB':Blk w' gl 130 (pre++(mid++post))) (h1:pre.length=(2*q+1)*2^k*37) (h2:mid.length=37*2^k)=>qdY k (by omega) w' hT' gl n (2*q+1) R HRl.1 pre mid post hB' h1 h2 hbr hn hg1
  rw[←ql,←hXL,qn]at ihl;rw[←qr,←hXR,qn]at ihr;have HIl:=qe ihl;have HIr:=qe ihr;have HLe:=qe hL;have HRe:=qe hR;have HS:=qe hs;have HPre:=qe hpre;have HMid:=qe hmid;have HE2:=qe e2;have HQr:=qe qr;have HA0:=qe (Arr.new b8 w 23 s);have HB0:=qe (hB.alloc (.cells (s.map b8).toArray 23));have HT0:=qe (hT.below ((QK _ w).alloc (QI _) (.cells (s.map b8).toArray 23)))
  have HG0:=qe ((QK w.heap.size w).alloc (QI _) (.cells (s.map b8).toArray 23));have hz0:(w.alloc (.cells (s.map b8).toArray 23)).heap.size=w.heap.size+1:=by simp
  have hgl:=hB.lt;rw[qn,←hX];clear hs hB hT ihl ihr hL hR hX hXL hXR hP hpre hmid e2 ql qr hq1 hqn hbl hbr;go_enter func54,ntmps54
  go_upto_region 1 with fail
  generalize w.alloc (.cells (s.map b8).toArray 23)=w1 at HA0 HB0 HT0 HG0 hz0 ⊢;have HC:=qe (qb5 (X:Int) (by omega) w1 HT0.1);go_wp2_with fail
  refine HC.1.mono ?_;rintro e w2 ⟨rfl,rfl⟩;rw[hkid.1,hkid.2];have hl0:¬((XL:Int)<0):=by omega
  clear hkid;have hdl:=qbA w1 s HS.1 ⟨#[108,101,102,116]⟩ uF qfM (by decide);rw[qn,qn,←HLe.1]at hdl;have HDl:=qe hdl;clear hdl;go_wp2_with (refine qm rfl 23 (.tmp 3) rfl w.heap.size rfl _ s HA0.1 _ underlying23 rfl (by rw[qR,HS.1]) ?_)
  refine HDl.1.mono ?_;rintro e w2 ⟨rfl,hb2⟩;have HB2:=qe (HB0.1.below hb2 (by omega));have HT2:=qe (HT0.1.below hb2);have HA2:=qe (HA0.1.below hb2 (by omega));have hz2:=hb2.size;have HG2:=qe (show Below w.heap.size w w2 from HG0.1.trans (hb2.mono (by omega)));obtain⟨m1,m2,hm12,hm1,hm2⟩:∃m1 m2:List Value,mid=m1++m2∧m1.length=37*2^k∧m2.length=37*2^k:=by
   have h1:=HMid.1;have h2:=HE2.1;exact⟨mid.take (37*2^k),mid.drop (37*2^k),(List.take_append_drop _ _).symm,by rw[QV];omega,by rw[List.length_drop];omega⟩
  subst hm12;have HM1:=qe hm1;have HM2:=qe hm2;have hgr:=HIl.1 w2 HT2.1 pre m1 (m2++post) (HB2.1.cast (by simp)) HPre.1 hm1;have HGr:=qe hgr;clear hb2 hm1 hm2 hgr;go_wp2_with fail
  refine HGr.1.mono ?_;rintro e w3 ⟨rfl,g1,hg1l,hB3,hM3,hN3,hg3⟩;have HB3:=qe hB3;have HM3:=qe hM3;have HN3:=qe hN3;have HL3:=qe hg1l;have HT3:=qe (HT2.1.grown hg3 (by omega));have HA3:=qe (HA2.1.grown hg3 (fun e=>by injection e with e;omega));have hz3:=hg3.size;have HG3:=qe (show w.grownBy w3 (some gl)from qp ⟨HG2.1.os,HG2.1.tape,HG2.1.output,HG2.1.size,fun k hk _=>HG2.1.block k hk⟩ hg3 (fun _ e=> .inl e))
  have hdr:=qbA w3 s HS.1 ⟨#[114,105,103,104,116]⟩ kh qdS (by decide);rw[qn,qn,←HRe.1]at hdr;have HDr:=qe hdr;clear hdr hB3 hM3 hN3 hg3 hg1l;go_wp2_with (refine qm rfl 23 (.tmp 3) rfl w.heap.size rfl _ s HA3.1 _ underlying23 rfl (by rw[qR,HS.1]) ?_)
  refine HDr.1.mono ?_;rintro e w4 ⟨rfl,hb4⟩;have HB4:=qe (HB3.1.below hb4 (by omega));have HT4:=qe (HT3.1.below hb4);have hz4:=hb4.size;have HM4:=qe (show∀g∈g1,zu w4 g []∧w2.heap.size≤g from fun g hg=>⟨(HM3.1 g hg).1.below hb4 (HM3.1 g hg).1.lt,(HM3.1 g hg).2⟩);have HG4:=qe (j2 HG3.1 hb4);have HLt:=qe (show∀g∈g1,g<w3.heap.size from fun g hg=>(HM3.1 g hg).1.lt);have hs1:(vN k L).length=g1.length:=by rw[vD,HL3.1]
  have hgr:=HIr.1 w4 HT4.1 (pre++vI (vN k L) g1) m2 post (HB4.1.cast (by simp)) (by
   rw[QO,HPre.1,qc5 _ _ (qjC k L HLl.1) hs1,vD,Nat.add_mul,Jw 37]) HM2.1
  have HGr:=qe hgr;have HS1:=qe hs1;clear hb4 hgr hs1;go_wp2_with fail
  refine HGr.1.mono ?_;rintro e w5 ⟨rfl,g2,hg2l,hB5,hM5,hN5,hg5⟩;have HB5:=qe hB5;have HM5:=qe hM5;have HN5:=qe hN5;have HG5:=qe hg5;have HL5:=qe hg2l;clear hB5 hM5 hN5 hg5 hg2l;go_wp2_with fail
  refine bodyPost_end (results_none rfl _ _ _) rfl ?_;refine⟨rfl,g1++g2,by rw[QO,HL3.1,HL5.1,HE2.1];omega,?_,?_,?_,qp HG4.1 HG5.1 (fun _ e=> .inl e)⟩
  ·rw[show vN (k+1) s=vN k L++vN k R from by rw[HLe.1,HRe.1];rfl,qgY _ _ _ _ HS1.1]
   exact HB5.1.cast (by simp)
  ·intro g hg
   rcases QS.1 hg with h|h
   ·exact⟨(HM4.1 g h).1.kept HG5.1 (fun e=>by injection e with e;have:=(HM4.1 g h).2;omega),by have:=(HM4.1 g h).2;omega⟩
   ·exact⟨(HM5.1 g h).1,by have:=(HM5.1 g h).2;omega⟩
  ·refine List.nodup_append.2 ⟨HN3.1,HN5.1,fun a ha b hb e=>?_⟩
   subst e;have h1:=HLt.1 a ha;have h2:=(HM5.1 a hb).2;omega
def mkL(ss:List (qf))(gs:List Nat):List LP:=List.zipWith (fun s g=>⟨ju s,[],g,false,0,0#64,[]⟩) ss gs
theorem qe3:∀(ss:List (qf)) (gs:List Nat),(mkL ss gs).flatMap LP.cells=vI ss gs
 | [],_=>rfl
 |_::_,[]=>rfl
 |s::ss,g::gs=>by
  have ih:=qe3 ss gs;unfold mkL vI at ih ⊢;rw[List.zipWith_cons_cons,List.zipWith_cons_cons,JW,List.flatten_cons,ih];rfl
theorem yI:∀(ss:List (qf)) (gs:List Nat) (x:LP),x∈mkL ss gs→∃s∈ss,∃g∈gs,x=⟨ju s,[],g,false,0,0#64,[]⟩
 | [],_,x,h=>by cases h
 |_::_,[],x,h=>by cases h
 |s::ss,g::gs,x,h=>by
  unfold mkL at h;rw[List.zipWith_cons_cons]at h;rcases Ja.1 h with rfl|h
  ·exact⟨s,by simp,g,by simp,rfl⟩
  ·obtain⟨s',h1,g',h2,e⟩:=yI ss gs x h
   exact⟨s',by simp[h1],g',by simp[h2],e⟩
theorem qjD:∀(ss:List (qf)) (gs:List Nat),ss.length=gs.length→(mkL ss gs).map LP.gm=gs
 | [],[],_=>rfl
 |s::ss,g::gs,h=>by
  have ih:=qjD ss gs (by simpa using h);unfold mkL at ih ⊢;rw[List.zipWith_cons_cons,Jd,ih]
theorem qjE(ss:List (qf))(gs:List Nat)(h:ss.length=gs.length):(mkL ss gs).length=ss.length:=by unfold mkL;rw[List.length_zipWith,h,Nat.min_self]
theorem qmq(ss:List (qf))(gs:List Nat):(mkL ss gs).flatMap (fun x=>x.hp.map Prod.snd)=[]:=by
 rw[List.flatMap_eq_nil_iff];intro x hx;obtain⟨s,_,g,_,rfl⟩:=yI ss gs x hx;rfl
def yz(n:Nat):List Value:=(madeCells uy.toArray (n*37)).toList
theorem qiC(n:Nat):(yz n).length=37*n:=by unfold yz;rw[Array.length_toList,size_madeCells,Jw]
theorem qmr:(prog.info? 130).map (fun i=>(i.zero,i.size,i.bytes))=some (some (.agg uy.toArray),37,72):=by kernel_rfl
theorem qfR(n:Nat)(hn:n≤32)(w:World):(Instr.makeSlice 115 (.int .i64 (n:Int)) (.int .i64 (n:Int))).run prog w= .ok (.slice (some ⟨w.heap.size,0,none⟩) n n) (w.alloc (.cells (yz n).toArray 130)):=by
 obtain⟨i,hi,hz,hs,hb⟩:∃i,prog.info? 130=some i∧i.zero=some (.agg uy.toArray)∧i.size=37∧i.bytes=72:=by
  have h:=qmr;cases hq:prog.info? 130 with
  |none=>rw[hq]at h;cases h
  |some i=>
   rw[hq]at h;simp only[Option.map_some,Option.some.injEq,Prod.mk.injEq]at h;exact⟨i,rfl,h.1,h.2.1,h.2.2⟩
 have h:=run_make (P:=prog) w 115 130 i (.agg uy.toArray) underlying115 hi hz .i64 .i64 (n:Int) (n:Int) (by omega) (by omega) (by rw[hb];omega) (by omega);rw[hs,Int.toNat_natCast]at h;rw[h];unfold yz;simp[Value.cells]
theorem qkT:∀k:Nat,k≤5→jB ((2^k:Nat):Int)=true:=by decide
theorem Tab.drew'{w:World}(h:Tab w):Tab w.drew:=h
theorem qms(w:World)(hT:Tab w)(s:qf)(hs:s.length=32)(k:Nat)(hk:k≤5):
 Calls prog 29 #[jL b8 s,.int .i64 ((2^k:Nat):Int)] w fun e w'=>∃gC gl gms,e= .returned (.pointer (some ⟨gC,0,none⟩))∧gms.length=2^k∧zo w' gC gl (mkL (vN k s) gms)∧w.heap.size≤gC∧w.heap.size≤gl∧
  (∀g∈gms,w.heap.size≤g)∧Below w.heap.size w w':=by
 have hsd:=qkT k hk;obtain⟨n,hn⟩:∃n,n=2^k:=⟨_,rfl⟩;have hn1:1≤n:=by rw[hn];exact Nat.one_le_two_pow
 have hn2:n≤32:=by rw[hn];exact J7 (by decide) hk
 rw[←hn]at hsd ⊢;have hmk:=qfR n hn2;have HN:=qe hn;have HS:=qe hs;have hgl:=hT.lt;obtain⟨w1,hw1⟩:∃w1,w1=(w.alloc (.cells (s.map b8).toArray 23)).alloc (.cells #[.slice none 0 0] 117):=⟨_,rfl⟩;have HA1:=qe (show Arr b8 w1 w.heap.size 23 s by rw[hw1];exact(Arr.new b8 w _ s).alloc _);have HC1:=qe (show Boxed w1 (w.heap.size+1) 117 (.slice none 0 0) by rw[hw1];have h:=Boxed.new (w.alloc (.cells (s.map b8).toArray 23)) 117 (.slice none 0 0);rw[QQ]at h;exact h)
 have HK1:=qe (show Below w.heap.size w w1 by rw[hw1];exact((QK _ w).alloc (QI _) _).alloc (by simp) _);have hz1:w1.heap.size=w.heap.size+2:=by rw[hw1];simp
 have HT1:=qe (hT.below HK1.1);have HW1:=qe hw1;have HR:=qe (qdX (n:Int) (by omega) (by omega) w1);have hrt:uP (n:Int)=(n:Int)-1:=by unfold uP;rw[if_pos hsd]
 have hr0:((n:Int)-1≥0):=by omega
 rw[qn];clear hs hT hw1 hn;go_enter func29,ntmps29
 go_upto_region 2 with fail
 rw[←HW1.1];go_wp2_with fail
 refine HR.1.mono ?_;rintro e w2 ⟨rfl,rfl⟩;rw[hrt];have c1:=HC1.1.cell;have f1:=HC1.1.frozen;obtain⟨w3,hw3⟩:∃w3,w3=w1.setCell ⟨w.heap.size+1,0,none⟩ (.slice (some ⟨w.heap.size+2,0,none⟩) n n):=⟨_,rfl⟩;obtain⟨w4,hw4⟩:∃w4,w4=w3.alloc (.cells (yz n).toArray 130):=⟨_,rfl⟩;have hg3:w1.grownBy w3 (some (w.heap.size+1)):=by rw[hw3];exact qM _ _ _ _
 have hz3:w3.heap.size=w.heap.size+2:=by rw[hw3];simp[hz1]
 have HX4:=qe (show Arr b8 w4 w.heap.size 23 s by rw[hw4];exact(HA1.1.grown hg3 (fun e=>by injection e with e;omega)).alloc _);have HC4:=qe (show Boxed w4 (w.heap.size+1) 117 (.slice (some ⟨w.heap.size+2,0,none⟩) n n) by rw[hw4,hw3];exact(HC1.1.set _).alloc _);have HZ4:=qe (show Blk w4 (w.heap.size+2) 130 (yz n) by rw[hw4];exact Blk.at_size _ _ hz3);have HT4:=qe (show Tab w4 by rw[hw4];exact(HT1.1.grown hg3 (by omega)).below ((QK _ w3).alloc (QI _) _))
 have HK4:=qe (show Below w.heap.size w w4 by rw[hw4];exact(HK1.1.grown hg3 HK1.1.size (fun k e=>by cases e;omega)).alloc (by omega) _);have hz4:w4.heap.size=w.heap.size+3:=by rw[hw4];simp[hz3]
 have HW4:=qe (show(w1.setCell ⟨w.heap.size+1,0,none⟩ (.slice (some ⟨w.heap.size+2,0,none⟩) n n)).alloc (.cells (yz n).toArray 130)=w4 by rw[hw4,hw3]);have hgr:=qdY k hk w4.drew HT4.1.drew' (w.heap.size+2) n 0 s HS.1 [] (yz n) [] (HZ4.1.drew.cast (by simp)) (by simp) (by rw[qiC,HN.1]) (by rw[HN.1];omega) hn2 (by omega);have hnx:((ua k (0*2^k):Nat):Int)=(n:Int)-1:=by
  have h9:=HN.1;have e:ua k (0*2^k)=n-1:=by unfold ua;omega
  rw[e];omega
 rw[hnx,qn]at hgr;have HGr:=qe hgr;have hk4:=show w4.drew.rangeAt w.heap.size 0 (s.map b8)∧w4.drew.cell? ⟨w.heap.size+1,0,none⟩=some (.slice (some ⟨w.heap.size+2,0,none⟩) n n)from⟨HX4.1.drew.whole,HC4.1.cell⟩;have hu:=underlying23;have hi32:(prog.info? 23).map (·.size)=some (s.map b8).length:=by rw[QN,HS.1];exact qR
 clear hw3 hw4 hg3 hgr hnx HA1 HC1 HT1;go_upto_region 5 with fail
 rw[HW4.1];refine wp_region_noPanic ?_;refine wp_region_held_drew (S:=fun w'=>w'.rangeAt w.heap.size 0 (s.map b8)∧w'.cell? ⟨w.heap.size+1,0,none⟩=some (.slice (some ⟨w.heap.size+2,0,none⟩) n n)) (by kernel_rfl) hk4 (fun hS=>?_);refine tkK 0 (.agg (s.map b8).toArray) rfl rfl (yieldsIf_load_mid (by rfl) 23 (.tmp 2) rfl w.heap.size 0 rfl (s.map b8) _ (fun _ h=>h.1) hu rfl hi32) hS ?_;refine tkA 1 (.int .i64 ((n:Int)-1)) hS ?_
 refine tkA 2 (.pointer (some ⟨w.heap.size+1,0,none⟩)) hS ?_;try simp only[Act.put,qj,qz,qv]
 refine tkA 3 (.pointer (some ⟨w.heap.size+1,0,none⟩)) hS ?_;refine tkA 4 (.pointer (some ⟨w.heap.size+1,0,none⟩)) hS ?_;refine tkA 5 (.slice (some ⟨w.heap.size+2,0,none⟩) n n) hS ?_;try simp only[Act.put,qj,qz,qv]
 refine rdH 6 (fun K' hK=>?_);go_simp;go_at_call 54;refine HGr.1.mono ?_;rintro e w5 ⟨rfl,gms,hgl,hB5,hM5,hN5,hg5⟩;have HX5:=qe (HX4.1.drew.grown hg5 (fun e=>by injection e with e;omega));have HC5:=qe (Boxed.kept (W:=w4.drew) HC4.1 hg5 (fun e=>by injection e with e;omega));have HB5:=qe hB5;have HM5:=qe hM5;have HN5:=qe hN5;have HL5:=qe hgl;have HG5:=qe hg5;clear hgl hB5 hM5 hN5 hg5
 refine hK.out _ _ (⟨HX5.1.whole,HC5.1.cell⟩) (fun hS=>?_);clear hK K';try simp only[Act.put,qj,qz,qv]
 refine wpAnyH_done (by kernel_rfl) ?_ _;refine NoPanic.normal ?_;go_wp2_with fail
 go_ret;have hg:=HG5.1;have hsl:(vN k s).length=gms.length:=by rw[vD,HL5.1]
 refine⟨w.heap.size+1,w.heap.size+2,gms,rfl,by rw[HL5.1,HN.1],⟨?_,?_,?_,?_,?_,?_⟩,by omega,by omega,fun g hg'=>by have:=(HM5.1 g hg').2;have h9:w4.drew.heap.size=w4.heap.size:=rfl;omega,HK4.1.drew.grown hg HK4.1.size (fun k e=>by cases e;omega)⟩
 ·rw[qjE _ _ hsl,vD,←HN.1];exact HC5.1
 ·rw[qe3];exact HB5.1.cast (by simp)
 ·intro x hx
  obtain⟨z,hz,g,hg',rfl⟩:=yI _ _ x hx;exact⟨um z (qjC k s HS.1 z hz),zz.start z,rfl,List.Pairwise.nil⟩
 ·intro x hx
  obtain⟨z,hz,g,hg',rfl⟩:=yI _ _ x hx;exact⟨(HM5.1 g hg').1,fun p hp=>by cases hp⟩
 ·rw[qjD _ _ hsl];exact HN5.1
 ·rw[qmq];exact List.Pairwise.nil
abbrev RdV(w:World)(B:Nat)(A:Option Addr)(us:List Value):Prop:=Rd (fun v:Value=>v) w B A us
theorem vm{α β:Type}{f:α→List β}{K:Nat}:∀{xs:List α},(∀x∈xs,(f x).length=K)→(xs.flatMap f).length=xs.length*K
 | [],_=>by simp
 |x::xs,h=>by
  rw[JW,QO,h x (by simp),vm (xs:=xs) (fun y hy=>h y (by simp[hy])),Jr,Nat.add_mul];omega
theorem qb6{α β:Type}{f:α→List β}{K:Nat}:∀{xs:List α} {k:Nat} {x:α},(∀x∈xs,(f x).length=K)→xs[k]?=some x→∀j u,(f x)[j]?=some u→(xs.flatMap f)[K*k+j]?=some u
 | [],k,x,_,hk=>by simp at hk
 |y::xs,0,x,h,hk=>fun j u hj=>by
  simp at hk;subst hk;rw[JW,List.getElem?_append_left (by have:=(JS.1 hj).1;omega)];simpa using hj
 |y::xs,k+1,x,h,hk=>fun j u hj=>by
  rw[JW,JA (by rw[h y (by simp),JN];omega),h y (by simp),show K*(k+1)+j-K=K*k+j by rw[JN];omega];exact qb6 (xs:=xs) (fun z hz=>h z (by simp[hz])) (by simpa using hk) j u hj
theorem RdV.elem{α:Type}{f:α→List Value}{K:Nat}{w:World}{B:Nat}{A:Option Addr}{xs:List α}(h:RdV w B A (xs.flatMap f))(hK:∀x∈xs,(f x).length=K)(hK0:0<K){k:Nat}{x:α}(hk:xs[k]?=some x):
 ∃b off,A=some ⟨b,off,none⟩∧b<B∧w.rangeAt b (off+K*k) (f x):=by
 have hlt:=(JS.1 hk).1;obtain⟨b,off,e,hb,hc⟩:=h (by rw[vm hK];exact Nat.mul_pos (by omega) hK0);refine⟨b,off,e,hb,fun j u hj=>?_⟩;rw[Nat.add_assoc];exact hc _ _ (qb6 hK hk j u hj)
section
variable{P:Program}{w:World}
theorem qa5(K:Nat)(hK:0<K)(base:Nat)(t ty e:TypeId)(i:TypeInfo)(z:Value)(bytes:Nat)(ht:P.underlying t=some (.slice e))(hi:P.info? e=some i)(hz:i.zero=some z)
 (hsize:i.size=K)(hby:i.bytes=bytes)(hzs:z.cells.size=K)
 (v:Value)(n:Nat)(us:List Value)(hown:w.ownsRow base e K v n us)
 (B:Nat)(A:Option Addr)(m c:Nat)(news:List Value)(hl:news.length=m*K)(hm:0<m)(hr:RdV w B A news)(h1:∀u∈news,u.oneCell'=true)
 (h63:n+m≤maxLen)(hbytes:(n+m)*bytes≤140737488355328)(hbase:base≤w.heap.size):
 ∃v' w',(Builtin.append_ #[t,t] ty #[v,.slice A m c]).run P w= .ok v' w'∧w'.ownsRow base e K v' (n+m) (us++news)∧kU w w' v v':=by
 obtain⟨b0,off0,rfl,hb0,hc0⟩:=hr (by rw[hl];exact Nat.mul_pos hm hK);have hcells:∀j u,news[j]?=some u→w.cell? ((⟨b0,off0,none⟩:Addr).add j)=some u:=fun j u hu=>by
  have:=hc0 j u hu;rw[Addr.add_lit];exact this
 have hsmall:n+m≤9223372036854775807:=by simp only[maxLen]at h63;omega
 have hul:=hown.1;have grown:∀(old:Nat),old<n+m→
  (w.drew.alloc (.cells (us.toArray++news.toArray++Builtin.zeroCells z.cells (grownCap w (n+m) old e-(n+m))) e)).ownsRow base e K
   (.slice (some ⟨w.heap.size,0,none⟩) (n+m) (grownCap w (n+m) old e)) (n+m) (us++news)∧
  w.grownBy (w.drew.alloc (.cells (us.toArray++news.toArray++Builtin.zeroCells z.cells (grownCap w (n+m) old e-(n+m))) e)) none:=by
  intro old ho;have hge:=grownCap_ge w (n+m) old e;have hcm:=grownCap_le_maxLen w (n+m) old e h63;refine⟨⟨by rw[QO,hul,hl,Nat.add_mul],.inr ⟨w.heap.size,_,_,rfl,hbase,heap_alloc_new w.drew _,hge,hcm,?_,?_⟩⟩,⟨rfl,rfl,rfl,by simp,fun k hk _=>heap_alloc_old w.drew _ hk⟩⟩
  ·simp only[Array.size_append,List.size_toArray,size_zeroCells,hzs,hul,hl]
   rw[←Nat.add_mul,←Nat.add_mul]
   congr 1
   omega
  ·simp only[Array.toList_append]
   rw[List.take_append_of_le_length (by simp[hul,hl,Nat.add_mul])];exact Js (by simp[hul,hl,Nat.add_mul])
 rcases hown.2 with⟨rfl,h0⟩|⟨g,cap,cur,rfl,hbg,hg,hnc,hcm,hcs,htake⟩
 ·subst h0
  have hx:us=[]:=J2 (by rw[hul];simp);subst hx;have hr:=run_append_nil (P:=P) w t ty e i z ht hi hz ⟨b0,off0,none⟩ m c news (by rw[hl,hsize]) hcells hm (by simp at hsmall;omega) (by rw[hby];have hb:=hbytes;simp only[JD]at hb;omega);have hgr:=grown 0 (by simpa using hm);simp only[JD,List.nil_append,Array.empty_append]at hgr ⊢;exact⟨_,_,hr,hgr.1,.inr (.inr ⟨rfl,hgr.2⟩)⟩
 ·by_cases hroom:n+m≤cap
  ·obtain⟨w',hr,ho,hgr⟩:=run_append_fits (P:=P) w base t ty e i K ht hi hsize g n cap us hown ⟨b0,off0,none⟩ m c news hl hcells h1 hroom
   exact⟨_,w',hr,ho,.inr (.inl ⟨g,_,_,cap,rfl,rfl,hgr⟩)⟩
  ·have holds:∀j u,us[j]?=some u→w.cell? ((⟨g,0,none⟩:Addr).add j)=some u:=World.ownsRow.cells (g:=g) hown rfl
   have hr:=run_append_grow (P:=P) w t ty e i z ht hi hz ⟨g,0,none⟩ n cap us (by rw[hul,hsize]) holds ⟨b0,off0,none⟩ m c news (by rw[hl,hsize]) hcells (by omega) (by omega) (by rw[hby];exact growslice_fits (by omega) hbytes);have hgr:=grown cap (by omega);exact⟨_,_,hr,hgr.1,.inr (.inr ⟨rfl,hgr.2⟩)⟩
theorem qgZ{w w':World}{v v':Value}{base E K n:Nat}{us:List Value}(h:kU w w' v v')(hown:w.ownsRow base E K v n us)(hbase:base≤w.heap.size){C:Nat}{w0:World}(hC:C≤base)(hb:Below C w0 w):Below C w0 w':=
 hb.grown h.by_ (by omega) (fun k hk=>by have:=(World.ownsRow.lt hown k hk).1;omega)
theorem jD{ops:Array Oper}{rest:List Oper}{o:Oper}{a:Act}{Q:Exit→Act→World→Prop}(hgd:o.guard=none)(s x:Operand)(t:TypeId)
 (ho:o.op= .call {callee:= .builtin .append,args:= #[s,x],argTypes:= #[t,t]})
 (K:Nat)(hK:0<K)(base:Nat)(e:TypeId)(i:TypeInfo)(z:Value)(bytes:Nat)(ht:P.underlying t=some (.slice e))(hi:P.info? e=some i)(hz:i.zero=some z)
 (hsize:i.size=K)(hby:i.bytes=bytes)(hzs:z.cells.size=K)
 (v:Value)(n:Nat)(us:List Value)(hs:a.eval s=v)(hown:w.ownsRow base e K v n us)
 (B:Nat)(A:Option Addr)(m c:Nat)(news:List Value)(hx:a.eval x= .slice A m c)(hl:news.length=m*K)(hm:0<m)(hr:RdV w B A news)(h1:∀u∈news,u.oneCell'=true)
 (h63:n+m≤maxLen)(hbytes:(n+m)*bytes≤140737488355328)(hbase:base≤w.heap.size)
 (h:∀v' w',w'.ownsRow base e K v' (n+m) (us++news)→kU w w' v v'→(∀C w0,C≤base→Below C w0 w→Below C w0 w')→wpList P ops Q rest (a.put o.dst v') w'):wpList P ops Q (o::rest) a w:=by
 refine wpList_plain hgd fun K' hK'=>?_
 obtain⟨v',w',hrun,h2,h3⟩:=qa5 (P:=P) K hK base t o.type e i z bytes ht hi hz hsize hby hzs v n us hown B A m c news hl hm hr h1 h63 hbytes hbase;unfold Oper.wp execOp;simp only[ho,resolve,invoke,builtin,Sem.run_bind,Sem.run_pure,Result.andThen_ok,List.map_toArray,Jd,List.map_nil,hs,hx,hrun];exact hK' _ _ (h v' w' h2 h3 (fun C w0 hC hb=>qgZ h3 hown hbase hC hb))
end
section
variable{w w':World}{B E K n:Nat}{v:Value}{us:List Value}
theorem qX(h:w.ownsRow B E K v n us):∃A c,v= .slice A n c∧RdV w w.heap.size A us∧(A=none→c=0)∧n≤c∧c≤maxLen:=by
 rcases h.2 with⟨rfl,h0⟩|⟨g,cap,cur,rfl,hb,hg,hnc,hcm,hcs,htake⟩
 ·subst h0
  have hx:us=[]:=J2 (by rw[h.1];simp);subst hx;exact⟨none,0,rfl,Rd.nil_ _ _ _ _,fun _=>rfl,QI _,by simp[maxLen]⟩
 ·refine⟨some ⟨g,0,none⟩,cap,rfl,fun _=>⟨g,0,rfl,?_,fun j u hu=>?_⟩,(fun h=>by cases h),hnc,hcm⟩
  ·exact((World.ownsRow.lt h g rfl)).2
  ·have:=World.ownsRow.cells h (g:=g) rfl j u hu
   rw[Addr.add_lit]at this;exact this
theorem jz{C:Nat}(h:w.ownsRow B E K v n us)(hb:Below C w w')(hC:w.heap.size≤C):w'.ownsRow B E K v n us:=by
 refine⟨h.1,?_⟩;rcases h.2 with h0|⟨g,cap,cur,hv,hbg,hg,rest⟩
 ·exact .inl h0
 ·have hlt:g<w.heap.size:=by have:=World.ownsRow.lt h g (by rw[hv];rfl);exact this.2
  exact .inr ⟨g,cap,cur,hv,hbg,(hb.block g (by omega)).trans hg,rest⟩
theorem qkU{B':Nat}(h:w.ownsRow B E K v n us)(hB:B'≤B):w.ownsRow B' E K v n us:=by
 refine⟨h.1,?_⟩;rcases h.2 with h0|⟨g,cap,cur,hv,hbg,rest⟩
 ·exact .inl h0
 ·exact .inr ⟨g,cap,cur,hv,by omega,rest⟩
theorem qaH(h:w.ownsRow B E K v n us){row:Option Nat}(hg:w.grownBy w' row)(hne:∀g,row=some g→v.ownBlock≠some g):w'.ownsRow B E K v n us:=by
 cases row with
 |none=>exact World.ownsRow.kept h hg (by cases hv:v.ownBlock<;>simp)
 |some g=>exact World.ownsRow.kept h hg (.inr (hne g rfl))
theorem vJ(w:World)(E:TypeId)(us:List Value):RdV (w.alloc (.cells us.toArray E)) (w.heap.size+1) (some ⟨w.heap.size,0,none⟩) us:=by
 have:=Rd.new (fun v:Value=>v) w E us;rwa[List.map_id']at this
end
theorem qg0{s:Nat}(hs:0<s)(v:Value)(hv:v.cells.size=s)(cells:Array Value)(hc:cells.size=s):Instr.fill (fun i=>some (i*s,s)) cells [(0,v)]=some v.cells:=by
 obtain⟨r,hr,hsz,hk⟩:=Great.fill_dense hs [v] 0 cells (fun u hu=>by simp at hu;subst hu;exact hv) (by simp[hc]);have e:r=v.cells:=by
  apply Array.ext_getElem?;intro k;rw[hk k];simp only[Nat.zero_mul,Jr,List.length_nil,JD,Nat.one_mul,Nat.zero_le,true_and,Nat.sub_zero];by_cases h:k<s
  ·rw[if_pos h,Nat.div_eq_of_lt h,JP h];rfl
  ·rw[if_neg h,J3 (by omega),J3 (by omega)]
 rw[←e,←hr];rfl
theorem qac{P:Program}{ops:Array Oper}{rest:List Oper}{o:Oper}{a:Act}{w:World}{Q:Exit→Act→World→Prop}(hg:o.guard=none)(t e:TypeId)(x:Operand)(ho:o.op= .buildSlice t 1 #[(0,x)])
 (ie:TypeInfo)(z:Value)(K:Nat)(cells:Array Value)(hx:a.eval x= .agg cells)(hK:cells.size=K)(hK0:0<K)(hKs:K≤1000)
 (hu:P.underlying t=some (.slice e))(hie:P.info? e=some ie)(hz:ie.zero=some z)(hsz:ie.size=K)(hzs:z.cells.size=K)
 (h:wpList P ops Q rest (a.put o.dst (.slice (some ⟨w.heap.size,0,none⟩) 1 1)) (w.alloc (.cells cells e))):wpList P ops Q (o::rest) a w:=by
 refine wpList_buildSlice hg t e 1 #[(0,x)] ho cells ie z hu hie hz (by rw[hsz];omega) (by rw[hsz];omega) ?_ h;rw[hsz];rw[show(#[(0,x)].map fun(i,x)=>(i,a.eval x)).toList=[(0,.agg cells)] by simp[hx]];exact qg0 hK0 (.agg cells) hK _ (by simp)
theorem qbC{P:Program}{w:World}{ops:Array Oper}{rest:List Oper}{o:Oper}{a:Act}{Q:Exit→Act→World→Prop}(hgd:o.guard=none)(s x:Operand)(t:TypeId)
 (ho:o.op= .call {callee:= .builtin .append,args:= #[s,x],argTypes:= #[t,t]})
 (K:Nat)(hK:0<K)(base:Nat)(e:TypeId)(i:TypeInfo)(z:Value)(bytes:Nat)(ht:P.underlying t=some (.slice e))(hi:P.info? e=some i)(hz:i.zero=some z)
 (hsize:i.size=K)(hby:i.bytes=bytes)(hzs:z.cells.size=K)
 (v:Value)(n:Nat)(us:List Value)(hs:a.eval s=v)(hown:w.ownsRow base e K v n us)
 (B:Nat)(A:Option Addr)(m c:Nat)(news:List Value)(hx:a.eval x= .slice A m c)(hl:news.length=m*K)(hm:m=0→A=none∧c=0)(hr:RdV w B A news)(h1:∀u∈news,u.oneCell'=true)
 (h63:n+m≤maxLen)(hbytes:(n+m)*bytes≤140737488355328)(hbase:base≤w.heap.size)
 (h:∀v' w',w'.ownsRow base e K v' (n+m) (us++news)→kU w w' v v'→(∀C w0,C≤base→Below C w0 w→Below C w0 w')→wpList P ops Q rest (a.put o.dst v') w'):wpList P ops Q (o::rest) a w:=by
 rcases Nat.eq_zero_or_pos m with h0|h0
 ·subst h0
  obtain⟨rfl,rfl⟩:=hm rfl;have hn:news=[]:=J2 (by rw[hl];simp);subst hn;exact wpList_append_own_none hgd s x t ho base e i K ht hi v n us hs hown hx (h v w (by rw[Zb];exact hown) (.inl ⟨rfl,rfl⟩) (fun C w0 _ hb=>hb))
 ·exact jD hgd s x t ho K hK base e i z bytes ht hi hz hsize hby hzs v n us hs hown B A m c news hx hl h0 hr h1 h63 hbytes hbase h
theorem qg1{S:ByteArray}{lab:qf}(h:vq S lab):Lib.strCells S=lab.map b8:=by
 unfold vq at h;rw[←h,List.map_map];unfold Lib.strCells;apply List.map_congr_left;intro x _;show QM .u8 (x.toNat:Int)=b8 (QP 8 x.toNat);unfold b8 bv;rw[Q8,JP x.toNat_lt]
theorem qg2{w:World}{B E:Nat}{v:Value}{xs lab:qf}{S:ByteArray}(hS:vq S lab){n:Nat}(hn:xs.length=n)(h:w.ownsRow B E 1 v (n+S.size) (xs.map b8++Lib.strCells S)):Own b8 w B E v (xs++lab):=by
 unfold Own;rw[QO,hn,←hS.size,List.map_append,←qg1 hS];exact h
theorem qop(n:Nat):IntKind.u8.wrap ((n:Int) % 256)=bv (QP 8 n):=by
 have h:=Qa (n % 256);rw[show((n % 256:Nat):Int)=(n:Int) % 256 by omega]at h;rw[h]
 congr 1
 apply BitVec.eq_of_toNat_eq;simp
theorem qb7(w:World)(sec:qf)(hsec:sec.length=32)(S:ByteArray)(lab:qf)(hS:vq S lab)(hl:lab.length≤255)(N:Nat)(hN:N≤8160):
 Calls prog 87 #[jL b8 sec,.string S,.slice none 0 0,.int .i64 (N:Int)] w fun e w'=>∃A c,e= .returned (.tuple #[.slice A N c,.bool true])∧
  Own b8 w' w.heap.size 5 (.slice A N c) (ki sec lab N)∧Below w.heap.size w w':=by
 obtain⟨i0,hi0,hz0,hz1,hz2⟩:=info_parts jN;have hz:=hS.size;have h1:¬((S.size:Int)>255):=by omega
 have h2:¬((N:Int)<0):=by omega
 have h3:¬((N:Int)>8160):=by omega
 have HS:=qe hsec;have HA0:=qe (Arr.new b8 w 23 sec);have HB0:=qe ((QK w.heap.size w).alloc (QI _) (.cells (sec.map b8).toArray 23));have hz0':(w.alloc (.cells (sec.map b8).toArray 23)).heap.size=w.heap.size+1:=by simp
 rw[qn];have HZ:=qe hz;clear hsec hz;go_enter func87,ntmps87
 go_upto_region 4 with fail
 generalize w.alloc (.cells (sec.map b8).toArray 23)=w1 at HA0 HB0 hz0' ⊢;have e0:=qop N;have e1:IntKind.u8.wrap ((N:Int)/256)=bv (QP 8 (N/256)):=by rw[←Qa];congr 1
 have e2:=Qa S.size;obtain⟨L3,hL3⟩:∃L3:qf,L3=[QP 8 (N/256),QP 8 N,QP 8 S.size]:=⟨_,rfl⟩;have HL3:=qe hL3;have HO0:=qe (show Own b8 (w1.alloc (.cells #[.int .u8 (bv (QP 8 (N/256))),.int .u8 (bv (QP 8 N)),.int .u8 (bv (QP 8 S.size))] 5)) w1.heap.size 5 (.slice (some ⟨w1.heap.size,0,none⟩) 3 3) L3 by
  rw[hL3];exact Own.lit b8 w1 w1.heap.size 5 [QP 8 (N/256),QP 8 N,QP 8 S.size] (QI _) (by simp[maxLen]))
 have HL3l:=qe (show L3.length=3 by rw[hL3];rfl);have hzw:w.heap.size<w1.heap.size:=by omega
 clear hL3 hz0';have HRz:=qe (show∀W:World,Rd b8 (W.alloc (.cells #[.int .u8 0,.int .u8 0,.int .u8 0,.int .u8 0] 5)) (W.heap.size+1) (some ⟨W.heap.size,0,none⟩) [0#8,0#8,0#8,0#8]from fun W=>Rd.new b8 W 5 [0#8,0#8,0#8,0#8]);have hNi:(N:Int)≤8160:=by omega
 go_upto_region 6 with(first
  |(at_builtin;(refine Lib.wpList_append_own_string _ rfl (.tmp 39) (.tmp 40) 28 9 rfl w1.heap.size 5 i0 underlying28 underlying9 hi0 hz0 hz1 hz2 _ 3 (L3.map b8) rfl (by have h:=HO0.1;unfold Own at h;rw[HL3l.1]at h;exact h) S rfl (by have:=HZ.1;unfold maxLen;omega) (by have:=HZ.1;omega) (by simp) ?_;intro v2 w2 ho2 hg2 hv2;have HO2:=qe (qg2 hS HL3l.1 ho2);have HB2:=qe (show Below w1.heap.size w1 w2 from((QK _ w1).alloc (QI _) _).grown hg2 (by simp) (fun k e=>(HO0.1.lt k e).1));have HS2:=qe HB2.1.size;obtain⟨A2,c2,rfl,-,-,-,-⟩:=HO2.1.shape' (n:=lab.length+3) (by rw[QO,HL3l.1,Nat.add_comm]);clear ho2 hv2 hg2))
  |(at_builtin;(refine qh rfl (.tmp 42) (.tmp 57) 28 rfl qH w1.heap.size 5 i0 _ 1 underlying28 hi0 hz0 hz1 hz2 rfl _ _ rfl (HO2.1.alloc (.cells #[.int .u8 0,.int .u8 0,.int .u8 0,.int .u8 0] 5)) (w2.heap.size+1) (some ⟨w2.heap.size,0,none⟩) 4 4 [0#8,0#8,0#8,0#8] rfl rfl (HRz.1 w2) (by have:=HL3l.1;simp[maxLen];omega) (by have:=HL3l.1;simp;omega) (by have:=HS2.1;simp;omega) ?_;intro v3 w3 ho3 hg3 hbb3;obtain⟨A3,c3,rfl,-,-,-,-⟩:=ho3.shape' (n:=lab.length+7) (by rw[QO,QO,HL3l.1];simp;omega);have HO3:=qe ho3;have HB3:=qe (hbb3 w1.heap.size w1 (QI _) (HB2.1.alloc HS2.1 _));clear ho3 hg3 hbb3)))
 have HI3:=qe (show Own b8 w3 w1.heap.size 5 (.slice A3 (lab.length+7) c3) (Qp lab N)from HO3.1.cast (by rw[HL3.1,HZ.1];rfl));have HA3:=qe (HA0.1.below HB3.1 HA0.1.lt);have hs3:=HB3.1.size;clear e0 e1 e2
 go_region_law (first
  |((refine jc rfl (.tmp 60) (.tmp 61) 28 rfl qH w1.heap.size 5 i0 _ 1 underlying28 hi0 hz0 hz1 hz2 rfl _ _ rfl HI3.1 0 none 0 0 [] rfl rfl (Rd.nil_ _ _ _ _) (by rw[uM];simp[maxLen];omega) (by rw[uM];simp;omega) (by first|omega|(simp;omega)) ?_;intro v4 w4 ho4 hg4 hbb4;obtain⟨A4,c4,rfl,-,-,-,-⟩:=ho4.shape' (n:=lab.length+7) (by rw[QO,uM];rfl);have HI4:=qe (ho4.cast (Zb _));have HB4:=qe (hbb4 w1.heap.size w1 (QI _) (by first|exact HB3.1.drew|exact HB3.1));clear ho4 hg4 hbb4))
  |(go_simp;go_at_call 108;(refine(qeB w4 w4.heap.size 32 32 w4.heap.size (lab.length+7) c4 N _ _ sec (Qp lab N) (((HA0.1.below HB4.1 HA0.1.lt).rd 0).more (QX HA0.1.lt HB4.1.size)) (QI _) HS.1.symm HI4.1.rd (QI _) (uM _ _).symm (by omega) (by omega) hN).mono ?_;rintro e w5 ⟨A5,c5,rfl,hr5,hb5⟩;have HR5:=qe hr5;have HB5:=qe (HB4.1.trans (hb5.mono HB4.1.size));clear hr5 hb5)))
 go_wp2_with fail
 go_ret2;have hro:=HR5.1.less (B':=w.heap.size) (by have:=HB4.1.size;omega);first|exact⟨A5,c5,rfl,hro,HB0.1.trans (HB5.1.mono (by omega))⟩|exact⟨A5,c5,⟨rfl,rfl⟩,hro,HB0.1.trans (HB5.1.mono (by omega))⟩
def yA(D:qf)(k:Nat):qf:=D.take k++QL (32-k) 0#8
theorem qg3(D:qf)(k:Nat)(h:32≤D.length)(hk:k≤32):(yA D k).length=32:=by unfold yA;rw[QO,QV,List.length_replicate];omega
theorem qg4(D:qf)(k:Nat)(h:32≤D.length)(hk:k<32):(yA D k).set k (D.getD k 0#8)=yA D (k+1):=by
 have hk':k<D.length:=by omega
 have e:D.take (k+1)=D.take k++ [D[k]]:=by rw[List.take_add_one,QT hk'];rfl
 unfold yA;rw[show 32-k=(32-(k+1))+1 by omega,List.replicate_succ,List.set_append_right _ _ (by rw[QV];omega),QV,Nat.min_eq_left (by omega),Nat.sub_self,qz,e,List.append_assoc,QR,QT hk'];rfl
theorem qg5(D:qf):yA D 32=D.take 32:=by unfold yA;simp
theorem qad(w:World)(sec:qf)(hsec:sec.length=32)(S:ByteArray)(lab:qf)(hS:vq S lab)(hl:lab.length≤255):
 Calls prog 57 #[jL b8 sec,.string S] w fun e w'=>e= .returned (jL b8 (vB sec lab))∧Below w.heap.size w w':=by
 have HS:=qe hsec;obtain⟨D,hD⟩:∃D,D=vB sec lab:=⟨_,rfl⟩;have HDl:=qe (show D.length=32 by rw[hD];exact jl _ _);have HD:=qe hD;obtain⟨w3,hw3⟩:∃w3,w3=((w.alloc (.cells (sec.map b8).toArray 23)).alloc (.cells ((QL 32 0#8).map b8).toArray 23)).alloc (.cells ((QL 32 0#8).map b8).toArray 23):=⟨_,rfl⟩;have HA3:=qe (show Arr b8 w3 w.heap.size 23 sec by rw[hw3];exact((Arr.new b8 w 23 sec).alloc _).alloc _)
 have HZ3:=qe (show Arr b8 w3 (w.heap.size+1) 23 (QL 32 0#8) by
  rw[hw3];have h:=Arr.new b8 (w.alloc (.cells (sec.map b8).toArray 23)) 23 (QL 32 0#8);rw[QQ]at h;exact h.alloc _)
 have HY3:=qe (show Arr b8 w3 (w.heap.size+1+1) 23 (yA D 0) by
  rw[hw3];have h:=Arr.new b8 ((w.alloc (.cells (sec.map b8).toArray 23)).alloc (.cells ((QL 32 0#8).map b8).toArray 23)) 23 (QL 32 0#8);rw[QQ,QQ]at h;exact h.cast (by unfold yA;simp))
 have HB3:=qe (show Below w.heap.size w w3 by rw[hw3];exact(((QK _ w).alloc (QI _) _).alloc (by simp) _).alloc (by simp;omega) _);have hz3:w3.heap.size=w.heap.size+1+1+1:=by rw[hw3];simp
 have HW3:=qe hw3;rw[←hD,qn,qn];clear hsec hD hw3;go_enter func57,ntmps57
 go_upto_region 2 with fail
 have hw3:=HW3.1;simp only[show((QL 32 0#8).map b8).toArray= #[QM .u8 0,QM .u8 0,QM .u8 0,QM .u8 0,QM .u8 0,QM .u8 0,QM .u8 0,QM .u8 0,QM .u8 0,QM .u8 0,QM .u8 0,QM .u8 0,QM .u8 0,QM .u8 0,QM .u8 0,QM .u8 0,QM .u8 0,QM .u8 0,QM .u8 0,QM .u8 0,QM .u8 0,QM .u8 0,QM .u8 0,QM .u8 0,QM .u8 0,QM .u8 0,QM .u8 0,QM .u8 0,QM .u8 0,QM .u8 0,QM .u8 0,QM .u8 0]from rfl]at hw3
 rw[←hw3];clear hw3;have hlb:=qb7 w3 sec HS.1 S lab hS hl 32 (by omega);have eD:ki sec lab 32=D:=by rw[←qjx];exact HD.1.symm
 rw[qn,eD,show(((32:Nat):Nat):Int)=32 from rfl]at hlb;have HL:=qe hlb;have HZs:=qe hz3;have hzs:w.heap.size+2<w3.heap.size:=by omega
 clear hlb eD hz3;go_wp2_with (first|(refine qm rfl 23 (.tmp 2) rfl w.heap.size rfl _ sec HA3.1 _ underlying23 rfl (by rw[qR,HS.1]) ?_))
 refine HL.1.mono ?_;rintro e w4 ⟨A4,c4,rfl,ho,hb⟩;obtain⟨g,cg,eg,hgb,hgl,-⟩:=ho.form' HDl.1 (by omega);injection eg with eg1 eg2 eg3;subst eg1;have HO4:=qe ho;have HZ4:=qe (HZ3.1.below hb (by omega));have HY4:=qe (HY3.1.below hb (by omega));have HB4:=qe (HB3.1.trans (hb.mono HB3.1.size));have hs4:=hb.size;clear ho hb HL eg2 eg3;go_wp2_with fail
 go_loopw [8] (fun v wr=>∃k:Nat,k≤32∧v= .int .i64 k∧Arr b8 wr (w.heap.size+1+1) 23 (yA D k)∧Arr b8 wr (w.heap.size+1) 23 (QL 32 0#8)∧Own b8 wr w3.heap.size 5 (.slice (some ⟨g,0,none⟩) 32 c4) D∧Below w.heap.size w wr) (fun v _=>32-(intOf v).toNat)
 case atStart=>exact⟨0,by omega,rfl,HY4.1,HZ4.1,HO4.1,HB4.1⟩
 case round=>
  clear HY4 HZ4 HO4 HB4;obtain⟨k,hk,rfl,ha,hzr,ho,hb⟩:=hrel;have HA:=qe ha;have HZ:=qe hzr;have HO:=qe ho;have HB:=qe hb;clear ha hzr ho hb;by_cases hlt:k<32
  ·have c1:=((HO.1).at_ (k:=k) (by rw[HDl.1];exact hlt)).1
   have c2:=HA.1.cellD (k:=k) (by rw[qg3 _ _ (by rw[HDl.1];exact QI _) hk];exact hlt) 0#8;have f2:=HA.1.frozen k;have hy:D[k]'(by rw[HDl.1];exact hlt)=D.getD k 0#8:=by rw[QR,QT (by rw[HDl.1];exact hlt)];rfl
   rw[hy]at c1;have Hs:=qe (qg4 D k (by rw[HDl.1];exact QI _) hlt);generalize D.getD k 0#8=y at c1 Hs;generalize(yA D k).getD k 0#8=y0 at c2;simp only[b8]at c1 c2;have lk:(k:Int)<32:=by omega
   clear hy;go_wp2_with fail
   go_roundw
   case rel=>exact⟨k+1,by omega,by go_num,(HA.1.set_ k y).cast Hs.1,HZ.1.far (by show w.heap.size+1≠w.heap.size+1+1;omega) _,HO.1.kept (qM wr (w.heap.size+1+1) k _) (.inr (fun e=>by injection e with e;have e2:g=w.heap.size+1+1:=e;omega)),HB.1.setCell (by show w.heap.size≤w.heap.size+1+1;omega) _⟩
   case measure=>simp[intOf];omega
  ·obtain rfl:k=32:=by omega
   rw[show(((32:Nat)):Int)=32 from rfl];have HA':=qe (HA.1.cast (show yA D 32=D by rw[qg5,Js (by rw[HDl.1];exact QI _)]));clear HA;go_upto_region 7 with fail
   refine wp_region_lit ?_;refine qm rfl 23 (.tmp 5) rfl (w.heap.size+1+1) rfl _ D HA'.1 _ underlying23 rfl (by rw[qR,HDl.1]) ?_;refine qk rfl 23 (.tmp 4) (.tmp 27) rfl (w.heap.size+1) rfl D rfl _ _ HZ.1 (by rw[HDl.1];rfl) (by rw[qR,HDl.1]) qU ?_;intro w5 hx5 hg5;go_wp2_with fail
   refine bodyPost_ret (v:= .agg (D.map b8).toArray) (qY (g:=w.heap.size+1) rfl _ _ _ _ _ rfl hx5 underlying23 rfl (by rw[qR,HDl.1])) rfl ?_;exact⟨rfl,HB.1.grown hg5 HB.1.size (fun k e=>by cases e;omega)⟩
theorem qg6(no:Int)(key:qf)(h:key.length=32)(A:Option Addr)(n c:Nat):
 prog.built 104 [(0,.int .i64 no),(1,.agg (key.map b8).toArray),(2,.slice A n c)]=some (qy no key (.slice A n c)).toArray:=by
 obtain⟨x0,x1,x2,x3,x4,x5,x6,x7,x8,x9,x10,x11,x12,x13,x14,x15,x16,x17,x18,x19,x20,x21,x22,x23,x24,x25,x26,x27,x28,x29,x30,x31,rfl⟩:=un h
 kernel_rfl
theorem jg:(prog.info? 104).map (·.size)=some 34:=by kernel_rfl
theorem qiD(w:World)(link:qf)(hl:link.length=32)(n:Int):
 Calls prog 78 #[jL b8 link,.int .i64 n] w fun e w'=>∃g c,e= .returned (.agg (qy n ((ki link ku 44).take 32) (.slice (some ⟨g,32,none⟩) 12 c)).toArray)∧w.heap.size≤g∧12≤c∧(∃cs,w'.heap[g]?=some (.cells cs 5 (0,0)))∧
  Rd b8 w' w'.heap.size (some ⟨g,32,none⟩) ((ki link ku 44).drop 32)∧Below w.heap.size w w':=by
 have HS:=qe hl;obtain⟨V,hV⟩:∃V,V=ki link ku 44:=⟨_,rfl⟩;have HVl:=qe (show V.length=44 by rw[hV];exact kO _ _ _ (by omega));have HV:=qe hV;obtain⟨Kk,hKk⟩:∃Kk,Kk=V.take 32:=⟨_,rfl⟩;have HKl:=qe (show Kk.length=32 by rw[hKk,QV,HVl.1];rfl);have HKe:=qe hKk;obtain⟨w2,hw2⟩:∃w2,w2=(w.alloc (.cells (link.map b8).toArray 23)).alloc (.cells qg.toArray 104):=⟨_,rfl⟩
 have HA2:=qe (show Arr b8 w2 w.heap.size 23 link by rw[hw2];exact(Arr.new b8 w 23 link).alloc _);have HZ2:=qe (show Blk w2 (w.heap.size+1) 104 qg by rw[hw2];exact Blk.at_size _ _ (by simp));have HB2:=qe (show Below w.heap.size w w2 by rw[hw2];exact((QK _ w).alloc (QI _) _).alloc (by simp) _);have hzw:w2.heap.size=w.heap.size+2:=by rw[hw2];simp
 have hz2:w.heap.size+1<w2.heap.size:=by omega
 have HW2:=qe hw2;rw[←hV,←hKk,qn];clear hl hV hw2 hKk hzw;go_enter func78,ntmps78
 go_upto_region 1 with fail
 have hw2:=HW2.1;simp only[q7]at hw2
 rw[←hw2];clear hw2;have hlb:=qb7 w2 link HS.1 ⟨#[107,101,121]⟩ ku ql8 (by decide) 44 (by omega);rw[qn,←HV.1,show(((44:Nat):Nat):Int)=44 from rfl]at hlb;have HL:=qe hlb;clear hlb;go_wp2_with (first|(refine qm rfl 23 (.tmp 2) rfl w.heap.size rfl _ link HA2.1 _ underlying23 rfl (by rw[qR,HS.1]) ?_))
 refine HL.1.mono ?_;rintro e w4 ⟨A4,c4,rfl,ho,hb⟩;obtain⟨g,cg,eg,hgb,hgl,hc44⟩:=ho.form' HVl.1 (by omega);injection eg with eg1 eg2 eg3;subst eg1;subst eg3;have HZ4:=qe (HZ2.1.below hb (by omega));have HB4:=qe (HB2.1.trans (hb.mono HB2.1.size));have hs4:=hb.size;obtain⟨w5,hw5⟩:∃w5,w5=w4.alloc (.cells ((QL 32 0#8).map b8).toArray 92):=⟨_,rfl⟩;have HY5:=qe (show Arr b8 w5 w4.heap.size 92 (yA V 0) by rw[hw5];exact(Arr.new b8 w4 92 (QL 32 0#8)).cast (by unfold yA;simp))
 have HZ5:=qe (show Blk w5 (w.heap.size+1) 104 qg by rw[hw5];exact HZ4.1.alloc _);have HO5:=qe (show Own b8 w5 w2.heap.size 5 (.slice (some ⟨g,0,none⟩) 44 c4) V by rw[hw5];exact ho.alloc _);have HB5:=qe (show Below w.heap.size w w5 by rw[hw5];exact HB4.1.alloc HB4.1.size _);have HW5:=qe hw5;clear ho hb HL hw5 eg2 HZ2 HA2;go_upto_region 3 with fail
 have hw5:=HW5.1;simp only[show((QL 32 0#8).map b8).toArray= #[QM .u8 0,QM .u8 0,QM .u8 0,QM .u8 0,QM .u8 0,QM .u8 0,QM .u8 0,QM .u8 0,QM .u8 0,QM .u8 0,QM .u8 0,QM .u8 0,QM .u8 0,QM .u8 0,QM .u8 0,QM .u8 0,QM .u8 0,QM .u8 0,QM .u8 0,QM .u8 0,QM .u8 0,QM .u8 0,QM .u8 0,QM .u8 0,QM .u8 0,QM .u8 0,QM .u8 0,QM .u8 0,QM .u8 0,QM .u8 0,QM .u8 0,QM .u8 0]from rfl]at hw5
 rw[←hw5];clear hw5;go_wp2_with fail
 go_loopw [8] (fun v wr=>∃k:Nat,k≤32∧v= .int .i64 k∧Arr b8 wr w4.heap.size 92 (yA V k)∧Blk wr (w.heap.size+1) 104 qg∧Own b8 wr w2.heap.size 5 (.slice (some ⟨g,0,none⟩) 44 c4) V∧Below w.heap.size w wr) (fun v _=>32-(intOf v).toNat)
 case atStart=>exact⟨0,by omega,rfl,HY5.1,HZ5.1,HO5.1,HB5.1⟩
 case round=>
  clear HY5 HZ5 HO5 HB5;obtain⟨k,hk,rfl,ha,hzr,ho,hb⟩:=hrel;have HA:=qe ha;have HZ:=qe hzr;have HO:=qe ho;have HB:=qe hb;clear ha hzr ho hb;by_cases hlt:k<32
  ·have c1:=((HO.1).at_ (k:=k) (by rw[HVl.1];omega)).1
   have c2:=HA.1.cellD (k:=k) (by rw[qg3 _ _ (by rw[HVl.1];omega) hk];exact hlt) 0#8;have f2:=HA.1.frozen k;have hy:V[k]'(by rw[HVl.1];omega)=V.getD k 0#8:=by rw[QR,QT (by rw[HVl.1];omega)];rfl
   rw[hy]at c1;have Hs:=qe (qg4 V k (by rw[HVl.1];omega) hlt);generalize V.getD k 0#8=y at c1 Hs;generalize(yA V k).getD k 0#8=y0 at c2;simp only[b8]at c1 c2;have lk:(k:Int)<32:=by omega
   have lk4:(k:Int)<44:=by omega
   clear hy;go_wp2_with fail
   go_roundw
   case rel=>exact⟨k+1,by omega,by go_num,(HA.1.set_ k y).cast Hs.1,HZ.1.far (by show w.heap.size+1≠w4.heap.size;omega) _,HO.1.kept (qM wr w4.heap.size k _) (.inr (fun e=>by injection e with e;have e2:g=w4.heap.size:=e;omega)),HB.1.setCell (by show w.heap.size≤w4.heap.size;omega) _⟩
   case measure=>simp[intOf];omega
  ·obtain rfl:k=32:=by omega
   rw[show(((32:Nat)):Int)=32 from rfl];have HA':=qe (HA.1.cast (show yA V 32=Kk by rw[qg5];exact HKe.1.symm));clear HA;have HA:=HA';clear HA';have HKeep:=qe (show∀W':World,Arr b8 W' w4.heap.size 92 Kk→W'.rangeAt w4.heap.size 0 (Kk.map b8)from fun W' ha=>ha.whole);have hk3:=HKeep.1 _ HA.1.drew;have hu:=underlying92;have hi32:(prog.info? 92).map (·.size)=some (Kk.map b8).length:=by rw[QN,HKl.1];exact qjy
   have hci:(44:Int)≤(c4:Int):=by omega
   go_upto_region 7 with fail
   refine wp_region_noPanic ?_;refine wp_region_held_drew (S:=fun w'=>w'.rangeAt w4.heap.size 0 (Kk.map b8)) (by kernel_rfl) hk3 (fun hS=>?_);refine tkA 0 (.int .i64 n) hS ?_;refine tkK 1 (.agg (Kk.map b8).toArray) rfl rfl (yieldsIf_load_mid (by rfl) 92 (.tmp 7) rfl w4.heap.size 0 rfl (Kk.map b8) _ (fun _ h=>h) hu rfl hi32) hS ?_;refine tkA 2 (.slice (some ⟨g,0,none⟩) 44 c4) hS ?_;try simp only[Act.put,qj,qz,qv]
   refine tkH 3 (.slice (some ⟨g,32,none⟩) 12 (c4-32)) ?_ hS ?_
   ·intro w' hw'
    go_simp;all_goals first|omega|(intro h;omega)
   refine tkK 4 (.agg (qy n Kk (.slice (some ⟨g,32,none⟩) 12 (c4-32))).toArray) rfl rfl (Or.inl ⟨by rfl,fun w' _=>zn rfl _ rfl (qg6 n Kk HKl.1 _ _ _) w'⟩) hS ?_;try simp only[Act.put,qj,qz,qv]
   refine rdH 5 (fun K' hK=>?_);rw[if_pos (by rfl)];refine qo 104 (.tmp 4) (.tmp 28) rfl (w.heap.size+1) 0 rfl (qy n Kk (.slice (some ⟨g,32,none⟩) 12 (c4-32))) rfl _ _ [] qg [] HZ.1.drew (by simp) rfl (by rw[qw _ _ _ HKl.1];rfl) (by rw[jg,qw _ _ _ HKl.1]) (qF _ _ _ _ _) ?_;intro w6 hx6 hg6;have HX6:=qe (show Blk w6 (w.heap.size+1) 104 (qy n Kk (.slice (some ⟨g,32,none⟩) 12 (c4-32)))from hx6.cast (by simp))
   have HG6:=qe hg6;have HA6:=qe (HA.1.drew.grown hg6 (fun e=>by injection e with e;omega));have HO6:=qe (HO.1.drew.kept hg6 (.inr (fun e=>by injection e with e;have e2:g=w.heap.size+1:=e;omega)));clear hx6 hg6;refine hK.out _ _ (HKeep.1 _ HA6.1) (fun hS=>?_);clear hK K';try simp only[Act.put,qj,qz,qv]
   refine wpAnyH_done (by kernel_rfl) ?_ _;refine NoPanic.normal ?_;go_wp2_with fail
   refine bodyPost_ret (v:= .agg (qy n Kk (.slice (some ⟨g,32,none⟩) 12 (c4-32))).toArray) (qcZ (g:=w.heap.size+1) rfl _ _ _ _ _ rfl HX6.1 underlying104 rfl (by rw[jg,qw _ _ _ HKl.1])) rfl ?_;have hty:∃cs,w6.heap[g]?=some (.cells cs 5 (0,0)):=by
    rcases HO6.1.2 with⟨e,-⟩|⟨g',cap',cur,e,-,hg',-⟩
    ·cases e
    ·injection e with e1 e2 e3
     injection e1 with e1;injection e1 with e1;subst e1;exact⟨cur,hg'⟩
   have hc12:12≤c4-32:=by
    obtain⟨_,c9,e9,-,-,h9,-⟩:=HO6.1.shape' HVl.1;injection e9 with _ _ e9;omega
   exact⟨g,_,rfl,by omega,hc12,hty,HO6.1.rd.drop 32,HB.1.drew.grown HG6.1 HB.1.size (fun k e=>by cases e;omega)⟩
def Qq(x:Int):Value:= .int .i64 x
theorem qg7(x:Int):(Qq x).oneCell'=true:=rfl
def jp(link:qf)(place:Int)(hv av:Value)(low:Int):List Value:=link.map b8++ [.int .i64 place,hv,av,.int .i64 low]
section
variable{link:qf}{place low:Int}{hv av:Value}(hl:link.length=32)
include hl
theorem jS:(jp link place hv av low).length=36:=by simp[jp,hl]
theorem qb8:(jp link place hv av low)[32]?=some (.int .i64 place):=by
 unfold jp;rw[JA (by simp[hl])];simp[hl]
theorem qg8:(jp link place hv av low)[33]?=some hv:=by
 unfold jp;rw[JA (by simp[hl])];simp[hl]
theorem qb9:(jp link place hv av low)[34]?=some av:=by
 unfold jp;rw[JA (by simp[hl])];simp[hl]
theorem qg9:(jp link place hv av low)[35]?=some (.int .i64 low):=by
 unfold jp;rw[JA (by simp[hl])];simp[hl]
theorem qha(p:Int):(jp link place hv av low).set 32 (.int .i64 p)=jp link p hv av low:=by
 unfold jp;simp[JR,hl]
theorem qhb(v:Value):(jp link place hv av low).set 33 v=jp link place v av low:=by
 unfold jp;simp[JR,hl]
theorem qhc(v:Value):(jp link place hv av low).set 34 v=jp link place hv v low:=by
 unfold jp;simp[JR,hl]
end
theorem qmt(link:qf)(place low:Int)(hv av:Value):jp link place hv av low=[]++(link.map b8++ [.int .i64 place,hv,av,.int .i64 low]):=rfl
theorem vX{link:qf}{place low:Int}{hv av:Value}(h1:hv.oneCell'=true)(h2:av.oneCell'=true):∀u∈jp link place hv av low,u.oneCell'=true:=by
 intro u hu;unfold jp at hu;simp only[QS,Ja,List.not_mem_nil,or_false]at hu;rcases hu with hu|rfl|rfl|rfl|rfl
 ·obtain⟨x,-,rfl⟩:=List.mem_map.1 hu;exact qH x
 ·rfl
 ·exact h1
 ·exact h2
 ·rfl
theorem qdZ(w:World)(g:Nat)(T:TypeId){link:qf}{place low:Int}{hv av:Value}(hl:link.length=32)(b:Blk w g T (jp link place hv av low)):w.rangeAt g 0 (link.map b8):=by
 have h:=b.range 0 32;rwa[List.drop_zero,show(jp link place hv av low).take 32=link.map b8 by unfold jp;rw[List.take_left' (by rw[QN,hl])]]at h
structure RO where
 o:jm
 r:Nat
 off:Nat
 c:Nat
def RO.cells(x:RO):List Value:=qy x.o.no x.o.key (.slice (some ⟨x.r,x.off,none⟩) 12 x.c)
structure RO.At(w:World)(x:RO):Prop where
 key:x.o.key.length=32
 nn:x.o.nonce.length=12
 ty:∃cs,w.heap[x.r]?=some (.cells cs 5 (0,0))
 rd:w.rangeAt x.r x.off (x.o.nonce.map b8)
 cap:12≤x.c
theorem RO.At.lt{w:World}{x:RO}(h:x.At w):x.r<w.heap.size:=by
 obtain⟨cs,hc⟩:=h.ty;rcases Nat.lt_or_ge x.r w.heap.size with h1|h1
 ·exact h1
 ·rw[J3 h1]at hc;cases hc
theorem RO.At.of{w w':World}{x:RO}(h:x.At w)(hs:w.heap.size≤w'.heap.size)(hb:w'.heap[x.r]?=w.heap[x.r]?):x.At w':=
 ⟨h.key,h.nn,by rw[hb];exact h.ty,fun j u hu=>by rw[←h.rd j u hu];exact JK hb,h.cap⟩
theorem RO.At.below{w w':World}{x:RO}{B:Nat}(h:x.At w)(hb:Below B w w')(hB:w.heap.size≤B):x.At w':=h.of hb.size (hb.block _ (by have:=h.lt;omega))
theorem RO.At.grown{w w':World}{x:RO}{g:Nat}(h:x.At w)(hg:w.grownBy w' (some g))(hne:x.r≠g):x.At w':=h.of hg.size (hg.block _ h.lt (fun e=>by injection e with e;exact hne e))
theorem RO.At.other{w w':World}{x:RO}{g:Nat}{T:TypeId}{cs:Array Value}(h:x.At w)(hg:w.grownBy w' (some g))(hb:w.heap[g]?=some (.cells cs T (0,0)))(hT:T≠5):x.At w':=h.grown hg (fun e=>by
 obtain⟨c2,h2⟩:=h.ty;rw[e,hb]at h2;injection h2 with h2;injection h2 with _ h3;exact hT h3)
theorem RO.At.alloc{w:World}{x:RO}(h:x.At w)(o:Obj):x.At (w.alloc o):=h.below ((QK _ w).alloc (QI _) o) (QI _)
theorem RO.At.grew{w w':World}{x:RO}{v v':Value}{B E K n:Nat}{us:List Value}(h:x.At w)(hg:kU w w' v v')(ho:w.ownsRow B E K v n us)(hE:E≠5):x.At w':=by
 rcases hg with⟨rfl,rfl⟩|⟨g,m,m',c,rfl,rfl,hg⟩|⟨-,hg⟩
 ·exact h
 ·rcases ho.2 with⟨e,-⟩|⟨g',cap,cur,e,-,hg',-⟩
  ·cases e
  ·injection e with e1 e2 e3
   injection e1 with e1;injection e1 with e1;subst e1;exact h.other hg hg' hE
 ·exact h.of hg.size (hg.block _ h.lt (by simp))
theorem RO.At.read{w:World}{x:RO}(h:x.At w):Rd b8 w (x.r+1) (some ⟨x.r,x.off,none⟩) x.o.nonce:=fun _=>⟨x.r,x.off,rfl,by omega,fun j u hu=>by
 have:=h.rd j (b8 u) (by rw[Jn,hu];rfl);exact this⟩
theorem RO.len{w:World}{x:RO}(h:x.At w):x.cells.length=34:=qw _ _ _ h.key
theorem RO.one(x:RO):∀u∈x.cells,u.oneCell'=true:=qF _ _ _ _ _
theorem RO.flat_len{w:World}{rs:List RO}(h:∀x∈rs,x.At w):(rs.flatMap RO.cells).length=rs.length*34:=vm (fun x hx=>RO.len (h x hx))
theorem RO.flat_one(rs:List RO):∀u∈rs.flatMap RO.cells,u.oneCell'=true:=fun u hu=>by
 obtain⟨x,-,hx⟩:=List.mem_flatMap.1 hu;exact x.one u hx
theorem qmu{w:World}{B g off:Nat}{xs:qf}(h:Rd b8 w B (some ⟨g,off,none⟩) xs):w.rangeAt g off (xs.map b8):=fun j u hu=>by
 rw[Jn]at hu;obtain⟨y,hy,rfl⟩:=Option.map_eq_some_iff.1 hu;have hj:=(JS.1 hy).1;obtain⟨b,o,e,-,hc⟩:=h (by omega);injection e with e;injection e with e1 e2;subst e1;subst e2;exact hc j y hy
structure RL where
 l:jo
 rs:List RO
 hA:Option Addr
 hc:Nat
 aA:Option Addr
 ac:Nat
def RL.cells(x:RL):List Value:=jp x.l.link x.l.place (.slice x.hA x.rs.length x.hc) (.slice x.aA x.l.asked.length x.ac) x.l.low
theorem qd0{α:Type}{f:α→Value}{w:World}{B B':Nat}{A:Option Addr}{xs:List α}(h:Rd f w B A xs)(hB:B≤B'):Rd f w B' A xs:=fun hn=>by
 obtain⟨b,off,e,hb,hc⟩:=h hn;exact⟨b,off,e,by omega,hc⟩
structure RL.At(w:World)(x:RL):Prop where
 ok:LOK x.l
 fst:x.rs.map RO.o=x.l.held
 rows:RdV w w.heap.size x.hA (x.rs.flatMap RO.cells)
 none_:x.rs.length=0→x.hA=none∧x.hc=0
 each:∀o∈x.rs,o.At w
 asked:Rd Qq w w.heap.size x.aA x.l.asked
theorem RL.At.below{w w':World}{x:RL}{B:Nat}(h:x.At w)(hb:Below B w w')(hB:w.heap.size≤B):x.At w':=
 ⟨h.ok,h.fst,qd0 (Rd.below h.rows (hb.mono hB)) hb.size,h.none_,fun o ho=>(h.each o ho).below hb hB,qd0 (Rd.below h.asked (hb.mono hB)) hb.size⟩
theorem qkV:(prog.info? 104).map (fun i=>(i.zero,i.size,i.bytes))=some (some (.agg qg.toArray),34,64):=by kernel_rfl
theorem qcC:(prog.info? 89).map (fun i=>(i.zero,i.size,i.bytes))=some (some (.agg (jp (QL 32 0#8) 0 (.slice none 0 0) (.slice none 0 0) 0).toArray),36,96):=by kernel_rfl
theorem qT:(prog.info? 89).map (·.size)=some 36:=by kernel_rfl
def qoH:Value→Nat
 | .slice _ n _=>n
 |_=>0
theorem qmv:(prog.info? 3).map (fun i=>(i.zero,i.size,i.bytes))=some (some (.int .i64 0),1,8):=by kernel_rfl
theorem qe4:∀(l:List jm) (a:Int) (n:Nat),yM l→(∀o∈l,a≤o.no∧o.no<a+(n:Int))→l.length≤n
 | [],_,_,_,_=>Nat.zero_le _
 |o::r,a,n,hr,hb=>by
  obtain⟨h1,h2⟩:=List.pairwise_cons.1 hr;have ho:=hb o (by simp);cases n with
  |zero=>exfalso;have:=ho.1;have:=ho.2;simp at this;omega
  |succ n=>
   rw[Jr];have:=qe4 r (a+1) n h2 (fun x hx=>by
    have:=h1 x hx;have h3:=(hb x (by simp[hx])).2;refine⟨by omega,?_⟩;have e:((n+1:Nat):Int)=(n:Int)+1:=by omega
    omega)
   omega
theorem qhd:∀(l:List Int) (z:Int),l.foldl (fun m x=>if m<x then x else m) z=z∨l.foldl (fun m x=>if m<x then x else m) z∈l
 | [],z=> .inl rfl
 |a::r,z=>by
  rw[List.foldl_cons];rcases qhd r (if z<a then a else z)with h|h
  ·by_cases hz:z<a
   ·rw[if_pos hz]at h;right;rw[if_pos hz,h];simp
   ·rw[if_neg hz]at h;left;rw[if_neg hz,h]
  ·right;exact List.mem_cons_of_mem _ h
theorem LOK.held_len{l:jo}(k:LOK l):l.held.length≤64:=by
 refine qe4 l.held (l.place-65) 64 k.rise (fun o ho=>?_);obtain⟨h1,h2,h3,h4,-⟩:=k.held o ho;have hh:=k.hi;have hne:o.no≠l.place-1:=by
  intro e;unfold hiM hiA at hh;rcases qhd l.asked (l.low-1)with h|h
  ·rw[h]at hh;omega
  ·rw[hh]at h;rw[←e]at h;exact h3 h
 refine⟨h4,?_⟩;show o.no<l.place-65+((64:Nat):Int);omega
theorem jA{P:Program}{ops:Array Oper}{rest:List Oper}{op:Oper}{a:Act}{w:World}{Q:Exit→Act→World→Prop}(hgd:Region.wanted op (yielded ops a.tmps)=true)(ty:TypeId)(x:Operand)(ho:op.op= .load ty x)
 (b o:Nat)(hx:a.eval x= .pointer (some ⟨b,o,none⟩))(cs:List Value)(d:TypeDesc)(hc:w.rangeAt b o cs)
 (hu:P.underlying ty=some d)(hd:d.isRow=true)(hi:(P.info? ty).map (·.size)=some cs.length)
 (h:wpList P ops Q rest (a.put op.dst (.agg cs.toArray)) w):wpList P ops Q (op::rest) a w:=
 wpList_step fun K hK=>by
  rw[if_pos hgd];exact wp_load_mid ty x ho b o hx cs d hc hu hd hi (hK _ _ h)
end
section
open Go.RowKit
set_option maxRecDepth 100000
theorem zo.other{w w':World}{gC gl g:Nat}{xs:List LP}{cs:List Value}(c:zo w gC gl xs)(hz:Blk w g 94 cs)(hg:w.grownBy w' (some g)):zo w' gC gl xs:=
 ⟨c.top.kept hg (fun e=>by
  injection e with e;have h2:w.heap[g]?=some (.cells cs.toArray 94 (0,0)):=hz;have h3:w.heap[gC]?=some (.cells #[.slice (some ⟨gl,0,none⟩) xs.length xs.length] 117 (0,0)):=c.top;rw[←e,h3]at h2;injection h2 with h2;injection h2 with _ hT _;exact absurd hT (by decide)),
  c.lines.grown hg (fun e=>by
   injection e with e;have h2:w.heap[g]?=some (.cells cs.toArray 94 (0,0)):=hz;have h3:w.heap[gl]?=some (.cells (xs.flatMap LP.cells).toArray 130 (0,0)):=c.lines;rw[←e,h3]at h2;injection h2 with h2;injection h2 with _ hT _;exact absurd hT (by decide)),
  c.ok,fun x hx=>(c.held x hx).cells hz (by decide) hg,c.gms,c.blks⟩
theorem qmw(w:World)(gC gl:Nat)(xs:List LP)(hc:zo w gC gl xs)(i:Nat)(hi:i<xs.length)(hm:xs.length≤1000)(hE:qQ xs[i].l xs[i].l.place=0):
 Calls prog 34 #[.pointer (some ⟨gC,0,none⟩),.int .i64 (i:Int)] w fun e w'=>∃b y,e= .returned (.tuple #[.agg (qy xs[i].l.place (qS xs[i].l xs[i].l.place).key (qx b)).toArray,.nilIface])∧
  Arr b8 w' b 5 ((qS xs[i].l xs[i].l.place).key++(qS xs[i].l xs[i].l.place).nonce)∧LP.l y=jR xs[i].l xs[i].l.place∧zo w' gC gl (xs.set i y)∧b∉ (xs.set i y).flatMap (fun x=>x.hp.map Prod.snd)∧w.grownBy w' (some gl)∧w.heap.size≤LP.gm y∧∀z∈b::y.hp.map Prod.snd,z∈xs[i].hp.map Prod.snd∨w.heap.size≤z:=by
 obtain⟨w1,hw1⟩:∃w1,w1=w.alloc (.cells qg.toArray 94):=⟨_,rfl⟩;have HZ1:=qe (show Blk w1 w.heap.size 94 qg by rw[hw1];exact Blk.new _ _ _);have HK1:=qe (show Below w.heap.size w w1 by rw[hw1];exact(QK _ w).alloc (QI _) _);have hz1:w1.heap.size=w.heap.size+1:=by rw[hw1];simp
 have HW1:=qe hw1;clear hw1;have hgl:=hc.lines.lt;have HC1:=qe (hc.below HK1.1);have HL:=qe (uz w1 gC gl xs HC1.1 i hi hm);have hx:=hc.ok _ (Q5 hi);have c35:=HC1.1.range i hi 35 _ (zR hx.lok.len);have HT:=qe (qe2 w1 gC gl xs HC1.1 i hi hm _ hE);have hKl:(qS xs[i].l xs[i].l.place).key.length=32:=by
  rw[qbm (l:=xs[i].l) (n:=xs[i].l.place) (k:=0) (by omega) hE];exact qbY _ _
 obtain⟨O,hO⟩:∃O,O=qS xs[i].l xs[i].l.place:=⟨_,rfl⟩;obtain⟨L,hL⟩:∃L,L=jR xs[i].l xs[i].l.place:=⟨_,rfl⟩;rw[←hO,←hL]at HT;rw[←hO]at hKl;rw[←hO,←hL];generalize xs[i].l.place=p at c35 HT ⊢;have HKl:=qe hKl;clear hE hx hO hL hc hKl;go_enter func34,ntmps34
 go_upto_region 1 with fail
 have hw1:=HW1.1;simp only[q7]at hw1
 rw[←hw1];clear hw1;go_wp2_with fail
 refine HL.1.mono ?_;rintro e w2 ⟨rfl,rfl⟩;go_wp2_with fail
 refine HT.1.mono ?_;rintro e w3 ⟨b,y,rfl,hA3,hyl,hC3,hnd,hg3,hgm3,hzz3⟩;have HZ3:=qe (HZ1.1.grown hg3 (fun e=>by injection e with e;omega));have HZz3:=qe hzz3;have HA3:=qe hA3;have HC3:=qe hC3;have HYl:=qe hyl;have HNd:=qe hnd;have HG3:=qe (show w.grownBy w3 (some gl)from qp ⟨HK1.1.os,HK1.1.tape,HK1.1.output,HK1.1.size,fun k hk _=>HK1.1.block k hk⟩ hg3 (fun _ e=> .inl e))
 clear hA3 hC3 hyl hnd hg3 hzz3;go_wp2_with (refine qi rfl 94 (.tmp 4) (.tmp 21) rfl w.heap.size 0 rfl (qy p O.key (qx b)) rfl 94 _ [] qg [] HZ3.1 (by simp) rfl (by rw[qw _ _ _ HKl.1];rfl) (by rw[qA,qw _ _ _ HKl.1]) (qF _ _ _ _ _) ?_;intro w9 hx9 hg9)
 have HX9:=qe (show Blk w9 w.heap.size 94 (qy p O.key (qx b))from hx9.cast (by simp));refine bodyPost_ret (v:= .tuple #[.agg (qy p O.key (qx b)).toArray,.nilIface]) (qu (g:=w.heap.size) rfl _ _ _ _ _ _ rfl rfl HX9.1 underlying94 rfl (by rw[qA,qw _ _ _ HKl.1])) rfl ?_;have hg:=HG3.1;exact⟨b,y,rfl,j6 HA3.1 HZ3.1 (by decide) hg9,HYl.1,HC3.1.other HZ3.1 hg9,HNd.1,⟨hg9.os.trans hg.os,hg9.tape.trans hg.tape,hg9.output.trans hg.output,QX hg.size hg9.size,fun k hk hne=>(hg9.block k (Nat.lt_of_lt_of_le hk hg.size) (fun e=>by injection e with e;omega)).trans (hg.block k hk hne)⟩,by omega,fun z hz=>by
  rcases HZz3.1 z hz with h|h
  ·exact .inl h
  ·exact .inr (by omega)⟩
end
section
open Go.RowKit
theorem qmx(L:List Int)(low:Int)(k:Nat)(h:k<L.length):hiA (L.take (k+1)) low=if hiA (L.take k) low<L[k]then L[k]else hiA (L.take k) low:=by
 rw[List.take_succ_eq_append_getElem h,qbZ]
theorem qe5(w:World)(link:qf)(hl:link.length=32)(place low:Int)(hv:Value)(B:Nat)(A:Option Addr)(n c:Nat)(L:List Int)(hr:Rd Qq w B A L)(hB:B≤w.heap.size)(hn:L.length=n)(hm:n≤1000000)
 (low0:0≤low)(low1:low≤4294967295):
 Calls prog 77 #[.agg (jp link place hv (.slice A n c) low).toArray] w fun e w'=>e= .returned (.int .i64 (hiA L low))∧Below w.heap.size w w':=by
 obtain⟨C,hC⟩:∃C,C=jp link place hv (.slice A n c) low:=⟨_,rfl⟩;obtain⟨w1,hw1⟩:∃w1,w1=w.alloc (.cells C.toArray 89):=⟨_,rfl⟩;have HX:=qe (show Blk w1 w.heap.size 89 C by rw[hw1];exact Blk.new _ _ _);have HB1:=qe (show Below w.heap.size w w1 by rw[hw1];exact(QK _ w).alloc (QI _) _);have hr1:=hr.below (HB1.1.mono hB);have c34:=HX.1.cell 34 (u:= .slice A n c) (by rw[hC];exact qb9 hl)
 have c35:=HX.1.cell 35 (u:= .int .i64 low) (by rw[hC];exact qg9 hl);have HW1:=qe hw1;have Hh:=qe hr1;have Hn:=qe hn;rw[←hC];clear hC hw1 hr hr1 hn hl;go_enter func77,ntmps77
 go_upto_region 1 with fail
 rw[←HW1.1];go_wp2_with fail
 go_loop [3,4] (fun m i=>∃k:Nat,k≤n∧i= .int .i64 k∧m= .int .i64 (hiA (L.take k) low)) (fun _ i=>n-(intOf i).toNat)
 case atStart=>exact⟨0,by omega,rfl,rfl⟩
 case round=>
  obtain⟨k,hk,rfl,rfl⟩:=hrel;by_cases hlt:k<n
  ·have hkl:k<L.length:=by rw[Hn.1];exact hlt
   obtain⟨b,off,rfl,hB,hc⟩:=Hh.1.at_ hkl;have ht:=qmx L low k hkl;generalize L[k]=x at hc ht;generalize hiA (L.take k) low=m at ht ⊢;have hc':w1.cell? ⟨b,off+k,none⟩=some (.int .i64 x):=hc;have Ht:=qe ht;clear ht hc;by_cases hx:m<x
   ·go_wp2
    go_round
    case rel=>exact⟨k+1,by omega,by go_num,by rw[Ht.1,if_pos hx]⟩
    case measure=>simp[intOf];omega
   ·go_wp2
    go_round
    case rel=>exact⟨k+1,by omega,by go_num,by rw[Ht.1,if_neg hx]⟩
    case measure=>simp[intOf];omega
  ·obtain rfl:k=n:=by omega
   have ht:L.take k=L:=Js (by rw[Hn.1];omega);rw[ht];clear ht
   go_wp2
   go_ret;exact⟨rfl,HB1.1⟩
end
end Go.Proofs.YtelgjaiknaalkaaGreatDoor
