/- Lemmas, joined and made smaller by a program. -/
import Derived.Test.YtelgjaiknaalkaaDoorPo07
import Derived.Test.YtelgjaiknaalkaaDoorPo05
import Derived.Test.YtelgjaiknaalkaaDoorPo02
import Derived.Deep.RegionHeld3
import Derived.RangeFuncCalls
import Derived.OrdersIn
import Derived.OwnWalkIn
open Go.Lib renaming hid → qq
set_option linter.unusedVariables false
set_option linter.unusedSimpArgs false
namespace Go.Proofs.YtelgjaiknaalkaaDoor
open Go.RowKit
theorem tags_any(A1 A2:Option Addr)(n1 c1 n2 c2:Nat)(w:World):
 Calls Tryd.prog 78 #[.slice A1 n1 c1,.slice A2 n2 c2] w fun e w'=>e= .returned (.func (.func 81) #[] #[.pointer (some ⟨w.heap.size,0,none⟩),.pointer (some ⟨w.heap.size+1,0,none⟩)])∧
  w'=(w.alloc (.cells #[.slice A1 n1 c1] 33)).alloc (.cells #[.slice A2 n2 c2] 33):=by
 go_enter Tryd.func78,Tryd.ntmps78
 go_wp2_with fail
 go_ret
 exact⟨rfl,rfl⟩
abbrev Ti:={i:Nat//1≤i∧i≤255}
def encT(key inf:List (BitVec 8))(x:Ti):Array Value:= #[arrV b8 (tagI key inf x.1)]
def KpT(n₀ e1 e2:Nat)(A B:World):Prop:=Below n₀ A B∧∀g o,A.heap[g]?=some o→o.isCells=true→g≠e1→g≠e2→B.heap[g]?=some o
theorem KpT.t{n₀ e1 e2:Nat}{A B C:World}(h:KpT n₀ e1 e2 A B)(k:KpT n₀ e1 e2 B C):KpT n₀ e1 e2 A C:=
 ⟨h.1.trans k.1,fun g o hg hc h1 h2=>k.2 g o (h.2 g o hg hc h1 h2) hc h1 h2⟩
theorem KpT.of_below{n₀ e1 e2:Nat}{A B:World}(h:Below A.heap.size A B)(hn:n₀≤A.heap.size):KpT n₀ e1 e2 A B:=⟨h.mono hn,fun g o hg _ _ _=>(h.block g (Array.getElem?_eq_some_iff.1 hg).1).trans hg⟩
theorem KpT.put{n₀ e1 e2 W0 l:Nat}{W:World}{o o':Obj}(hl:W0≤l)(hn:n₀≤W0)(ho:W.heap[l]?=some o)(hc:o.isCells=false):KpT n₀ e1 e2 W (W.putObj l o'):=
 ⟨(Below.refl _ W).grown (grownBy_putObj' W l o') (by have:=(Array.getElem?_eq_some_iff.1 ho).1;omega) (fun k e=>by cases e;omega),fun g u hg hu _ _=>by
   have hne:g≠l:=fun e=>by subst e;rw[hg]at ho;cases ho;rw[hu]at hc;cases hc
   rw[World.putObj_heap_other hne];exact hg⟩
theorem KpT.arr{α:Type}{f:α→Value}{T:TypeId}{xs:List α}{n₀ e1 e2 g:Nat}{A B:World}(h:KpT n₀ e1 e2 A B)(ha:Arr f A g T xs)(h1:g≠e1)(h2:g≠e2):Arr f B g T xs:=h.2 g _ ha rfl h1 h2
theorem KpT.box{n₀ e1 e2 g:Nat}{t:TypeId}{v:Value}{A B:World}(h:KpT n₀ e1 e2 A B)(ha:Boxed A g t v)(h1:g≠e1)(h2:g≠e2):Boxed B g t v:=h.2 g _ ha rfl h1 h2
def LastT(W0:Nat)(w:World)(v:Value)(key inf:List (BitVec 8))(k:Nat):Prop:=
 (k=0∧v= .slice none 0 0)∨∃g,v= .slice (some ⟨g,0,none⟩) 32 32∧0<k∧W0≤g∧Arr b8 w g 29 (tagI key inf k)
theorem LastT.rd{W0:Nat}{w:World}{v:Value}{key inf:List (BitVec 8)}{k:Nat}(h:LastT W0 w v key inf k):∃A T,v= .slice A T T∧T=(tagI key inf k).length∧Rd b8 w w.heap.size A (tagI key inf k):=by
 rcases h with⟨rfl,rfl⟩|⟨g,rfl,hk,-,ha⟩
 ·exact⟨none,0,rfl,rfl,Rd.nil_ _ _ _ _⟩
 ·obtain⟨j,rfl⟩:∃j,k=j+1:=⟨k-1,by omega⟩
  exact⟨_,32,rfl,(tagI_len _ _ _).symm,(ha.rd 0).more ha.lt⟩
set_option maxRecDepth 100000 in
set_option maxHeartbeats 2000000 in
theorem tags1_in(m:Nat)(hm:3≤m)(l b1 b2 e1 e2 n₀ n1 c1 n2 c2:Nat)(A1 A2:Option Addr)(key inf:List (BitVec 8))(hn1:n1=key.length)(hn2:n2=inf.length)(hq1:n1≤100000)(hq2:n2≤100000)(J Jx:List Ti→World→Prop)(W:World)(hJ:AbidesFrom W.heap.size J)
 (hY:∀pre y W1,J pre W1→pre.length<255→YieldAt Fence.wide (m-1) Tryd.prog l (encT key inf y) W1 fun e W'=>
  (e= .returned (.bool true)∧J (pre++ [y]) W'∧KpT n₀ e1 e2 W1 W')∨(e= .returned (.bool false)∧Jx (pre++ [y]) W'))
 (hb1:Boxed W b1 33 (.slice A1 n1 c1))(hb2:Boxed W b2 33 (.slice A2 n2 c2))(hr1:Rd b8 W n₀ A1 key)(hr2:Rd b8 W n₀ A2 inf)(hn₀:n₀≤W.heap.size)
 (he1:n₀≤e1∧e1<W.heap.size)(he2:n₀≤e2∧e2<W.heap.size)(hbe:b1≠e1∧b1≠e2∧b2≠e1∧b2≠e2)(h0:J [] W):
 CallsIn Fence.wide m Tryd.prog 81 #[.func (.yield l) #[] #[],.pointer (some ⟨b1,0,none⟩),.pointer (some ⟨b2,0,none⟩)] W fun e W'=>(∃v,e= .returned v)∧
  ((∃ys:List Ti,ys.map Subtype.val=List.range' 1 255∧J ys W')∨(∃pre:List Ti,(∃k,pre.map Subtype.val=List.range' 1 k)∧Jx pre W')):=by
 refine callsIn_of_wp Tryd.func81 rfl trivial ?_ rfl
 simp only[Tryd.ntmps81,List.size_toArray,List.length_cons,List.length_nil,Nat.reduceAdd,Nat.reduceSub,Array.replicate_succ,Array.replicate_zero,List.push_toArray,List.append_toArray,List.nil_append,List.cons_append]
 have HJ:=qq hJ
 have HY:=qq hY
 have H0:=qq h0
 have HB1:=qq hb1
 have HB2:=qq hb2
 have R1:=qq hr1
 have R2:=qq hr2
 have H1:=qq hn1
 have H2:=qq hn2
 have HBe:=qq hbe
 have hm1:1≤m:=by omega
 have hm2:1≤m-1:=by omega
 clear hJ hY h0 hb1 hb2 hr1 hr2 hn1 hn2 hbe
 gi_wp2_with fail
 gi_loopw [4,5] (fun vl vi wr=>∃(k:Nat) (pre:List Ti),k≤254∧vi= .int .u8 ((k:Int)+1)∧pre.map Subtype.val=List.range' 1 k∧J pre wr∧LastT W.heap.size wr vl key inf k∧Boxed wr b1 33 (.slice A1 n1 c1)∧Boxed wr b2 33 (.slice A2 n2 c2)∧Rd b8 wr n₀ A1 key∧Rd b8 wr n₀ A2 inf∧W.heap.size≤wr.heap.size) (fun _ vi _=>(256-intOf vi).toNat)
 case atStart=>exact⟨0,[],by omega,by simp,rfl,H0.out,.inl ⟨rfl,rfl⟩,HB1.out,HB2.out,R1.out,R2.out,Nat.le_refl _⟩
 case round=>
  obtain⟨k,pre,hk,rfl,hpre,hJs,hla,hb1,hb2,hr1,hr2,hz⟩:=hrel
  obtain⟨Al,T,rfl,hT,hrl⟩:=hla.rd
  have hTb:T≤32:=by rw[hT];exact tagI_le _ _ _
  obtain⟨S,hS⟩:∃S,S=tagI key inf (k+1):=⟨_,rfl⟩
  have HSl:=qq (show S.length=32 by rw[hS];exact tagI_len _ _ _)
  have hx:b8 (BitVec.ofInt 8 ((k:Int)+1))= .int .u8 ((k:Int)+1):=by unfold b8 bv;rw[BitVec.toNat_ofInt];congr 1;omega
  have hRx:Rd b8 (wr.alloc (.cells #[.int .u8 ((k:Int)+1)] 5)) (wr.heap.size+1) (some ⟨wr.heap.size,0,none⟩) [BitVec.ofInt 8 ((k:Int)+1)]:=by have h:=Rd.new b8 wr 5 [BitVec.ofInt 8 ((k:Int)+1)];simp only[List.map_cons,List.map_nil,hx]at h;exact h
  have hn0r:n₀≤wr.heap.size:=by omega
  have hc:=tag_three (wr.alloc (.cells #[.int .u8 ((k:Int)+1)] 5)) n₀ n1 c1 (wr.heap.size+1) T T n2 c2 1 1 A1 Al A2 (some ⟨wr.heap.size,0,none⟩) key (tagI key inf k) inf _ (hr1.alloc hn0r _) (by simp;omega) H1.out (by rw[←H1.out];omega) ((hrl.alloc (Nat.le_refl _) _).more (by simp)) ((hr2.alloc hn0r _).more (by omega)) hRx (by simp) hT H2.out rfl (by rw[←hT,←H2.out];simp;omega)
  rw[arrV_mk,World.size_alloc,show tagV key (tagI key inf k++inf++ [BitVec.ofInt 8 ((k:Int)+1)])=tagI key inf (k+1)from rfl,←hS]at hc
  have HC:=qq hc
  have c1':=hb1.cell
  have c2':=hb2.cell
  have HBx:=qq hb1
  have HBy:=qq hb2
  have HR1:=qq hr1
  have HR2:=qq hr2
  have HLa:=qq hla
  have HJs:=qq hJs
  have Hpre:=qq hpre
  have HSe:=qq hS
  clear hb1 hb2 hr1 hr2 hla hJs hpre hS hx hRx hc hT hrl
  gi_wp2_with fail
  refine⟨trivial,?_⟩
  refine(callsIn_wide.2 HC.out).mono ?_
  rintro e w1 ⟨rfl,hb1⟩
  have hs1:wr.heap.size+1≤w1.heap.size:=by have:=hb1.size;rw[World.size_alloc]at this;exact this
  have HW1:=qq (show Below wr.heap.size wr w1 from((Below.refl _ wr).alloc (Nat.le_refl _) _).trans (hb1.mono (by omega)))
  have HZ1:=qq (Arr.new b8 w1 29 (List.replicate 32 0#8))
  clear hb1 HC c1' c2'
  gi_wp2_with (first
   |(refine wpListIn_store_arr rfl 29 (.tmp 6) (.tmp 15) rfl w1.heap.size rfl S rfl _ _ HZ1.out (by rw[HSl.out];rfl) (by rw[size32,HSl.out]) b8_one' ?_;intro w2 hp2 hg2;have HP2:=qq hp2;have HW2:=qq (show Below wr.heap.size wr w2 from(HW1.out.alloc (by omega) _).grown hg2 (by simp;omega) (fun k e=>by cases e;omega));clear hp2 hg2;obtain⟨fn,tmps,assign,body,hy,hR⟩:=HY.out pre ⟨k+1,by omega,by omega⟩ w2 (HJ.out _ _ _ none HJs.out (grown_none2 HW2.out) (fun r e=>by cases e)) (by have:=congrArg List.length Hpre.out;rw[List.length_map,List.length_range']at this;omega);dsimp only[encT]at hy;rw[←HSe.out,arrV_mk]at hy;have HRn:=qq hR;clear hR)
   |refine wpListIn_load_arr rfl 29 (.tmp 6) rfl w1.heap.size rfl _ S HP2.out _ Tryd.underlying29 rfl (by rw[size32,HSl.out]) ?_)
  have hz2:w1.heap.size<w2.heap.size:=HP2.out.lt
  have HLs:=qq (show(pre++ [(⟨k+1,by omega,by omega⟩:Ti)]).map Subtype.val=List.range' 1 (k+1) by rw[List.map_append,Hpre.out,List.range'_concat];simp;omega)
  refine HRn.out.mono ?_
  rintro e w3 (⟨rfl,hJ3,hk3⟩|⟨rfl,hJx3⟩)
  ·have hz3:=hk3.1.size
   have HJ3:=qq hJ3
   have HA3:=qq (hk3.arr HP2.out (by omega) (by omega))
   have HX3:=qq (hk3.box (boxed_bl HBx.out HW2.out) HBe.out.1 HBe.out.2.1)
   have HY3:=qq (hk3.box (boxed_bl HBy.out HW2.out) HBe.out.2.2.1 HBe.out.2.2.2)
   have hbw:Below n₀ w2 w3:=hk3.1
   have HR13:=qq ((HR1.out.below (HW2.out.mono hn0r)).below hbw)
   have HR23:=qq ((HR2.out.below (HW2.out.mono hn0r)).below hbw)
   clear hJ3 hk3 hbw HJs HBx HBy HR1 HR2 HW2 HP2 HRn HZ1 HW1
   by_cases hk254:k=254
   ·subst hk254
    gi_wp2_with fail
    refine bodyPost_ret (results_none rfl _ _ _) rfl ?_
    exact⟨⟨_,rfl⟩,.inl ⟨_,HLs.out,HJ3.out⟩⟩
   ·have hk255:¬((k:Int)+1=255):=by omega
    have hk3:(k:Int)+1≤254:=by omega
    gi_wp2_with fail
    go_roundw
    case rel=>
     exact⟨k+1,pre++ [⟨k+1,by omega,by omega⟩],by omega,by simp,HLs.out,HJ3.out,.inr ⟨w1.heap.size,rfl,by omega,by omega,HA3.out.cast HSe.out⟩,HX3.out,HY3.out,HR13.out,HR23.out,by omega⟩
    case measure=>simp[intOf];omega
  ·gi_wp2_with fail
   refine bodyPost_ret (results_none rfl _ _ _) rfl ?_
   exact⟨⟨_,rfl⟩,.inr ⟨_,⟨k+1,HLs.out⟩,hJx3⟩⟩
theorem tags_stops(m:Nat)(hm:3≤m)(b1 b2 e1 e2 n₀ n1 c1 n2 c2:Nat)(A1 A2:Option Addr)(key inf:List (BitVec 8))(hn1:n1=key.length)(hn2:n2=inf.length)(hq1:n1≤100000)(hq2:n2≤100000)(w:World)
 (hb1:Boxed w b1 33 (.slice A1 n1 c1))(hb2:Boxed w b2 33 (.slice A2 n2 c2))(hr1:Rd b8 w n₀ A1 key)(hr2:Rd b8 w n₀ A2 inf)(hn₀:n₀≤w.heap.size)
 (he1:n₀≤e1∧e1<w.heap.size)(he2:n₀≤e2∧e2<w.heap.size)(hbe:b1≠e1∧b1≠e2∧b2≠e1∧b2≠e2):
 SeqStopsK Fence.wide m Tryd.prog 81 #[.pointer (some ⟨b1,0,none⟩),.pointer (some ⟨b2,0,none⟩)] (fun x:Ti=>encT key inf x) (KpT n₀ e1 e2) (fun ys=>ys.map Subtype.val=List.range' 1 255) (fun pre=>∃k,pre.map Subtype.val=List.range' 1 k) 255 w:=fun l J Jx W hW hJ _ hY h0=>
 tags1_in m hm l b1 b2 e1 e2 n₀ n1 c1 n2 c2 A1 A2 key inf hn1 hn2 hq1 hq2 J Jx W hJ hY (boxed_bl hb1 hW) (boxed_bl hb2 hW) (hr1.below (hW.mono hn₀)) (hr2.below (hW.mono hn₀)) (Nat.le_trans hn₀ hW.size) ⟨he1.1,Nat.lt_of_lt_of_le he1.2 hW.size⟩ ⟨he2.1,Nat.lt_of_lt_of_le he2.2 hW.size⟩ hbe h0
theorem run_append_fit{P:Program}{w:World}(base:Nat)(t ty e:TypeId)(i:TypeInfo)(ht:P.underlying t=some (.slice e))(hi:P.info? e=some i)(hsize:i.size=1)
 (g L cap:Nat)(xs:List (BitVec 8))(hL:xs.length=L)(hown:Own b8 w base e (.slice (some ⟨g,0,none⟩) L cap) xs)(B:Nat)(ad:Addr)(c:Nat)(ys:List (BitVec 8))(hr:Rd b8 w B (some ad) ys)(hfit:L+ys.length≤cap):
 ∃w',(Builtin.append_ #[t,t] ty #[.slice (some ⟨g,0,none⟩) L cap,.slice (some ad) ys.length c]).run P w= .ok (.slice (some ⟨g,0,none⟩) (L+ys.length) cap) w'∧Own b8 w' base e (.slice (some ⟨g,0,none⟩) (L+ys.length) cap) (xs++ys)∧w.grownBy w' (some g):=by
 subst hL
 have hcells:=hr.cells rfl
 have h1:∀u∈ys.map b8,u.oneCell'=true:=by intro u hu;obtain⟨x,_,rfl⟩:=List.mem_map.1 hu;exact b8_one x
 obtain⟨w',hrun,ho,hgr⟩:=run_append_fits (P:=P) w base t ty e i 1 ht hi hsize g xs.length cap (xs.map b8) hown ad ys.length c (ys.map b8) (by simp) hcells h1 hfit
 exact⟨w',hrun,by unfold Own;rw[List.length_append,List.map_append];exact ho,hgr⟩
theorem step_append_fit{P:Program}{w:World}{ops:Array Oper}{o:Oper}{a:Act}{K:Act→World→Prop}{Q:Exit→Act→World→Prop}{F:Prop}(hgd:o.guard=none)(s x:Operand)(t:TypeId)
 (ho:o.op= .call {callee:= .builtin .append,args:= #[s,x],argTypes:= #[t,t]})
 (base:Nat)(e:TypeId)(i:TypeInfo)(ht:P.underlying t=some (.slice e))(hi:P.info? e=some i)(hsize:i.size=1)
 (g L cap:Nat)(xs:List (BitVec 8))(hL:xs.length=L)(hs:a.eval s= .slice (some ⟨g,0,none⟩) L cap)(hown:Own b8 w base e (.slice (some ⟨g,0,none⟩) L cap) xs)
 (B:Nat)(ad:Addr)(m c:Nat)(ys:List (BitVec 8))(hx:a.eval x= .slice (some ad) m c)(hm:m=ys.length)(hr:Rd b8 w B (some ad) ys)(hfit:L+m≤cap)
 (h:∀w',Own b8 w' base e (.slice (some ⟨g,0,none⟩) (L+m) cap) (xs++ys)→w.grownBy w' (some g)→K (a.put o.dst (.slice (some ⟨g,0,none⟩) (L+m) cap)) w'):
 if Region.wanted o (yielded ops a.tmps)=true then Oper.wp P o a w K Q else F:=by
 have hw:Region.wanted o (yielded ops a.tmps)=true:=by simp[Region.wanted,hgd]
 rw[if_pos hw]
 subst hm
 obtain⟨w',hrun,h2,h3⟩:=run_append_fit (P:=P) base t o.type e i ht hi hsize g L cap xs hL hown B ad c ys hr hfit
 unfold Oper.wp execOp
 simp only[ho,resolve,invoke,builtin,Sem.run_bind,Sem.run_pure,Result.andThen_ok,List.map_toArray,List.map_cons,List.map_nil,hs,hx,hrun]
 exact h w' h2 h3
def stillB(md:Region.Mode)(ops:Array Oper):Nat→List Nat→Array Bool→Bool
 |0,R,_=>R.isEmpty
 |f+1,R,L=>R.isEmpty||(decide (Region.ready md ops L=R)&&R.all fun j=>stillB md ops f (R.erase j) (L.setIfInBounds j true))
def asideB(ops:Array Oper)(R:List Nat):Bool:=R.all fun i=>R.all fun j=>i==j||match ops[i]?,ops[j]? with
 |some x,some y=>x.apart ops y
 |_,_=>false
def putR(ops:Array Oper)(V:Nat→Value)(R:List Nat)(a:Act):Act:=R.foldl (fun a j=>match ops[j]? with|some o=>a.put o.dst (V j)|none=>a) a
def listR(R:List Nat)(L:Array Bool):Array Bool:=R.foldl (fun L j=>L.setIfInBounds j true) L
section
variable{P:Program}{ops:Array Oper}{md:Region.Mode}{Q:Exit→Act→World→Prop}{S:World→Prop}
theorem asideB_spec{R:List Nat}(h:asideB ops R=true){i j:Nat}(hi:i∈R)(hj:j∈R)(hne:i≠j){x y:Oper}(hx:ops[i]?=some x)(hy:ops[j]?=some y):x.apart ops y=true:=by
 have:=List.all_eq_true.1 (List.all_eq_true.1 h i hi) j hj
 rw[hx,hy]at this
 simpa[hne]using this
theorem putR_cons{V:Nat→Value}{R:List Nat}(h:asideB ops R=true){j:Nat}(hj:j∈R){o:Oper}(ho:ops[j]?=some o)(a:Act):putR ops V (R.erase j) (a.put o.dst (V j))=putR ops V R a:=by
 unfold putR
 rw[List.Perm.foldl_eq' (List.perm_cons_erase hj) (fun x hx y hy z=>?_) a,List.foldl_cons,ho]
 by_cases hxy:x=y
 ·subst hxy;rfl
 ·cases ex:ops[x]? with
  |none=>rfl
  |some ox=>
   cases ey:ops[y]? with
   |none=>rfl
   |some oy=>
    have h1:=(Oper.apart_spec (asideB_spec h hx hy hxy ex ey)).2.1
    exact Act.put_comm z (V x) (V y) h1
theorem listR_cons{R:List Nat}{j:Nat}(hj:j∈R)(L:Array Bool):listR (R.erase j) (L.setIfInBounds j true)=listR R L:=by
 unfold listR
 rw[List.Perm.foldl_eq' (List.perm_cons_erase hj) (fun x _ y _ z=>?_) L,List.foldl_cons]
 by_cases hxy:x=y
 ·subst hxy;rfl
 ·exact(Array.setIfInBounds_comm _ _ hxy).symm▸rfl
theorem wpAnyH_still(V:Nat→Value){n:Nat}{w:World}(hS:S w)(hsel:Region.noSelect ops=true):∀(f:Nat) (R:List Nat) (L:Array Bool) (a:Act),R.Nodup→stillB md ops f R L=true→asideB ops R=true→
 (∀j∈R,∃o,ops[j]?=some o∧YieldsIf P ops (fun w'=>w'=w) o (V j) a)→wpAnyH P md ops Q S n (listR R L) (putR ops V R a) w→wpAnyH P md ops Q S (n+R.length) L a w
 |0,R,L,a,_,hb,_,_,h=>by
  obtain rfl:R=[]:=List.isEmpty_iff.1 hb
  exact h
 |f+1,R,L,a,hnd,hb,hap,hy,h=>by
  by_cases hR:R=[]
  ·subst hR;exact h
  ·have hb':R.isEmpty=false:=by cases R with
    |nil=>exact absurd rfl hR
    |cons _ _=>rfl
   unfold stillB at hb
   rw[hb',Bool.false_or,Bool.and_eq_true,decide_eq_true_eq]at hb
   obtain⟨hr,hall⟩:=hb
   obtain⟨m,hm⟩:∃m,R.length=m+1:=⟨R.length-1,by have:=List.length_pos_iff.2 hR;omega⟩
   rw[hm]
   show wpAnyH P md ops Q S ((n+m)+1) L a w
   refine wpAnyH_all hr hR fun j hj=>?_
   obtain⟨o,ho,hyj⟩:=hy j hj
   refine hyj.wpOp ho rfl ⟨hS,?_⟩
   have hlen:(R.erase j).length=m:=by rw[List.length_erase_of_mem hj,hm];rfl
   rw[←hlen]
   refine wpAnyH_still V hS hsel f (R.erase j) _ _ (hnd.erase j) (List.all_eq_true.1 hall j hj) ?_ ?_ ?_
   ·refine List.all_eq_true.2 fun x hx=>List.all_eq_true.2 fun y hy'=>?_
    exact List.all_eq_true.1 (List.all_eq_true.1 hap x (List.mem_of_mem_erase hx)) y (List.mem_of_mem_erase hy')
   ·intro k hk
    obtain⟨hkj,hkR⟩:=hnd.mem_erase_iff.1 hk
    obtain⟨ok,hok,hyk⟩:=hy k hkR
    have h3:=(Oper.apart_spec (asideB_spec hap hkR hj hkj hok ho)).2.2
    exact⟨ok,hok,hyk.of_same (execOp_put ok (fun cs b=>Region.noSelect_spec hsel k ok cs b hok) a o.dst (V j) h3) (wanted_put ok a o.dst (V j) h3)⟩
   ·rw[listR_cons hj,putR_cons hap hj ho];exact h
theorem wpAnyH_still4{i j k l n:Nat}{oi oj ok ol:Oper}{vi vj vk vl:Value}{L:Array Bool}{a:Act}{w:World}(hoi:ops[i]?=some oi)(hoj:ops[j]?=some oj)(hok:ops[k]?=some ok)(hol:ops[l]?=some ol)(hsel:Region.noSelect ops=true)
 (hnd:decide ([i,j,k,l].Nodup)=true)(hb:stillB md ops 4 [i,j,k,l] L=true)(hap:asideB ops [i,j,k,l]=true)(hS:S w)
 (yi:YieldsIf P ops (fun w'=>w'=w) oi vi a)(yj:YieldsIf P ops (fun w'=>w'=w) oj vj a)(yk:YieldsIf P ops (fun w'=>w'=w) ok vk a)(yl:YieldsIf P ops (fun w'=>w'=w) ol vl a)
 (h:wpAnyH P md ops Q S n ((((L.setIfInBounds i true).setIfInBounds j true).setIfInBounds k true).setIfInBounds l true) ((((a.put oi.dst vi).put oj.dst vj).put ok.dst vk).put ol.dst vl) w):wpAnyH P md ops Q S (n+4) L a w:=by
 have hnd':=of_decide_eq_true hnd
 simp only[List.nodup_cons,List.mem_cons,List.not_mem_nil,or_false,not_or,not_false_eq_true,List.nodup_nil,and_true]at hnd'
 obtain⟨⟨n1,n2,n3⟩,⟨n4,n5⟩,n6⟩:=hnd'
 refine wpAnyH_still (fun x=>if x=i then vi else if x=j then vj else if x=k then vk else vl) hS hsel 4 [i,j,k,l] L a (of_decide_eq_true hnd) hb hap ?_ ?_
 ·intro x hx
  simp only[List.mem_cons,List.not_mem_nil,or_false]at hx
  rcases hx with rfl|rfl|rfl|rfl
  ·exact⟨oi,hoi,by rw[if_pos rfl];exact yi⟩
  ·exact⟨oj,hoj,by rw[if_neg (Ne.symm n1),if_pos rfl];exact yj⟩
  ·exact⟨ok,hok,by rw[if_neg (Ne.symm n2),if_neg (Ne.symm n4),if_pos rfl];exact yk⟩
  ·exact⟨ol,hol,by rw[if_neg (Ne.symm n3),if_neg (Ne.symm n5),if_neg (Ne.symm n6)];exact yl⟩
 ·simp only[listR,putR,List.foldl_cons,List.foldl_nil,hoi,hoj,hok,hol]
  rw[if_pos trivial,if_neg (Ne.symm n1),if_pos trivial,if_neg (Ne.symm n2),if_neg (Ne.symm n4),if_pos trivial,if_neg (Ne.symm n3),if_neg (Ne.symm n5),if_neg (Ne.symm n6)]
  exact h
end
def noDefer(ops:Array Oper):Bool:=ops.all fun o=>match o.op with
 | .defer _=>false
 |_=>true
theorem noDefer_spec{ops:Array Oper}(h:noDefer ops=true){i:Nat}{o:Oper}(ho:ops[i]?=some o):∀c,o.op≠ .defer c:=by
 intro c hc
 obtain⟨hi,rfl⟩:=Array.getElem?_eq_some_iff.1 ho
 have:=Array.all_eq_true.1 h i hi
 rw[hc]at this
 cases this
section
variable{P:Program}{ops:Array Oper}{md:Region.Mode}{Q:Exit→Act→World→Prop}{S:World→Prop}{l n:Nat}
def onlyN(Q:Exit→Act→World→Prop):Exit→Act→World→Prop:=fun e a w=>e= .normal∧Q .normal a w
theorem rowsIn_round{row:String}{args:Array Value}{w:World}{R:Value→World→Prop}(h:Rows P row args w R):RowsIn (Fence.wide.inRound l) n P row args w R:=
 fun c cs _=>let⟨v,w',r,s⟩:=h c cs;⟨v,w',r,stepsIn_wide.2 s⟩
theorem upon_in{o:Oper}{a:Act}{next next':Act→World→Prop}(hn:∀a w,next a w→next' a w){r:Result Next}(h:o.upon P a next (onlyN Q) r):o.uponIn (Fence.wide.inRound l) n P a next' Q r:=by
 cases r with
 |ok nx w'=>
  cases nx with
  |value v=>exact hn _ _ h
  |skip=>exact hn _ _ h
  |defer d=>exact hn _ _ h
  |enter f args=>
   refine⟨nofun,CallsIn.inRound l (callsIn_wide.2 (Calls.mono h ?_))⟩
   intro e w'' he
   cases e with
   |returned v=>exact hn _ _ he
   |panicked c=>exact nomatch he.1
   |outgrown=>obtain⟨_,_,h1,_⟩:=he;cases h1
  |row row args=>exact⟨nofun,(rowsIn_round h).mono fun v w'' he=>hn _ _ he⟩
  |_=>exact h.elim
 |halt s w'=>
  cases s<;>first
   |exact nomatch h.1
   |exact h.elim
theorem wpOp_in(hd:noDefer ops=true){i:Nat}{K K':Act→World→Prop}(hn:∀a w,K a w→K' a w){a:Act}{w:World}(h:wpOp P ops (onlyN Q) i K a w):wpOpIn (Fence.wide.inRound l) n P ops Q i K' a w:=by
 unfold wpOp at h
 unfold wpOpIn
 cases ho:ops[i]? with
 |none=>rw[ho]at h;exact hn _ _ h
 |some o=>
  rw[ho]at h
  dsimp only at h ⊢
  split
  ·rename_i hw
   rw[if_pos hw]at h
   rcases h with h|⟨_,_,_,h,_⟩
   ·refine⟨fun _ _=>trivial,?_⟩
    rw[Oper.semAt_plain _ _ _ (noDefer_spec hd ho)]
    exact upon_in hn h
   ·cases h
  ·rename_i hw
   rw[if_neg hw]at h
   exact⟨fun _ _=>trivial,hn _ _ h⟩
theorem wpAny_in(hd:noDefer ops=true):∀(f:Nat) (L:Array Bool) (a:Act) (w:World),wpAny P md ops (onlyN Q) f L a w→wpAnyIn (Fence.wide.inRound l) n P md ops Q f L a w
 |0,_,_,_,h=>⟨h.1,h.2.2⟩
 |f+1,L,a,w,h=>⟨fun hr=>(h.1 hr).2,fun i hi=>wpOp_in hd (fun a w=>wpAny_in hd f _ a w) (h.2 i hi)⟩
def wpAnyZ(P:Program)(md:Region.Mode)(ops:Array Oper)(Q:Exit→Act→World→Prop)(S:World→Prop)(z:Nat):Nat→Array Bool→Act→World→Prop
 |0,L,a,w=>Region.ready md ops L=[]∧Q .normal a w
 |f+1,L,a,w=>(Region.ready md ops L=[]→Q .normal a w)∧∀i∈Region.ready md ops L,wpOp P ops Q i (fun a' w'=>(i≠z→S w')∧wpAnyZ P md ops Q S z f (L.setIfInBounds i true) a' w') a w
variable{z:Nat}
theorem wpAny_of_Z:∀(f:Nat) (L:Array Bool) (a:Act) (w:World),wpAnyZ P md ops Q S z f L a w→wpAny P md ops Q f L a w
 |0,_,_,_,h=>h
 |f+1,_,_,_,h=>⟨h.1,fun i hi=>wpOp_mono (fun a' w' h'=>wpAny_of_Z f _ a' w' h'.2) (h.2 i hi)⟩
def waitsB(md:Region.Mode)(ops:Array Oper)(z i:Nat):Bool:=match ops[z]? with
 |some o=>o.after.any fun e=>Region.binds md e&&e.on==i
 |none=>false
theorem wpAnyZ_first{i:Nat}{oi:Oper}{v:Value}(hi:ops[i]?=some oi)(hsel:Region.noSelect ops=true)(hw:waitsB md ops z i=true)(hQ:∀c a w,Q (.panic c) (a.put oi.dst v) w→Q (.panic c) a w):
 ∀(f:Nat) (L:Array Bool) (a:Act) (w:World),(∀j oj,ops[j]?=some oj→j≠i→L.getD j true=false→(∀e∈oj.after,Region.binds md e=true→e.on≠i)→oi.apart ops oj=true)→
  i∈Region.ready md ops L→YieldsIf P ops S oi v a→S w→wpAnyZ P md ops Q S z f (L.setIfInBounds i true) (a.put oi.dst v) w→wpAnyZ P md ops Q S z (f+1) L a w:=by
 intro f
 induction f with
 |zero=>
  intro L a w _ hr hy hS H
  refine⟨fun h=>(by rw[h]at hr;cases hr),fun j hj=>?_⟩
  by_cases e:j=i
  ·subst e;exact hy.wpOp hi hS ⟨fun _=>hS,H⟩
  ·have:=ready_mono hj e
   rw[H.1]at this;cases this
 |succ f ih=>
  intro L a w hfree hr hy hS H
  refine⟨fun h=>(by rw[h]at hr;cases hr),fun j hj=>?_⟩
  by_cases e:j=i
  ·subst e;exact hy.wpOp hi hS ⟨fun _=>hS,H⟩
  ·have h1:=H.2 j (ready_mono hj e)
   obtain⟨hjun,oj,hoj,hall⟩:=mem_ready.1 hj
   have hnot:∀e∈oj.after,Region.binds md e=true→e.on≠i:=fun e he hb heq=>by
    have g1:=hall e he hb
    have g0:=(mem_ready.1 hr).1
    rw[heq]at g1
    rcases Nat.lt_or_ge i L.size with h'|h'
    ·simp[h']at g0 g1;rw[g0]at g1;cases g1
    ·simp[Array.getElem?_eq_none h']at g1
   have hjz:j≠z:=fun ez=>by
    subst ez
    unfold waitsB at hw
    rw[hoj]at hw
    obtain⟨x,hx,hxe⟩:=Array.any_eq_true'.1 hw
    simp only[Bool.and_eq_true,beq_iff_eq]at hxe
    exact hnot x hx hxe.1 hxe.2
   have h2:=wpOp_putIf hoj (hfree j oj hoj e hjun hnot) (fun cs b=>Region.noSelect_spec hsel i oi cs b hi) (fun cs b=>Region.noSelect_spec hsel j oj cs b hoj) hQ hy h1
   refine wpOp_mono (fun a' w' h3=>⟨fun _=>h3.2.1 hjz,ih _ a' w' (fun k ok hk hki hun hno=>hfree k ok hk hki ?_ hno) (ready_mono hr (Ne.symm e)) h3.1 (h3.2.1 hjz) ?_⟩) h2
   ·by_cases hjk:j=k
    ·subst hjk;exact hjun
    ·rw[getD_set_ne true hjk]at hun;exact hun
   ·rw[Array.setIfInBounds_comm _ _ e]
    exact h3.2.2
theorem wpAnyZ_take{i:Nat}{oi:Oper}{v:Value}{f:Nat}{L:Array Bool}{a:Act}{w:World}(hi:ops[i]?=some oi)(hs:Region.noSelect ops=true)(hw:waitsB md ops z i=true)(hf:Region.free md ops L i=true)(hr:(Region.ready md ops L).contains i=true)
 (hQ:∀c a w,Q (.panic c) (a.put oi.dst v) w→Q (.panic c) a w)(hy:YieldsIf P ops S oi v a)(hS:S w)(h:wpAnyZ P md ops Q S z f (L.setIfInBounds i true) (a.put oi.dst v) w):wpAnyZ P md ops Q S z (f+1) L a w:=
 wpAnyZ_first hi hs hw hQ f L a w (Region.free_spec hi hf) (by simpa using hr) hy hS h
theorem wpAnyZ_one{i:Nat}{o:Oper}{f:Nat}{L:Array Bool}{a:Act}{w:World}(hr:Region.ready md ops L=[i])(ho:ops[i]?=some o)
 (h:∀K':Act→World→Prop,(∀a w,(i≠z→S w)→wpAnyZ P md ops Q S z f (L.setIfInBounds i true) a w→K' a w)→if Region.wanted o (yielded ops a.tmps)=true then o.wp P a w K' Q else K' (a.put o.dst undef) w):wpAnyZ P md ops Q S z (f+1) L a w:=by
 refine⟨fun h0=>(by rw[h0]at hr;cases hr),fun j hj=>?_⟩
 rw[hr,List.mem_singleton]at hj
 subst hj
 have h1:=h (fun a' w'=>(j≠z→S w')∧wpAnyZ P md ops Q S z f (L.setIfInBounds j true) a' w') (fun _ _ h1 h2=>⟨h1,h2⟩)
 unfold wpOp
 rw[ho]
 dsimp only
 split
 ·rename_i hw;rw[if_pos hw]at h1;exact .inl h1
 ·rename_i hw;rw[if_neg hw]at h1;exact h1
theorem wpAnyZ_done{L:Array Bool}{a:Act}{w:World}(hr:Region.ready md ops L=[])(h:Q .normal a w):∀f,wpAnyZ P md ops Q S z f L a w
 |0=>⟨hr,h⟩
 |_+1=>⟨fun _=>h,by rw[hr];simp⟩
theorem wpIn_region_round{id:Nat}{a:Act}{w:World}(hm:P.follows .mixedOrders=true)(hd:noDefer ops=true)(S:World→Prop)(z:Nat)
 (h:wpAnyZ P .any ops (onlyN Q) S z ops.size (Array.replicate ops.size false) a w.drew):(Code.region id ops true).wpIn (Fence.wide.inRound l) n P Q a w:=
 wpIn_region_any hm (wpAny_in hd _ _ _ _ (wpAny_of_Z _ _ _ _ h))
end
end Go.Proofs.YtelgjaiknaalkaaDoor
