/- Lemmas, joined and made smaller by a program. -/
import Derived.Test.YtelgjaiknaalkaaDoorPo05
import Derived.Test.YtelgjaiknaalkaaDoorPo02
import Derived.Test.YtelgjaiknaalkaaDoorRows
import Derived.WalkSpells
import Derived.WalkLawsBesides
import Derived.Stop.BytesEq
import Derived.TacticsIn
import Derived.RangeFuncCalls
import Derived.Test.YtelgjaiknaalkaaDoorPo04
open Go.Lib renaming hid → qq
open List renaming setIfInBounds_toArray → qj
open List renaming set_cons_zero → qz
open List renaming set_cons_succ → qv
set_option linter.unusedVariables false
set_option linter.unusedSimpArgs false
namespace Go.Proofs.YtelgjaiknaalkaaDoor
open Go.RowKit
attribute [local go_sem] Oper.semAt_some
theorem wpList_store_blk2{P:Program}{ops:Array Oper}{rest:List Oper}{op:Oper}{a:Act}{w:World}{Q:Exit→Act→World→Prop}(hgd:op.guard=none)(ty:TypeId)(x y:Operand)(ho:op.op= .store ty x y)
 (g:Nat)(hx:a.eval x= .pointer (some ⟨g,0,none⟩))(cs:List Value)(hy:a.eval y= .agg cs.toArray)(T:TypeId)(old:List Value)(hA:Blk w g T old)(hl:old.length=cs.length)
 (hi:(P.info? ty).map (·.size)=some cs.length)(h1:∀u∈cs,u.oneCell'=true)
 (h:∀w',Blk w' g T cs→w.grownBy w' (some g)→wpList P ops Q rest (a.put op.dst undef) w'):wpList P ops Q (op::rest) a w:=by
 obtain⟨h2,h3⟩:=arr_setCells (f:=fun v:Value=>v) cs [] old w hl (by simpa using hA.arr)
 rw[List.map_id']at h2 h3
 refine wpList_store_mid hgd ty x y ho g 0 cs.toArray hx hy ?_ ?_ ?_ ?_
 ·exact hA.arr.there (by simp[hl])
 ·rw[hi];simp
 ·exact all_oneCell_toArray (fun v hv=>h1 v hv)
 ·simp only
  exact h _ (blk_arr (by simpa using h2)) h3
def digCs(s:List (BitVec 32))(rv:Value)(n:Int):List Value:=s.map w32++ [rv,.int .i64 n]
theorem digCs_len(s:List (BitVec 32))(hs:s.length=8)(rv:Value)(n:Int):(digCs s rv n).length=10:=by
 unfold digCs;rw[List.length_append,List.length_map,hs];rfl
theorem digCs_one(s:List (BitVec 32))(A:Option Addr)(m c:Nat)(n:Int):∀u∈digCs s (.slice A m c) n,u.oneCell'=true:=by
 intro u hu
 unfold digCs at hu
 simp only[List.mem_append,List.mem_map,List.mem_cons,List.not_mem_nil,or_false]at hu
 rcases hu with⟨x,_,rfl⟩|rfl|rfl<;>rfl
theorem size10:(Tryd.prog.info? 165).map (·.size)=some 10:=by kernel_rfl
theorem padZ_drop(n h:Nat)(hh:64*h≤n):padZ (n-64*h) 64 8=padZ n 64 8:=by
 unfold padZ
 have:(n-64*h) % 64=n % 64:=by omega
 rw[this]
theorem sum32_split(t:List (BitVec 8))(h NP:Nat)(hh:64*h≤t.length)(hP:(padded (t.drop (64*h)) t.length 64 8).length=64*NP):
 sha32.pieces NP (padded (t.drop (64*h)) t.length 64 8) (sha32.pieces h t begin32)=sha32.pieces ((padded t t.length 64 8).length/64) (padded t t.length 64 8) begin32:=by
 have e1:padded t t.length 64 8=t.take (64*h)++padded (t.drop (64*h)) t.length 64 8:=by
  unfold padded
  rw[List.length_drop,padZ_drop _ _ hh,←List.append_assoc,List.take_append_drop]
 have hl:(t.take (64*h)).length=64*h:=by rw[List.length_take];omega
 have e2:(padded t t.length 64 8).length/64=h+NP:=by rw[e1,List.length_append,hl,hP];omega
 have e3:(padded t t.length 64 8).drop (h*64)=padded (t.drop (64*h)) t.length 64 8:=by
  rw[e1,List.drop_append_of_le_length (by omega),List.drop_of_length_le (by omega),List.nil_append]
 have e4:sha32.pieces h (padded t t.length 64 8) begin32=sha32.pieces h t begin32:=by
  unfold padded
  exact Sha.pieces_app sha32 h t _ begin32 (by show h*64≤_;omega)
 rw[e2,Sha.pieces_add,show sha32.size=64 from rfl,e3,e4]
def fillTo(xs:List (BitVec 8))(k:Nat):List (BitVec 8):=xs.take k++List.replicate (xs.length-k) 0#8
theorem fillTo_len(xs:List (BitVec 8))(k:Nat)(hk:k≤xs.length):(fillTo xs k).length=xs.length:=by
 unfold fillTo;rw[List.length_append,List.length_take,List.length_replicate];omega
theorem fillTo_0(xs:List (BitVec 8)):fillTo xs 0=List.replicate xs.length 0#8:=rfl
theorem fillTo_all(xs:List (BitVec 8)):fillTo xs xs.length=xs:=by
 unfold fillTo;rw[Nat.sub_self,List.take_length];simp
theorem fillTo_set(xs:List (BitVec 8))(k:Nat)(hk:k<xs.length):(fillTo xs k).set k (xs.getD k 0#8)=fillTo xs (k+1):=by
 have e:xs.length-k=(xs.length-(k+1))+1:=by omega
 have hl:(xs.take k).length=k:=by rw[List.length_take];omega
 unfold fillTo
 rw[e,List.replicate_succ,List.set_append_right _ _ (by omega),hl,Nat.sub_self,qz,List.take_succ_eq_append_getElem hk,List.append_assoc]
 simp[List.getD,List.getElem?_eq_getElem hk]
theorem out32_len(R:S8 32):(R.list.flatMap bytes32).length=32:=rfl
theorem out32_at(R:S8 32)(i j:Nat)(hi:i<8)(hj:j<4):(R.list.flatMap bytes32).getD (4*i+j) 0#8=((R.list.getD i 0#32)>>>(24-8*j)).setWidth 8:=by
 match i,hi,j,hj with
 |0,_,0,_=>rfl
 |0,_,1,_=>rfl
 |0,_,2,_=>rfl
 |0,_,3,_=>rfl
 |1,_,0,_=>rfl
 |1,_,1,_=>rfl
 |1,_,2,_=>rfl
 |1,_,3,_=>rfl
 |2,_,0,_=>rfl
 |2,_,1,_=>rfl
 |2,_,2,_=>rfl
 |2,_,3,_=>rfl
 |3,_,0,_=>rfl
 |3,_,1,_=>rfl
 |3,_,2,_=>rfl
 |3,_,3,_=>rfl
 |4,_,0,_=>rfl
 |4,_,1,_=>rfl
 |4,_,2,_=>rfl
 |4,_,3,_=>rfl
 |5,_,0,_=>rfl
 |5,_,1,_=>rfl
 |5,_,2,_=>rfl
 |5,_,3,_=>rfl
 |6,_,0,_=>rfl
 |6,_,1,_=>rfl
 |6,_,2,_=>rfl
 |6,_,3,_=>rfl
 |7,_,0,_=>rfl
 |7,_,1,_=>rfl
 |7,_,2,_=>rfl
 |7,_,3,_=>rfl
theorem run_idx32{xs:List (BitVec 32)}{i:Nat}(hx:xs.length=8)(hi:i<8)(w:World):(Instr.index 163 (.agg (xs.map w32).toArray) (.int .i64 i)).run Tryd.prog w= .ok (w32 (xs.getD i 0#32)) w:=by
 have hu:=Tryd.underlying163
 have h1:(xs.map w32).toArray[i]?=some (w32 (xs.getD i 0#32)):=by simp[List.getD,hx,hi]
 have h2:(0:Int)≤i∧(i:Int)<8:=by omega
 have h3:i<8:=hi
 have h4:xs[i]?=some (xs.getD i 0#32):=by simp[List.getD,hx,hi]
 simp[Instr.index,run_underlying hu,asIntOf,h3,go_sem]
 rw[h4]
 simp[go_sem,List.getD]
theorem size32:(Tryd.prog.info? 29).map (·.size)=some 32:=by kernel_rfl
def foldC{n:Nat}(c:Sha n)(P:List (BitVec 8))(s:S8 n)(l:List Nat):S8 n:=l.foldl (fun s i=>c.piece s ((P.drop (c.size*i)).take c.size)) s
theorem foldC_snoc{n:Nat}(c:Sha n)(P:List (BitVec 8))(s:S8 n)(l:List Nat)(i:Nat):foldC c P s (l++ [i])=c.piece (foldC c P s l) ((P.drop (c.size*i)).take c.size):=by
 unfold foldC;rw[List.foldl_append];rfl
theorem foldC_range{n:Nat}(c:Sha n)(P:List (BitVec 8))(s:S8 n):∀k,foldC c P s (List.range k)=c.pieces k P s
 |0=>rfl
 |k+1=>by rw[List.range_succ,foldC_snoc,foldC_range c P s k,pieces_succ,Nat.mul_comm]
section
variable{W W':World}{row:Option Nat}
theorem blkO{g:Nat}{T:TypeId}{cs:List Value}(h:Blk W g T cs)(hg:W.grownBy W' row)(hr:∀r,row=some r→∃o:Obj,W.heap[r]?=some o∧o.isCells=false):Blk W' g T cs:=
 h.grown hg (fun e=>by
  obtain⟨o,ho,hn⟩:=hr g e.symm
  have:W.heap[g]?=some (.cells cs.toArray T (0,0)):=h
  rw[this]at ho;cases ho;cases hn)
theorem arrO{α:Type}{f:α→Value}{g:Nat}{T:TypeId}{xs:List α}(h:Arr f W g T xs)(hg:W.grownBy W' row)(hr:∀r,row=some r→∃o:Obj,W.heap[r]?=some o∧o.isCells=false):Arr f W' g T xs:=
 h.grown hg (fun e=>by
  obtain⟨o,ho,hn⟩:=hr g e.symm
  have:W.heap[g]?=some (.cells (xs.map f).toArray T (0,0)):=h
  rw[this]at ho;cases ho;cases hn)
theorem boxO{g:Nat}{T:TypeId}{v:Value}(h:Boxed W g T v)(hg:W.grownBy W' row)(hr:∀r,row=some r→∃o:Obj,W.heap[r]?=some o∧o.isCells=false):Boxed W' g T v:=
 h.kept hg (fun e=>by
  obtain⟨o,ho,hn⟩:=hr g e.symm
  have:W.heap[g]?=some (.cells #[v] T (0,0)):=h
  rw[this]at ho;cases ho;cases hn)
theorem ownO{α:Type}{f:α→Value}{B E:Nat}{v:Value}{xs:List α}(h:Own f W B E v xs)(hg:W.grownBy W' row)(hr:∀r,row=some r→∃o:Obj,W.heap[r]?=some o∧o.isCells=false):Own f W' B E v xs:=
 h.kept' hg (fun g e hv=>by
  obtain⟨o,ho,hc⟩:=hr g e
  rcases h.2 with⟨rfl,_⟩|⟨g',cap,cur,rfl,_,hg',_⟩
  ·cases hv
  ·obtain rfl:g'=g:=by simpa[Value.ownBlock]using hv
   rw[hg']at ho;cases ho;cases hc)
theorem digO{g:Nat}{s:List (BitVec 32)}{rv:Value}{n:Int}(h:Dig W g s rv n)(hg:W.grownBy W' row)(hr:∀r,row=some r→∃o:Obj,W.heap[r]?=some o∧o.isCells=false):Dig W' g s rv n:=⟨h.1,blkO h.2 hg hr⟩
end
structure SmI(ge gk go b c NP bs bn:Nat)(P:List (BitVec 8))(rv:Value)(n:Int)(s:S8 32)(W:World):Prop where
 e:Dig W ge s.list rv n
 k:Arr w32 W gk 168 K32
 o:Arr b8 W go 29 (List.replicate 32 0#8)
 p:Own b8 W 0 5 (.slice (some ⟨b,0,none⟩) (64*NP) c) P
 s:Boxed W bs 33 (.slice (some ⟨b,0,none⟩) (64*NP) c)
 n:Boxed W bn 3 (.int .i64 64)
theorem SmI.own{ge gk go b c NP bs bn:Nat}{P:List (BitVec 8)}{rv:Value}{n:Int}{s:S8 32}{W W':World}{row:Option Nat}(h:SmI ge gk go b c NP bs bn P rv n s W)(hg:W.grownBy W' row)(hr:∀r,row=some r→∃o:Obj,W.heap[r]?=some o∧o.isCells=false):SmI ge gk go b c NP bs bn P rv n s W':=
 ⟨digO h.e hg hr,arrO h.k hg hr,arrO h.o hg hr,ownO h.p hg hr,boxO h.s hg hr,boxO h.n hg hr⟩
set_option maxRecDepth 100000 in
set_option maxHeartbeats 4000000 in
theorem sum_any(w:World)(g B:Nat)(t:List (BitVec 8))(hd:DigT w g B t)(hbig:t.length≤50000000):
 Calls Tryd.prog 86 #[.pointer (some ⟨g,0,none⟩)] w fun e w'=>e= .returned (arrV b8 (sum32 t))∧Below w.heap.size w w':=by
 obtain⟨rv,hd,hown⟩:=hd
 obtain⟨h,hh⟩:∃h,h=t.length/64:=⟨_,rfl⟩
 rw[←hh]at hd hown
 obtain⟨nr,hnr⟩:∃nr,nr=(t.drop (64*h)).length:=⟨_,rfl⟩
 obtain⟨Ar,cr,rfl,hrr,hAr,hcr,-⟩:=hown.shape' hnr.symm
 obtain⟨S,hS⟩:∃S,S=sha32.pieces h t begin32:=⟨_,rfl⟩
 obtain⟨N,hN⟩:∃N,N=t.length:=⟨_,rfl⟩
 rw[←hS,←hN]at hd
 have hgl:=hd.lt
 have HD:=qq hd
 have HO:=qq hown
 have HRr:=qq hrr
 have HNr:=qq hnr
 have HAr:=qq hAr
 have HS:=qq hS
 have HN:=qq hN
 have Hh:=qq hh
 have hnr2:nr≤64∧N≤50000000:=by rw[List.length_drop]at hnr;omega
 clear hd hown hrr hnr hAr hS hN hh hbig
 have HE0:=qq (show Blk ((w.alloc (.cells ((List.replicate 32 0#8).map b8).toArray 29)).alloc (.cells (digCs (List.replicate 8 0#32) (.slice none 0 0) 0).toArray 165)) (w.heap.size+1) 165 (digCs (List.replicate 8 0#32) (.slice none 0 0) 0)from Blk.at_size _ _ (by simp))
 have HD0:=qq (HD.out.alloc (.cells ((List.replicate 32 0#8).map b8).toArray 29))
 refine(callsIn_wide (n:=9)).1 ?_
 refine callsIn_of_wp_marks Tryd.func86 rfl trivial ?_ rfl
 simp only[Tryd.ntmps86,List.size_toArray,List.length_cons,List.length_nil,Nat.reduceAdd,Nat.reduceSub,Array.replicate_succ,Array.replicate_zero,List.push_toArray,List.append_toArray,List.nil_append,List.cons_append]
 refine wpIn_wide.2 ?_
 go_wp2_with (first
  |refine wpList_load_mid rfl 165 (.tmp 13) rfl g 0 rfl (digCs S.list (.slice Ar nr cr) N) _ HD0.out.2.whole Tryd.underlying165 rfl (by rw[digCs_len _ (S8.list_len _)];exact size10) ?_
  |(refine wpList_store_blk2 rfl 165 (.tmp 3) (.tmp 14) rfl (w.heap.size+1) rfl (digCs S.list (.slice Ar nr cr) N) rfl _ _ HE0.out rfl (by rw[digCs_len _ (S8.list_len _)];exact size10) (digCs_one _ _ _ _ _) ?_;intro w3 he3 hg3))
 have hz3:w.heap.size+2≤w3.heap.size:=by have:=hg3.size;simpa using this
 have hR3:Arr b8 w3 w.heap.size 29 (List.replicate 32 0#8):=((Arr.new b8 w 29 (List.replicate 32 0#8)).alloc _).grown hg3 (by simp)
 have hb3:Below w.heap.size w w3:=(((Below.refl _ w).alloc (Nat.le_refl _) _).alloc (by simp) _).grown hg3 (by simp;omega) (fun k e=>by cases e;omega)
 have HR3:=qq hR3
 have HB3:=qq hb3
 have HE3:=qq (show Dig w3 (w.heap.size+1) S.list (.slice Ar nr cr) N from⟨S8.list_len _,he3⟩)
 clear he3 hg3 hR3 hb3 HE0 HD0
 refine(shorts_any _).mono ?_
 rintro e w4 ⟨rfl,hb4⟩
 have hz4:=hb4.size
 have HK0:=qq (show Arr w32 (w4.alloc (.cells ((List.replicate 64 0#32).map w32).toArray 168)) w4.heap.size 168 (List.replicate 64 0#32)from Arr.new w32 w4 _ _)
 have HR4:=qq ((HR3.out.below hb4 (by omega)).alloc (.cells ((List.replicate 64 0#32).map w32).toArray 168))
 have HE4:=qq ((HE3.out.below hb4 (by omega)).alloc (.cells ((List.replicate 64 0#32).map w32).toArray 168))
 have HB4:=qq ((HB3.out.trans (hb4.mono (by omega))).alloc (by omega) (.cells ((List.replicate 64 0#32).map w32).toArray 168))
 clear hb4 HR3 HE3 HB3
 go_wp2_with (refine wpList_store_arr rfl 168 _ _ rfl w4.heap.size rfl K32 rfl _ _ HK0.out (by kernel_rfl) (by rw[size64,K32_len]) w32_one ?_;intro w5 hx5 hg5)
 have hz5:w4.heap.size+1≤w5.heap.size:=by have:=hg5.size;rw[World.size_alloc]at this;exact this
 have HK5:=qq hx5
 have HR5:=qq (HR4.out.grown hg5 (by simp;omega))
 have HE5:=qq (HE4.out.grown hg5 (by simp;omega))
 have HB5:=qq (HB4.out.grown hg5 (by simp;omega) (fun k e=>by cases e;omega))
 clear hx5 hg5 HK0 HR4 HE4 HB4
 have HD5:=qq (HD.out.below HB5.out hgl)
 have c8:=HD5.out.rest
 have c9:=HD5.out.count
 have hpd:=padded_any (t.drop (64*h)) N nr 64 8 (.inl ⟨rfl,rfl⟩) (by omega) w5.drew w.heap.size Ar cr ((HRr.out.below HB5.out).drew) HB5.out.size HNr.out (fun e=>by have:=HAr.out e;omega) (by omega)
 have HPd:=qq (show Calls Tryd.prog 91 #[.slice Ar nr cr,.int .i64 (N:Int),.int .i64 64,.int .i64 8] w5.drew _ from hpd)
 clear hpd
 go_frame
 go_still_tail 8,(by kernel_rfl)
 go_wp2_with fail
 refine HPd.out.mono ?_
 rintro e w6 ⟨v6,rfl,hown6,hb6⟩
 obtain⟨P,hP⟩:∃P,P=padded (t.drop (64*h)) N 64 8:=⟨_,rfl⟩
 obtain⟨NP,hNP⟩:∃NP,NP=P.length/64:=⟨_,rfl⟩
 have hPl:P.length=64*NP∧0<NP∧NP≤3:=by
  have h1:=padZ_hit nr 64 8 (.inl ⟨rfl,rfl⟩)
  have h2:=padZ_lt nr 64 8 (.inl ⟨rfl,rfl⟩)
  have h3:P.length=nr+1+padZ nr 64 8+8:=by
   rw[hP];unfold padded
   rw[←HNr.out,List.length_append,List.length_cons,List.length_append,List.length_replicate,beN_len,←HNr.out];omega
  rw[hNP,h3];omega
 rw[←hP]at hown6
 obtain⟨b6,c6,e6,hb6g,hb6l,hc6⟩:=hown6.form' hPl.1 (by omega)
 subst e6
 have hz6:=hb6.size
 simp only[World.size_drew]at hz6 hb6g
 have hb56:Below w5.heap.size w5 w6:=Below.trans ((Below.refl _ w5).drew) hb6
 have HO6:=qq hown6
 have HK6:=qq (HK5.out.below hb56 HK5.out.lt)
 have HR6:=qq (HR5.out.below hb56 (by omega))
 have HE6:=qq (HE5.out.below hb56 (by omega))
 have HB6:=qq (HB5.out.trans (hb56.mono HB5.out.size))
 have HP:=qq hP
 have HPl:=qq hPl.1
 have hNP3:0<NP∧NP≤3:=hPl.2
 clear hown6 hb6 hb56 hP hPl hNP HK5 HR5 HE5 HB5 HPd c8 c9 HD5
 have hch:=chunk_any (some ⟨b6,0,none⟩) (64*NP) c6 64 (by omega) (by omega) w6
 have HCh:=qq (show Calls Tryd.prog 64 #[.slice (some ⟨b6,0,none⟩) (64*NP) c6,.int .i64 64] w6 _ from hch)
 clear hch
 go_wp2_with fail
 refine HCh.out.mono ?_
 rintro e w7 ⟨rfl,rfl⟩
 go_wp2_with fail
 generalize hW7:World.alloc (World.alloc w6 _) _=W7
 have hI7:SmI (w.heap.size+1) w4.heap.size w.heap.size b6 c6 NP w6.heap.size (w6.heap.size+1) P (.slice Ar nr cr) N (foldC sha32 P S ([]:List Nat)) W7∧Below w.heap.size w W7∧W7.heap.size=w6.heap.size+2:=by
  rw[←hW7]
  refine⟨⟨(HE6.out.alloc _).alloc _,(HK6.out.alloc _).alloc _,(HR6.out.alloc _).alloc _,((HO6.out.less (Nat.zero_le _)).alloc _).alloc _,?_,?_⟩,?_,by simp⟩
  ·exact(Boxed.new w6 33 _).alloc _
  ·have:=Boxed.new (w6.alloc (.cells #[.slice (some ⟨b6,0,none⟩) (64*NP) c6] 33)) 3 (.int .i64 64)
   rw[World.size_alloc]at this
   exact this
  ·exact(HB6.out.alloc (HB6.out.size) _).alloc (by have:=HB6.out.size;simp;omega) _
 obtain⟨hI7,hB7,hz7⟩:=hI7
 have hw6:w4.heap.size<w6.heap.size:=by omega
 have HI7:=qq hI7
 have HB7:=qq hB7
 have HZ7:=qq hz7
 clear hW7 HE6 HK6 HR6 HO6 HB6 HCh hI7 hB7 hz7
 refine(wpIn_wide (n:=9)).1 ?_
 refine wpIn_rangeFunc_ownF rfl (by omega) (gf:=73) (lb:= #[.pointer (some ⟨w6.heap.size,0,none⟩),.pointer (some ⟨w6.heap.size+1,0,none⟩)]) rfl trivial (enters_of Tryd.func73 (by kernel_rfl) rfl)
  (chunk_stops 8 (by omega) b6 c6 64 NP w6.heap.size (w6.heap.size+1) w.heap.size (by omega) (by omega) (by omega) hc6 W7 HI7.out.s HI7.out.n)
  KpC.t (fun W l o o' hl ho hc hw=>⟨(Below.refl _ W).grown (grownBy_putObj' W l o') (by have:=(Array.getElem?_eq_some_iff.1 ho).1;have:=HZ7.out;omega) (fun k e=>by cases e;have:=HZ7.out;omega),World.putObj_heap_other (by have:=HZ7.out;omega),World.putObj_heap_other (by have:=HZ7.out;omega)⟩) (Below.refl _ _) (fun _=>rfl)
  (fun pre W=>SmI (w.heap.size+1) w4.heap.size w.heap.size b6 c6 NP w6.heap.size (w6.heap.size+1) P (.slice Ar nr cr) N (foldC sha32 P S (pre.map Subtype.val)) W∧Below w.heap.size w W)
  (fun _ _ _=>False)
  (OwnFrom.and (Go.Own.from (fun s A' B' row hs hg hr=>hs.own hg hr) _) (ownFrom_below (Nat.le_refl _) (by have:=HZ7.out;omega)))
  (fun c s A' B' row hs hg hr=>hs)
  ⟨HI7.out,HB7.out⟩
  (fun x=> {tmps:= #[.pointer (some ⟨g,0,none⟩),undef,.pointer (some ⟨w.heap.size,0,none⟩),.pointer (some ⟨w.heap.size+1,0,none⟩),.pointer (some ⟨w4.heap.size,0,none⟩),.slice (some ⟨b6,64*x.1,none⟩) 64 64,undef,undef,undef,.pointer (some ⟨g,0,none⟩),.bool false,undef,.pointer (some ⟨g,0,none⟩),.pointer (some ⟨g,0,none⟩),.agg (digCs S.list (.slice Ar nr cr) N).toArray,.agg (K32.map w32).toArray,.pointer (some ⟨g,0,none⟩),.pointer (some ⟨g,0,none⟩),.pointer (some ⟨g,8,none⟩),.slice Ar nr cr,.pointer (some ⟨g,0,none⟩),.pointer (some ⟨g,0,none⟩),.pointer (some ⟨g,9,none⟩),.int .i64 N,.slice (some ⟨b6,0,none⟩) (64*NP) c6,.func (.func 73) #[] #[.pointer (some ⟨w6.heap.size,0,none⟩),.pointer (some ⟨w6.heap.size+1,0,none⟩)],.slice (some ⟨b6,64*x.1,none⟩) 64 64,undef,undef,undef,undef,undef,undef,undef,undef,undef,undef,undef,undef,undef,undef,undef,undef,undef,undef,undef,undef,undef,undef,undef,undef,undef],defers:=[]}) ?assign ?body ?done ?stop
 case assign=>
  intro l x W K hK
  simp only[encC,List.zip_toArray,List.zip_cons_cons,List.zip_nil_right,List.zip_nil_left,List.foldl_toArray',List.foldl_toArray,List.foldl_cons,List.foldl_nil,qj,qz,qv]
  gi_wp2
  exact hK
 case body=>
  rintro l pre x W ⟨hI,hB⟩ hN
  have hx:=x.2
  have hxl:64*x.1+64≤P.length:=by rw[HPl.out];omega
  have hcell:∀i,i<64→W.cell? ⟨b6,64*x.1+i,none⟩=some (b8 (((P.drop (64*x.1)).take 64).getD i 0#8)):=fun i hi=>by
   have h2:64*x.1+i<P.length:=by omega
   rw[getD_drop_take _ _ _ _ hi h2]
   exact(hI.p.at_ h2).1
  have hpl:((P.drop (64*x.1)).take 64).length=64:=by rw[List.length_take,List.length_drop];omega
  have hpc:=piece_any (w.heap.size+1) w4.heap.size b6 (64*x.1) 64 (foldC sha32 P S (pre.map Subtype.val)) (.slice Ar nr cr) N ((P.drop (64*x.1)).take 64) W hI.e hI.k hpl (hI.p.lt b6 rfl).2 hcell
  have HPc:=qq hpc
  have HI:=qq hI
  have HB:=qq hB
  clear hcell hpl hpc hI hB hx hxl
  gi_wp2_with fail
  refine⟨trivial,?_⟩
  refine(CallsIn.inRound l (callsIn_wide.2 HPc.out)).mono ?_
  rintro e W2 ⟨rfl,hd2,hg2⟩
  have hge:w.heap.size+1<W.heap.size:=HI.out.e.lt
  have hI2:SmI (w.heap.size+1) w4.heap.size w.heap.size b6 c6 NP w6.heap.size (w6.heap.size+1) P (.slice Ar nr cr) N (foldC sha32 P S ((pre++ [x]).map Subtype.val)) W2:=by
   refine⟨?_,HI.out.k.grown hg2 (by simp;omega),HI.out.o.grown hg2 (by simp),HI.out.p.kept hg2 (.inr (by have:=HI.out.e.not_row (by decide) HI.out.p;exact fun e=>this e.symm)),HI.out.s.kept hg2 (by simp;omega),HI.out.n.kept hg2 (by simp;omega)⟩
   rw[List.map_append,List.map_cons,List.map_nil,foldC_snoc]
   exact hd2
  have hb2:Below w.heap.size W W2:=(Below.refl _ W).grown hg2 HB.out.size (fun k e=>by cases e;omega)
  have hk2:KpC w.heap.size w6.heap.size (w6.heap.size+1) W W2:=⟨hb2,hg2.block _ HI.out.s.lt (by simp;omega),hg2.block _ HI.out.n.lt (by simp;omega)⟩
  have ho2:KeepsOthers W W2:=KeepsOthers.of_grownBy hg2 (fun j o e ho=>by
   cases e
   have:W.heap[w.heap.size+1]?=some (.cells _ _ (0,0)):=HI.out.e.2
   rw[this]at ho;cases ho;rfl)
  have HA:=qq (And.intro ho2 (And.intro hk2 (And.intro hI2 (HB.out.trans hb2))))
  clear hd2 hg2 hI2 hb2 hk2 ho2
  gi_wp2_with fail
  exact HA.out
 case done=>
  rintro D ys W hD hys ⟨hI,hB⟩ hK
  obtain⟨R,hR⟩:∃R,R=sha32.pieces NP P S:=⟨_,rfl⟩
  rw[hys,foldC_range,←hR]at hI
  have HI:=qq hI
  have HB:=qq hB
  have HK:=qq hK
  have HR:=qq hR
  clear hI hB hK hR hys
  go_wp2_with (refine wpList_load_mid rfl 163 (.tmp 29) rfl (w.heap.size+1) 0 rfl (R.list.map w32) _ HI.out.e.range Tryd.underlying163 rfl (by rw[List.length_map,S8.list_len];exact size8) ?_)
  obtain⟨O,hO⟩:∃O,O=R.list.flatMap bytes32:=⟨_,rfl⟩
  have hOl:O.length=32:=by rw[hO,out32_len]
  have hOa:=HI.out.o
  have HA0:=qq (show Arr b8 W w.heap.size 29 (fillTo O (4*0))from hOa.cast (by rw[fillTo_0,hOl]))
  have HOl:=qq hOl
  have HOe:=qq hO
  clear hO hOl hOa
  have hDz:w.heap.size<D:=by have:=HZ7.out;omega
  have HDz:=qq (show D≠w.heap.size by omega)
  go_loopw [31] (fun v wr=>∃i:Nat,i≤8∧v= .int .i64 i∧Arr b8 wr w.heap.size 29 (fillTo O (4*i))∧Below w.heap.size w wr∧wr.heap[D]?=some (.deferred (some []))) (fun v _=>8-(intOf v).toNat)
  case atStart=>exact⟨0,by omega,rfl,HA0.out,HB.out,HK.out⟩
  case round=>
   clear HA0
   obtain⟨i,hi,rfl,ha,hb,hk⟩:=hrel
   have HA:=qq ha
   have HB2:=qq hb
   have HK2:=qq hk
   clear ha hb hk
   by_cases hlt:i<8
   ·have ci:=fun w=>run_idx32 (xs:=R.list) (i:=i) (S8.list_len _) hlt w
    have hat:=fun j (hj:j<4)=>out32_at R i j hlt hj
    rw[←HOe.out]at hat
    generalize R.list.getD i 0#32=x at ci hat
    simp only[w32]at ci
    have Hat:=qq hat
    clear hat
    go_wp2_with fail
    clear ci
    go_loopw [35] (fun v wr=>∃j:Nat,j≤4∧v= .int .i64 j∧Arr b8 wr w.heap.size 29 (fillTo O (4*i+j))∧Below w.heap.size w wr∧wr.heap[D]?=some (.deferred (some []))) (fun v _=>4-(intOf v).toNat)
    case atStart=>exact⟨0,by omega,rfl,HA.out,HB2.out,HK2.out⟩
    case round=>
     clear HA HB2 HK2
     obtain⟨j,hj,rfl,ha,hb,hk⟩:=hrel
     have HA:=qq ha
     have HB2:=qq hb
     have HK2:=qq hk
     clear ha hb hk
     by_cases hlt2:j<4
     ·have c1:=HA.out.cellD (k:=4*i+j) (by rw[fillTo_len _ _ (by rw[HOl.out];omega),HOl.out];omega) 0#8
      have f1:=HA.out.frozen (4*i+j)
      have i1:(0:Int)≤4*(i:Int)+(j:Int):=by omega
      have i2:4*(i:Int)+(j:Int)<32:=by omega
      obtain⟨q,hq⟩:∃q,q=24-8*j:=⟨_,rfl⟩
      have e1:(24:Int)-8*(j:Int)=(q:Int):=by omega
      have Hq:=qq hq
      clear hq
      go_wp2_with fail
      go_roundw
      case rel=>
       refine⟨j+1,by omega,by go_num,?_,HB2.out.setCell (p:=⟨w.heap.size,_,none⟩) (Nat.le_refl _) _,(Below.heap_setCell _ ⟨w.heap.size,_,none⟩ _ _ HDz.out).trans HK2.out⟩
       have h2:=HA.out.set_ (4*i+j) ((x>>>q).setWidth 8)
       refine h2.cast ?_
       rw[Hq.out,←Hat.out j hlt2]
       exact fillTo_set _ _ (by rw[HOl.out];omega)
      case measure=>simp[intOf];omega
     ·obtain rfl:j=4:=by omega
      rw[show(((4:Nat)):Int)=4 from rfl]
      go_wp2_with fail
      go_roundw
      case rel=>exact⟨i+1,by omega,by go_num,HA.out.cast (by congr 1),HB2.out,HK2.out⟩
      case measure=>simp[intOf];omega
   ·obtain rfl:i=8:=by omega
    rw[show(((8:Nat)):Int)=8 from rfl]
    have HA2:=qq (show Arr b8 wr w.heap.size 29 O from HA.out.cast (by have:=fillTo_all O;rw[HOl.out]at this;exact this))
    clear HA
    go_wp2_with (first
     |refine wpList_load_arr rfl 29 _ rfl w.heap.size rfl _ O HA2.out _ Tryd.underlying29 rfl (by rw[size32,HOl.out]) ?_
     |(refine wpList_store_arr rfl 29 _ _ rfl w.heap.size rfl O rfl _ _ HA2.out rfl (by rw[size32,HOl.out]) b8_one' ?_;intro w9 hx9 hg9))
    have hK9:w9.heap[D]?=some (.deferred (some [])):=(hg9.block D (by have:=(Array.getElem?_eq_some_iff.1 HK2.out).1;exact this) (by simpa using HDz.out)).trans HK2.out
    have hb9:Below w.heap.size w w9:=HB2.out.grown hg9 HB2.out.size (fun k e=>by cases e;exact Nat.le_refl _)
    refine⟨by simp,.inl ⟨_,_,rfl,run_takeDeferred hK9,?_⟩⟩
    have hx10:=arrO hx9 (grownBy_putObj' _ D (.deferred none)) (fun r e=>by cases e;exact⟨_,hK9,rfl⟩)
    refine⟨_,results_arr (g:=w.heap.size) rfl _ _ _ _ _ rfl hx10 Tryd.underlying29 rfl (by rw[size32,HOl.out]),?_,?_⟩
    ·rw[arrV_mk,HOe.out,HR.out]
     unfold sum32
     have hN:=HN.out
     have hP1:=HP.out
     have hP2:=HPl.out
     rw[hP1,hN]at hP2
     rw[hP1,HS.out,hN,sum32_split t h NP (by rw[Hh.out];exact Nat.mul_div_le _ _) hP2]
    ·exact hb9.trans (belowK_b (w:=w) (Nat.le_refl _) _ D _ _ (by omega) hK9 rfl rfl)
 case stop=>
  rintro D c' pre W hD hpre h hK
  exact h.elim
set_option maxRecDepth 100000 in
set_option maxHeartbeats 1000000 in
theorem short_any(w:World)(B b off c n:Nat)(ps:List Pt)(hp:Pts w B b off ps)(hB:B≤w.heap.size)(hn:n=ps.length)(hn2:n≤100000)(xs:List (BitVec 8))(hxs:xs=ps.flatMap fun p=>p.2)(htot:xs.length≤50000000):
 Calls Tryd.prog 87 #[.slice (some ⟨b,off,none⟩) n c] w fun e w'=>e= .returned (arrV b8 (sum32 xs))∧Below w.heap.size w w':=by
 have HP:=qq hp
 have HN:=qq hn
 have HT:=qq htot
 have HX:=qq hxs
 have HO0:=qq (Arr.new b8 w 29 (List.replicate 32 0#8))
 clear hp hn htot hxs
 go_enter Tryd.func87,Tryd.ntmps87
 go_wp2_with fail
 refine(new_any _).mono ?_
 rintro e w1 ⟨rfl,hd1,hb1⟩
 have hz1:=hb1.size
 rw[World.size_alloc]at hd1 hb1 hz1
 have HD1:=qq (show DigT w1 (w.heap.size+1) (w.heap.size+1) (allTo ps 0)from DigT.nil_ hd1)
 have HO1:=qq (HO0.out.below hb1 (by omega))
 have HB1:=qq (Below.trans ((Below.refl _ w).alloc (Nat.le_refl _) _) (hb1.mono (Nat.le_succ _)))
 clear hd1 hb1 HO0
 go_wp2_with fail
 go_loopw [9] (fun v wr=>∃k:Nat,k≤n∧v= .int .i64 k∧DigT wr (w.heap.size+1) (w.heap.size+1) (allTo ps k)∧Arr b8 wr w.heap.size 29 (List.replicate 32 0#8)∧Below w.heap.size w wr) (fun v _=>n-(intOf v).toNat)
 case atStart=>exact⟨0,by omega,rfl,HD1.out,HO1.out,HB1.out⟩
 case round=>
  clear HD1 HO1 HB1
  obtain⟨k,hk,rfl,hd,ho,hb⟩:=hrel
  have HD:=qq hd
  have HO:=qq ho
  have HB:=qq hb
  have hz:=hd.lt
  clear hd ho hb
  by_cases hlt:k<n
  ·have hk':k<ps.length:=by rw[←HN.out];exact hlt
   have hp2:=HP.out.below HB.out hB HP.out.lt
   have h1:=hp2.row k _ (List.getElem?_eq_getElem hk')
   have h2:=hp2.len _ (List.getElem_mem hk')
   have h3:=hp2.rd _ (List.getElem_mem hk')
   have h4:=lenTo_mono ps (k+1) ps.length (by omega)
   rw[lenTo_all,lenTo_succ ps k hk',←HX.out]at h4
   have h5:=HT.out
   have h6:=allTo_succ ps k hk'
   have h7:=allTo_len ps k
   obtain⟨⟨⟨A,m,cc⟩,ys⟩,hu⟩:∃u,ps[k]=u:=⟨_,rfl⟩
   rw[hu]at h1 h2 h3 h4 h6
   simp only[sl]at h1 h2 h3 h4 h6
   have hc:=add_any wr (w.heap.size+1) (w.heap.size+1) B m cc A (allTo ps k) ys HD.out (by omega) h3 (by omega) h2 (fun a hl e=>by
    obtain⟨b',off',e',hb',-⟩:=h3 hl
    rw[e]at e';cases e'
    show b'≠_;omega) (by omega)
   rw[←h6]at hc
   have HC:=qq hc
   clear hp2 h2 h3 h4 h5 h6 h7 hu hc
   go_wp2_with fail
   refine HC.out.mono ?_
   rintro e w2 ⟨rfl,hd2,hg2⟩
   have HD2:=qq (hd2.less (B':=w.heap.size+1) (by omega))
   have HO2:=qq (HO.out.grown hg2 (by simp))
   have HB2:=qq (HB.out.grown hg2 HB.out.size (fun k e=>by cases e;omega))
   clear hd2 hg2
   go_wp2_with fail
   go_roundw
   case rel=>exact⟨k+1,by omega,by go_num,HD2.out,HO2.out,HB2.out⟩
   case measure=>simp[intOf];omega
  ·obtain rfl:k=n:=by omega
   have hall:allTo ps k=xs:=by unfold allTo;rw[HN.out,List.take_length,HX.out]
   have hd:=HD.out
   rw[hall]at hd
   have hs:=sum_any wr (w.heap.size+1) (w.heap.size+1) xs hd HT.out
   rw[arrV_mk]at hs
   have HS:=qq hs
   have HSl:=qq (show(sum32 xs).length=32 from rfl)
   clear hall hd hs
   go_wp2_with fail
   refine HS.out.mono ?_
   rintro e w2 ⟨rfl,hb2⟩
   have HO2:=qq (HO.out.below hb2 (by omega))
   have HB2:=qq (HB.out.trans (hb2.mono HB.out.size))
   clear hb2 HO HB HD HS
   go_wp2_with (refine wpList_store_arr rfl 29 _ _ rfl w.heap.size rfl (sum32 xs) rfl _ _ HO2.out rfl (by rw[size32,HSl.out]) b8_one' ?_;intro w9 hx9 hg9)
   refine bodyPost_ret (v:= .agg ((sum32 xs).map b8).toArray) (results_arr (g:=w.heap.size) rfl _ _ _ _ _ rfl hx9 Tryd.underlying29 rfl (by rw[size32,HSl.out])) rfl ?_
   exact⟨rfl,HB2.out.grown hg9 HB2.out.size (fun k e=>by cases e;exact Nat.le_refl _)⟩
def str(xs:List (BitVec 8)):ByteArray:=⟨(xs.map fun b=>UInt8.ofNat b.toNat).toArray⟩
theorem str_toList(xs:List (BitVec 8)):(str xs).data.toList=xs.map fun b=>UInt8.ofNat b.toNat:=by simp[str]
theorem u8_inj{a b:BitVec 8}(h:UInt8.ofNat a.toNat=UInt8.ofNat b.toNat):a=b:=by
 have h1:=congrArg UInt8.toNat h
 have ha:=a.isLt
 have hb:=b.isLt
 apply BitVec.eq_of_toNat_eq
 simp only[UInt8.toNat_ofNat']at h1
 omega
theorem map_inj'{α β:Type}(f:α→β)(hf:∀a b,f a=f b→a=b):∀(xs ys:List α),xs.map f=ys.map f→xs=ys
 | [],[],_=>rfl
 | [],_::_,h=>by cases h
 |_::_,[],h=>by cases h
 |x::xs,y::ys,h=>by
  simp only[List.map_cons,List.cons.injEq]at h
  rw[hf _ _ h.1,map_inj' f hf xs ys h.2]
theorem foldl_push:∀(xs:List (BitVec 8)) (s:ByteArray),(xs.map (fun b=>bv b)).foldl (fun r n=>r.push (UInt8.ofNat n.toNat)) s=⟨s.data++(xs.map fun b=>UInt8.ofNat b.toNat).toArray⟩
 | [],s=>by simp
 |x::xs,s=>by
  rw[List.map_cons,List.foldl_cons,foldl_push xs]
  congr 1
  apply Array.ext'
  simp[ByteArray.push,bv_toNat]
theorem run_str{P:Program}{w:World}{B:Nat}{A:Option Addr}{xs:List (BitVec 8)}(h:Rd b8 w B A xs)(t s e:TypeId)(c:Nat)
 (ht:P.underlying t=some (.slice e))(he:P.underlying e=some (.int .u8))(hs:P.underlying s=some .string):
 (convert t s (.slice A xs.length c)).run P w= .ok (.string (str xs)) w:=by
 rw[run_convert_bytes_string w t s e A _ _ ht he hs]
 rcases A with _|a
 ·have hx:xs=[]:=by
   rcases Nat.eq_zero_or_pos xs.length with h0|h0
   ·exact List.eq_nil_of_length_eq_zero h0
   ·obtain⟨b,off,e,_⟩:=h h0
    cases e
  subst hx
  rfl
 ·have hl:=run_loadCells_list (P:=P) w a (xs.map b8) (h.cells rfl)
  rw[List.length_map]at hl
  have hb:xs.map b8=(xs.map fun b=>bv b).map (Value.int .u8):=by rw[List.map_map];rfl
  rw[hb]at hl
  rw[run_bytesToString w a xs.length c (xs.map fun b=>bv b) hl,foldl_push]
  congr 2
  simp[str]
end Go.Proofs.YtelgjaiknaalkaaDoor
namespace Go.Proofs.YtelgjaiknaalkaaDoor
open Go.RowKit
open Go.Extern.Stop (cell)
attribute [local go_sem] Oper.semAt_some
theorem semAt_exec(ro:Option Nat)(ρ:Operand→Value)(o:Oper)(h:∀c,o.op≠ .defer c):Oper.semAt ro ρ o=execOp ρ o:=by
 cases ro with
 |none=>unfold Oper.semAt;rfl
 |some l=>exact Oper.semAt_some l ρ o h
section
variable{F:Fence}{n:Nat}{P:Program}{α:Type}{f:α→Value}{ops:Array Oper}{rest:List Oper}{op:Oper}{a:Act}{w:World}{Q:Exit→Act→World→Prop}
theorem wpListIn_load_arr(hgd:Region.wanted op (yielded ops a.tmps)=true)(ty:TypeId)(x:Operand)(ho:op.op= .load ty x)
 (g:Nat)(hx:a.eval x= .pointer (some ⟨g,0,none⟩))(T:TypeId)(xs:List α)(hA:Arr f w g T xs)(d:TypeDesc)
 (hu:P.underlying ty=some d)(hd:d.isRow=true)(hi:(P.info? ty).map (·.size)=some xs.length)
 (h:wpListIn F n P ops Q rest (a.put op.dst (.agg (xs.map f).toArray)) w):wpListIn F n P ops Q (op::rest) a w:=by
 refine wpListIn_step fun K hK=>?_
 rw[if_pos hgd]
 have hl:=run_loadVar_mid (P:=P) w g 0 ty (xs.map f) d hA.whole hu hd (by rw[hi,List.length_map])
 unfold Oper.wpIn
 refine⟨fun f' hf'=>by simp[Oper.about,ho]at hf',?_⟩
 rw[semAt_exec _ _ _ (fun c=>by rw[ho];simp)]
 unfold execOp
 simp only[ho,hx,Instr.loadAt,Instr.sureAddr,Sem.run_bind,Sem.run_pure,Result.andThen_ok,hl,Oper.uponIn_value]
 exact hK _ _ h
theorem wpListIn_store_arr(hgd:Region.wanted op (yielded ops a.tmps)=true)(ty:TypeId)(x y:Operand)(ho:op.op= .store ty x y)
 (g:Nat)(hx:a.eval x= .pointer (some ⟨g,0,none⟩))(ys:List α)(hy:a.eval y= .agg (ys.map f).toArray)(T:TypeId)(xs:List α)(hA:Arr f w g T xs)(hl:xs.length=ys.length)
 (hi:(P.info? ty).map (·.size)=some ys.length)(h1:∀u,(f u).oneCell'=true)
 (h:∀w',Arr f w' g T ys→w.grownBy w' (some g)→wpListIn F n P ops Q rest (a.put op.dst undef) w'):wpListIn F n P ops Q (op::rest) a w:=by
 obtain⟨h2,h3⟩:=arr_setCells (f:=f) ys [] xs w hl hA
 refine wpListIn_step fun K hK=>?_
 rw[if_pos hgd]
 have hs:=run_storeVar_mid (P:=P) w g 0 ty (ys.map f).toArray (hA.there (by simp[hl])) (by rw[hi];simp) (all_oneCell_toArray (fun v hv=>by obtain⟨u,_,rfl⟩:=List.mem_map.1 hv;exact h1 u))
 unfold Oper.wpIn
 refine⟨fun f' hf'=>by simp[Oper.about,ho]at hf',?_⟩
 rw[semAt_exec _ _ _ (fun c=>by rw[ho];simp)]
 unfold execOp
 simp only[ho,hx,hy,Instr.storeAt,Instr.sureAddr,Sem.run_bind,Sem.run_pure,Result.andThen_ok,hs,Oper.uponIn_skip]
 exact hK _ _ (h _ h2 h3)
end
def u8(x:BitVec 8):UInt8:=UInt8.ofNat x.toNat
theorem map_b8_cell(xs:List (BitVec 8)):xs.map b8=(xs.map u8).map cell:=by
 rw[List.map_map]
 refine List.map_congr_left fun x _=>?_
 show Value.int .u8 (bv x)=Value.int .u8 ((u8 x).toNat:Int)
 have:(u8 x).toNat=x.toNat:=by
  unfold u8
  rw[UInt8.toNat_ofNat']
  have:=x.isLt
  omega
 rw[this];rfl
theorem u8_beq(xs ys:List (BitVec 8)):(xs.map u8==ys.map u8)=(xs==ys):=by
 rw[Bool.eq_iff_iff,beq_iff_eq,beq_iff_eq]
 exact⟨fun h=>map_inj' _ (fun _ _ h=>u8_inj h) _ _ h,fun h=>by rw[h]⟩
theorem run_neq_b8{P:Program}(w:World)(t e:TypeId)(n:Nat)(ht:P.underlying t=some (.array n e))(he:P.underlying e=some (.int .u8))(hsz:∀w,(sizeOf e).run P w= .ok 1 w)(xs ys:List (BitVec 8))(hx:xs.length=n)(hy:ys.length=n):
 (binOp .neq t (.agg (xs.map b8).toArray) (.agg (ys.map b8).toArray)).run P w= .ok (.bool (!(xs==ys))) w:=by
 rw[map_b8_cell,map_b8_cell,run_neq_struct,run_equalIn_bytes w 9998 t e n ht he hsz (xs.map u8) (ys.map u8) (by simpa using hx) (by simpa using hy),u8_beq]
 rfl
end Go.Proofs.YtelgjaiknaalkaaDoor
namespace Go.Proofs.YtelgjaiknaalkaaDoor
open Go.RowKit
attribute [local go_sem] Oper.semAt_some
section
variable{gs gk go b c NP bs bn:Nat}{P:List (BitVec 8)}{s:S8 64}{W W':World}
end
end Go.Proofs.YtelgjaiknaalkaaDoor
