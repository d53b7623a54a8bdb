/- Lemmas, joined and made smaller by a program. -/
import Derived.Test.YtelgjaiknaalkaaDoorPo26
import Derived.Test.YtelgjaiknaalkaaDoorPo30
import Derived.Test.YtelgjaiknaalkaaDoorPo08
import Derived.Scope
open Go.Lib renaming hid → qq
open List renaming setIfInBounds_toArray → qj
open List renaming set_cons_zero → qz
open List renaming set_cons_succ → qv
set_option linter.unusedVariables false
set_option linter.unusedSimpArgs false
namespace Go.Proofs.YtelgjaiknaalkaaDoor
open Go.RowKit
attribute [local go_sem] Oper.semAt_some
theorem wpIn_scope_w{n:Nat}{P:Program}{c:Code}{Q:Exit→Act→World→Prop}{a:Act}{w:World}(h:c.wpIn Fence.wide n P (Exit.noGoto Q) a w):(Code.scope c).wpIn Fence.wide n P Q a w:=wpIn_wide.2 (wp_scope_straight (wpIn_wide.1 h))
theorem wpIn_label_w{n l:Nat}{P:Program}{Q:Exit→Act→World→Prop}{a:Act}{w:World}(h:Q .normal a w):(Code.label l).wpIn Fence.wide n P Q a w:=wpIn_wide.2 (wp_label h)
def mixQ(ps:List (List (BitVec 8)))(text:List (BitVec 8))(i:Nat):BitVec 8:=text.getD i 0#8^^^(ps.getD (i/64) []).getD (i % 64) 0#8
def mixP(ps:List (List (BitVec 8)))(text:List (BitVec 8))(k:Nat):List (BitVec 8):=(List.range k).map (mixQ ps text)
theorem mixP_succ(ps:List (List (BitVec 8)))(text:List (BitVec 8))(k:Nat):mixP ps text (k+1)=mixP ps text k++ [mixQ ps text k]:=by simp[mixP,List.range_succ]
theorem mixP_len(ps:List (List (BitVec 8)))(text:List (BitVec 8))(k:Nat):(mixP ps text k).length=k:=by simp[mixP]
theorem mixP_snoc(ps:List (List (BitVec 8)))(q:List (BitVec 8))(text:List (BitVec 8))(k:Nat)(hk:k≤64*ps.length):mixP (ps++ [q]) text k=mixP ps text k:=by
 unfold mixP
 refine List.map_congr_left fun i hi=>?_
 have hi':i<k:=List.mem_range.1 hi
 have h:i/64<ps.length:=by omega
 unfold mixQ
 have e:(ps++ [q]).getD (i/64) []=ps.getD (i/64) []:=by simp[List.getD,List.getElem?_append_left h]
 rw[e]
theorem mixQ_last(ps:List (List (BitVec 8)))(q:List (BitVec 8))(text:List (BitVec 8))(i:Nat)(hi:i<64):mixQ (ps++ [q]) text (64*ps.length+i)=text.getD (64*ps.length+i) 0#8^^^q.getD i 0#8:=by
 have h1:(64*ps.length+i)/64=ps.length:=by omega
 have h2:(64*ps.length+i) % 64=i:=by omega
 unfold mixQ
 rw[h1,h2]
 simp[List.getD]
theorem mixP_items(key nonce:List (BitVec 8))(number:Int)(text:List (BitVec 8))(ps:List Pc)(k n:Nat)(h:ps.map Subtype.val=itemsTo key nonce number k)(hn:n≤64*k):mixP (ps.map (·.1.2)) text n=mixTo key nonce number text n:=by
 unfold mixP mixTo
 refine List.map_congr_left fun i hi=>?_
 have hi':i<n:=List.mem_range.1 hi
 have e:ps.map (·.1.2)=(itemsTo key nonce number k).map Prod.snd:=by rw[←h,List.map_map];rfl
 have hq:i/64<k:=by omega
 unfold mixQ mixAt
 rw[e]
 simp[itemsTo,itemP,List.getD,hq]
theorem mixBad_room{len:Nat}{number:Int}(h:badP 12 number=0):mixBad 12 len number=if(((len+63)/64:Nat):Int)>4294967296-number then 8 else 0:=by
 obtain⟨-,g0,g1⟩:=badP_zero h
 unfold mixBad
 rw[if_neg (by rw[h];simp)]
 by_cases hl:0<len
 ·have:(len+63)/64=(len-1)/64+1:=by omega
  rw[this]
  by_cases hc:4294967295<number+(((len-1)/64:Nat):Int)
  ·rw[if_pos ⟨hl,hc⟩,if_pos (by omega)]
  ·rw[if_neg (fun hh=>hc hh.2),if_neg (by omega)]
 ·rw[if_neg (fun hh=>hl hh.1)]
  obtain rfl:len=0:=by omega
  rw[if_neg (by omega)]
def MxI(B ob tb bk bn:Nat)(T:Option Addr)(m d:Nat)(key:List (BitVec 8))(nv:Value)(xs:List (BitVec 8))(W:World):Prop:=∃v,Boxed W ob 33 v∧Own b8 W B 5 v xs∧Boxed W tb 33 (.slice T m d)∧Arr b8 W bk 54 key∧Boxed W bn 33 nv
theorem own_own'{W W':World}{row:Option Nat}{B E:Nat}{v:Value}{xs:List (BitVec 8)}(h:Own b8 W B E v xs)(hg:W.grownBy W' row)(hr:∀r,row=some r→∃o:Obj,W.heap[r]?=some o∧o.isCells=false):Own b8 W' B E v xs:=
 h.kept' hg (fun g e hv=>by
  obtain⟨o,ho,hc⟩:=hr g e
  rcases h.2 with⟨rfl,_⟩|⟨g',cap,cur,rfl,_,hg',_⟩
  ·cases hv
  ·obtain rfl:g'=g:=by simpa[Value.ownBlock]using hv
   rw[hg']at ho;cases ho;cases hc)
theorem boxed_own2{W W':World}{row:Option Nat}{B:Nat}{t:TypeId}{v:Value}(h:Boxed W B t v)(hg:W.grownBy W' row)(hr:∀r,row=some r→∃o:Obj,W.heap[r]?=some o∧o.isCells=false):Boxed W' B t v:=
 h.kept hg (fun e=>by
  obtain⟨o,ho,hn⟩:=hr B e.symm
  have:W.heap[B]?=some (.cells #[v] t (0,0)):=h
  rw[this]at ho;cases ho;cases hn)
theorem arr_own2{W W':World}{row:Option Nat}{B:Nat}{t:TypeId}{v:List (BitVec 8)}(h:Arr b8 W B t v)(hg:W.grownBy W' row)(hr:∀r,row=some r→∃o:Obj,W.heap[r]?=some o∧o.isCells=false):Arr b8 W' B t v:=
 h.grown hg (fun e=>by
  obtain⟨o,ho,hn⟩:=hr B e.symm
  have:W.heap[B]?=some (.cells (v.map b8).toArray t (0,0)):=h
  rw[this]at ho;cases ho;cases hn)
section
variable{B ob tb bk bn:Nat}{T:Option Addr}{m d:Nat}{key:List (BitVec 8)}{nv:Value}{xs ys:List (BitVec 8)}{W W':World}
theorem MxI.own{row:Option Nat}(h:MxI B ob tb bk bn T m d key nv xs W)(hg:W.grownBy W' row)(hr:∀r,row=some r→∃o:Obj,W.heap[r]?=some o∧o.isCells=false):MxI B ob tb bk bn T m d key nv xs W':=by
 obtain⟨v,h1,h2,h3,h4,h5⟩:=h
 exact⟨v,boxed_own2 h1 hg hr,own_own' h2 hg hr,boxed_own2 h3 hg hr,arr_own2 h4 hg hr,boxed_own2 h5 hg hr⟩
theorem MxI.cast(h:MxI B ob tb bk bn T m d key nv xs W)(e:xs=ys):MxI B ob tb bk bn T m d key nv ys W:=e▸h
theorem MxI.far{row:Option Nat}(h:MxI B ob tb bk bn T m d key nv xs W)(hg:W.grownBy W' row)(hr:∀r,row=some r→W.heap.size≤r):MxI B ob tb bk bn T m d key nv xs W':=by
 obtain⟨v,h1,h2,h3,h4,h5⟩:=h
 exact⟨v,h1.kept hg (fun e=>by have:=hr _ e.symm;have:=h1.lt;omega),h2.kept' hg (fun g e hv=>by have:=hr g e;have:=(h2.lt g hv).2;omega),h3.kept hg (fun e=>by have:=hr _ e.symm;have:=h3.lt;omega),h4.grown hg (fun e=>by have:=hr _ e.symm;have:=h4.lt;omega),h5.kept hg (fun e=>by have:=hr _ e.symm;have:=h5.lt;omega)⟩
theorem MxI.kp{n₀:Nat}(h:MxI B ob tb bk bn T m d key nv xs W)(h':MxI B ob tb bk bn T m d key nv ys W')(hb:Below n₀ W W'):KpQ n₀ bk bn W W':=by
 obtain⟨v,h1,h2,h3,h4,h5⟩:=h
 obtain⟨v',k1,k2,k3,k4,k5⟩:=h'
 exact⟨hb,Eq.trans k4 (Eq.symm h4),Eq.trans k5 (Eq.symm h5)⟩
end
theorem arr_not_row{W:World}{g:Nat}{t e:TypeId}{us:List (BitVec 8)}(h:Arr b8 W g t us)(hte:t≠e){B:Nat}{v:Value}{xs:List (BitVec 8)}(hr:Own b8 W B e v xs):some g≠v.ownBlock:=by
 rcases hr.2 with⟨rfl,_⟩|⟨g',cap,cur,rfl,_,hgb,_⟩
 ·simp[Value.ownBlock]
 ·intro e'
  obtain rfl:g=g':=by simpa[Value.ownBlock]using e'
  have:W.heap[g]?=some (.cells (us.map b8).toArray t (0,0)):=h
  rw[this]at hgb;cases hgb;exact hte rfl
theorem cell_alloc_of{W:World}{a:Addr}{v:Value}(h:W.cell? a=some v)(o:Obj):(W.alloc o).cell? a=some v:=by
 have hlt:a.block<W.heap.size:=by
  rcases Nat.lt_or_ge a.block W.heap.size with h'|h'
  ·exact h'
  ·rw[World.cell?,Array.getElem?_eq_none h']at h;cases h
 rw[←h];unfold World.cell?;rw[(World.grownBy_alloc W o none).block a.block hlt (by simp)]
section
variable{W w1:World}{n₀:Nat}{e:TypeId}{v v':Value}{xs ys:List (BitVec 8)}{tmp:Obj}
theorem mx_append{ob:Nat}{t:TypeId}(hv:Boxed W ob t v)(hrow:Own b8 W n₀ e v xs)(hn:n₀≤W.heap.size)(hown':Own b8 w1 n₀ e v' ys)(hgrow:(W.alloc tmp).drew.grownBy w1 v.ownBlock)(hB:n₀≤ob)(hte:t≠e:=by decide):
 Boxed w1 ob t v∧Boxed (w1.setCell ⟨ob,0,none⟩ v') ob t v'∧Own b8 (w1.setCell ⟨ob,0,none⟩ v') n₀ e v' ys∧KeepsOthers W (w1.setCell ⟨ob,0,none⟩ v')∧Below n₀ W (w1.setCell ⟨ob,0,none⟩ v'):=
 Boxed.appended (W:=W) (tmp:=tmp) hv hte hrow hn hB hown' ⟨hgrow.os,hgrow.tape,hgrow.output,hgrow.size,hgrow.block⟩
theorem mx_box2{B:Nat}{t:TypeId}{u:Value}(hv:Boxed W B t u)(hrow:Own b8 W n₀ e v xs)(hgrow:(W.alloc tmp).drew.grownBy w1 v.ownBlock)(hte:t≠e:=by decide):Boxed w1 B t u:=
 Boxed.kept (W:=(W.alloc tmp).drew) (hv.alloc tmp) hgrow (hv.not_row hte hrow)
theorem mx_arr2{B:Nat}{t:TypeId}{us:List (BitVec 8)}(hv:Arr b8 W B t us)(hrow:Own b8 W n₀ e v xs)(hgrow:(W.alloc tmp).drew.grownBy w1 v.ownBlock)(hte:t≠e:=by decide):Arr b8 w1 B t us:=
 Arr.grown (w:=(W.alloc tmp).drew) (hv.alloc tmp) hgrow (arr_not_row hv hte hrow)
end
theorem run_idx{xs:List (BitVec 8)}{i:Nat}(hx:xs.length=64)(hi:i<64)(w:World):(Instr.index 99 (.agg (xs.map b8).toArray) (.int .i64 i)).run Tryd.prog w= .ok (b8 (xs.getD i 0#8)) w:=by
 have hu:=Tryd.underlying99
 have h1:(xs.map b8).toArray[i]?=some (b8 (xs.getD i 0#8)):=by simp[List.getD,hx,hi]
 have h2:(0:Int)≤i∧(i:Int)<64:=by omega
 have h3:i<64:=hi
 have h4:xs[i]?=some (xs.getD i 0#8):=by simp[List.getD,hx,hi]
 simp[Instr.index,run_underlying hu,asIntOf,h3,go_sem]
 rw[h4]
 simp[go_sem,List.getD]
set_option maxRecDepth 100000 in
set_option maxHeartbeats 4000000 in
theorem mix_any(key:List (BitVec 8))(A:Option Addr)(n c B:Nat)(nonce:List (BitVec 8))(number:Int)(T:Option Addr)(m d B':Nat)(text:List (BitVec 8))(w:World)(hk:key.length=32)(hr:Rd b8 w B A nonce)(hB:B≤w.heap.size)(hn:nonce.length=n)(hnc:n≤c)
 (ht:Rd b8 w B' T text)(hB':B'≤w.heap.size)(hm:text.length=m)(hbig:m≤1100000)(hq1: -9223372036854775808≤number)(hq2:number<9223372036854775808):
 Calls Tryd.prog 27 #[arrV b8 key,.slice A n c,.int .i64 number,.slice T m d] w fun e w'=>∃v,e= .returned (.tuple #[v,errV (mixBad n m number)])∧Own b8 w' w.heap.size 5 v (mixV key nonce number text)∧Below w.heap.size w w':=by
 obtain⟨i0,hi0,hz0,hz1,hz2⟩:=info_parts infoU8
 have hmn:n=nonce.length:=hn.symm
 have hck:=fun w=>check03_any A n c number w
 have HK:=qq hk
 have HN:=qq hn
 have HM:=qq hm
 have HR:=qq hr
 have HT:=qq ht
 rw[arrV_mk]
 by_cases hb:badP n number=0
 ·obtain⟨h12,g0,g1⟩:=badP_zero hb
  subst h12
  simp only[hb,errV_zero]at hck
  have hrm:(((m:Int)+64-1).tdiv 64)=(((m+63)/64:Nat):Int):=by rw[Int.tdiv_eq_ediv_of_nonneg (by omega)];omega
  obtain⟨q,hq⟩:∃q,q=(m+63)/64:=⟨_,rfl⟩
  rw[←hq]at hrm
  have hqm:q≤20000:=by omega
  have Hck:=qq hck
  have Hmb:=qq (mixBad_room (len:=m) hb)
  have Hb:=qq hb
  have Hq:=qq hq
  clear hk hn hmn hm hr ht hck hb hq
  by_cases hrr:(q:Int)>4294967295-number+1
  ·skip
   refine(callsIn_wide (n:=9)).1 ?_
   refine callsIn_of_wp_marks Tryd.func27 rfl trivial ?_ rfl
   simp only[Tryd.ntmps27,List.size_toArray,List.length_cons,List.length_nil,Nat.reduceAdd,Nat.reduceSub,Array.replicate_succ,Array.replicate_zero,List.push_toArray,List.append_toArray,List.nil_append,List.cons_append]
   gi_wp2_with fail
   refine wpIn_scope_w ?_
   gi_wp2_with fail
   refine⟨trivial,?_⟩
   refine(callsIn_wide.2 (Hck.out _)).mono ?_
   rintro e w' ⟨rfl,rfl⟩
   gi_wp2_with fail
   have e8:mixBad 12 m number=8:=by rw[Hmb.out,←Hq.out,if_pos (by omega)]
   exact⟨.tuple #[.slice none 0 0,.iface 41 (.int .i64 8)],by simp[results,Tryd.f27,go_sem],.slice none 0 0,by rw[e8];rfl,(Own.nil_ b8 _ _ _).cast (by unfold mixV;rw[HN.out,HM.out,if_neg (by rw[e8];simp)]),by(repeat' (first|assumption|exact Below.refl _ _|refine Below.drew ?_|refine Below.alloc ?_ ?_ _|omega|(simp;done)|(simp;omega)))⟩
  ·skip
   refine(callsIn_wide (n:=9)).1 ?_
   refine callsIn_of_wp_marks Tryd.func27 rfl trivial ?_ rfl
   simp only[Tryd.ntmps27,List.size_toArray,List.length_cons,List.length_nil,Nat.reduceAdd,Nat.reduceSub,Array.replicate_succ,Array.replicate_zero,List.push_toArray,List.append_toArray,List.nil_append,List.cons_append]
   gi_wp2_with fail
   refine wpIn_scope_w ?_
   gi_wp2_with fail
   refine⟨trivial,?_⟩
   refine(callsIn_wide.2 (Hck.out _)).mono ?_
   rintro e w' ⟨rfl,rfl⟩
   gi_wp2_with (refine wpListIn_make_own _ rfl (.const (.int .i64 0)) (.tmp 33) 33 rfl w.heap.size 5 i0 _ 1 Tryd.underlying33 hi0 hz0 hz1 .i64 .i64 (m:Int) m rfl rfl rfl (by rw[hz2];omega) (by simp[maxLen];omega) (by simp;omega) ?_;intro w3 hown3 hg3;have HO3:=qq (show Own b8 w3 w.heap.size 5 _ []from hown3);have HG3:=qq hg3;clear hown3 hg3)
   have hb2:Below w.heap.size w ((w.alloc (.cells (key.map b8).toArray 54)).alloc (.cells #[.slice T m d] 33)):=by(repeat' (first|assumption|exact Below.refl _ _|refine Below.drew ?_|refine Below.alloc ?_ ?_ _|omega|(simp;done)|(simp;omega)))
   have hb3:Below w.heap.size w w3:=hb2.grown HG3.out (by simp;omega) (fun k e=>by cases e)
   have hz3:w.heap.size+2≤w3.heap.size:=by have:=HG3.out.size;simpa using this
   have hA3:Arr b8 w3 w.heap.size 54 key:=((Arr.new b8 w 54 key).alloc _).grown HG3.out (by simp)
   have hT3:Boxed w3 (w.heap.size+1) 33 (.slice T m d):=by
    have:=Boxed.new (w.alloc (.cells (key.map b8).toArray 54)) 33 (.slice T m d)
    simp only[World.size_alloc]at this
    exact this.kept HG3.out (by simp)
   have ho3:=HO3.out
   simp only[World.size_alloc]at ho3
   refine wpIn_label_w ?_
   generalize hW4:World.alloc w3 _=W4
   have hf:Arr b8 W4 w.heap.size 54 key∧(∃v,Boxed W4 w3.heap.size 33 v∧Own b8 W4 w.heap.size 5 v [])∧Boxed W4 (w.heap.size+1) 33 (.slice T m d)∧Below w.heap.size w W4∧W4.heap.size=w3.heap.size+1:=by
    rw[←hW4]
    exact⟨hA3.alloc _,⟨_,Boxed.new w3 33 _,Own.alloc ho3 _⟩,hT3.alloc _,hb3.alloc hb3.size _,by simp⟩
   obtain⟨hA4,⟨v4,hv4,ho4⟩,ht4,hb4,hz4⟩:=hf
   clear hW4 ho3 hT3 hA3 hb2 HG3 HO3
   have HA4:=qq hA4
   have HM4:=qq (And.intro hv4 (And.intro ho4 ht4))
   have HB4:=qq hb4
   have hp:=pieces_any key A 12 c number W4
   rw[arrV_mk]at hp
   have HP:=qq hp
   clear hA4 hv4 ho4 ht4 hb4 hp
   gi_wp2_with (refine wpListIn_load_arr rfl 54 _ rfl w.heap.size rfl _ key HA4.out _ Tryd.underlying54 rfl (infoKey' HK.out) ?_)
   refine⟨trivial,?_⟩
   refine(callsIn_wide.2 HP.out).mono ?_
   rintro e w5 ⟨rfl,rfl⟩
   gi_wp2_with fail
   generalize hW5:World.alloc (World.alloc (World.alloc W4 _) _) _=W5
   have hf:MxI w.heap.size w3.heap.size (w.heap.size+1) (w3.heap.size+1) (w3.heap.size+1+1) T m d key (.slice A 12 c) [] W5∧Boxed W5 (w3.heap.size+1+2) 3 (.int .i64 number)∧Below w.heap.size w W5∧W5.heap.size=w3.heap.size+4:=by
    rw[←hW5]
    obtain⟨hv4,ho4,ht4⟩:=HM4.out
    refine⟨⟨v4,((hv4.alloc _).alloc _).alloc _,((ho4.alloc _).alloc _).alloc _,((ht4.alloc _).alloc _).alloc _,?_,?_⟩,?_,?_,?_⟩
    ·exact((Arr.at_size b8 _ _ hz4).alloc _).alloc _
    ·have:=Boxed.new (W4.alloc (.cells (key.map b8).toArray 54)) 33 (.slice A 12 c)
     rw[World.size_alloc,hz4]at this
     exact this.alloc _
    ·have:=Boxed.new ((W4.alloc (.cells (key.map b8).toArray 54)).alloc (.cells #[.slice A 12 c] 33)) 3 (.int .i64 number)
     rw[World.size_alloc,World.size_alloc,hz4]at this
     exact this
    ·have:=HB4.out.size
     exact((HB4.out.alloc this _).alloc (by simp;omega) _).alloc (by simp;omega) _
    ·simp[hz4]
   obtain⟨hM5,hN5,hb5,hz5⟩:=hf
   clear hW5 HA4 HM4 HB4 HP
   obtain⟨v5,hv5⟩:=id hM5
   have HA5:=qq hv5.2.2.2.1
   have HBn5:=qq hv5.2.2.2.2
   clear hv5
   have hnn:=HN.out
   refine wpIn_rangeFunc_ownH rfl (by omega) (gf:=59) (lb:= #[.pointer (some ⟨w3.heap.size+1+2,0,none⟩),.pointer (some ⟨w3.heap.size+1,0,none⟩),.pointer (some ⟨w3.heap.size+1+1,0,none⟩)]) rfl trivial (enters_of Tryd.func59 (by kernel_rfl) rfl)
    (pieces_stops 8 (by omega) key A 12 c nonce number (w3.heap.size+1+2) (w3.heap.size+1) (w3.heap.size+1+1) w.heap.size HK.out HN.out hnc hq1 hq2 W5 hN5 HA5.out HBn5.out ((HR.out.below (hb5.mono hB)).more hB) hb5.size)
    KpQ.t (fun W l o o' hl ho hc hw=>⟨(Below.refl _ W).grown (grownBy_putObj' W l o') (by have:=(Array.getElem?_eq_some_iff.1 ho).1;omega) (fun k e=>by cases e;omega),World.putObj_heap_other (by omega),World.putObj_heap_other (by omega)⟩) (Below.refl _ _) (fun _=>rfl)
    (fun pre W=>(MxI w.heap.size w3.heap.size (w.heap.size+1) (w3.heap.size+1) (w3.heap.size+1+1) T m d key (.slice A 12 c) (mixP (pre.map (·.1.2)) text (64*pre.length)) W∧64*pre.length≤m)∧Below w.heap.size w W)
    (fun c' pre W=>(MxI w.heap.size w3.heap.size (w.heap.size+1) (w3.heap.size+1) (w3.heap.size+1+1) T m d key (.slice A 12 c) (mixP (pre.map (·.1.2)) text m) W∧c'= .exit 0∧m≤64*pre.length)∧Below w.heap.size w W)
    (OwnFrom.and (Go.Own.from (fun s A' B' row hs hg hr=>⟨hs.1.own hg hr,hs.2⟩) _) (ownFrom_below (Nat.le_refl _) (by omega)))
    (fun c=>OwnFrom.and (Go.Own.from (fun s A' B' row hs hg hr=>⟨hs.1.own hg hr,hs.2⟩) _) (ownFrom_below (Nat.le_refl _) (by omega)))
    ⟨⟨hM5,by simp⟩,hb5⟩
    (fun x a' W=>∃g,a'={tmps:= #[.agg (key.map b8).toArray,.slice A 12 c,.int .i64 number,.slice T m d,.pointer (some ⟨w.heap.size,0,none⟩),undef,undef,.pointer (some ⟨w.heap.size+1,0,none⟩),.slice none 0 0,.nilIface,.nilIface,.pointer (some ⟨w3.heap.size,0,none⟩),undef,.pointer (some ⟨g,0,none⟩),undef,undef,.slice A 12 c,.int .i64 number,.nilIface,.nilIface,.bool false,undef,.slice T m d,.int .i64 m,.int .i64 ((m:Int)+64),.int .i64 ((m:Int)+64-1),.int .i64 q,.int .i64 number,.int .i64 (4294967295-number),.int .i64 (4294967295-number+1),.bool (decide (4294967295-number+1<(q:Int))),undef,.slice T m d,.int .i64 m,.slice (some ⟨w.heap.size+1+1,0,none⟩) 0 m,.agg (key.map b8).toArray,.slice A 12 c,.int .i64 number,.func (.func 59) #[] #[.pointer (some ⟨w3.heap.size+1+2,0,none⟩),.pointer (some ⟨w3.heap.size+1,0,none⟩),.pointer (some ⟨w3.heap.size+1+1,0,none⟩)],.int .i64 x.1.1,.agg (x.1.2.map b8).toArray,undef,undef,undef,undef,undef,undef,undef,undef,undef,undef,undef,undef,undef,undef,undef,undef,undef,undef,undef,undef,undef],defers:=[]}∧Arr b8 W g 99 x.1.2)
    (fun x a' s W W' row hs hg hr=>by obtain⟨g,e,hA⟩:=hs;exact⟨g,e,arr_own2 hA hg (fun r e=>(hr r e).2)⟩) ?assign ?body ?done ?stop
   case assign=>
    rintro l pre x W K ⟨⟨hM,hlen⟩,hB'⟩ hK
    have HZ:=qq (Arr.new b8 W 99 (List.replicate 64 0#8))
    have HX:=qq x.2.2.2
    have HKK:=qq hK
    have HM':=qq hM
    clear hK hM
    simp only[encP,List.zip_toArray,List.zip_cons_cons,List.zip_nil_right,List.zip_nil_left,List.foldl_toArray',List.foldl_toArray,List.foldl_cons,List.foldl_nil,qj,qz,qv]
    gi_wp2_with (refine wpListIn_store_arr rfl 99 _ _ rfl W.heap.size rfl x.1.2 rfl _ _ HZ.out (by rw[HX.out];rfl) (info64'' HX.out) b8_one' ?_;intro w2 hp2 hg2;have HP2:=qq hp2;have HG2:=qq hg2;clear hp2 hg2)
    have hg:W.grownBy w2 none:=grownBy_trans (World.grownBy_alloc W _ none) HG2.out (fun g e=>by cases e;exact .inr (Nat.le_refl _))
    have hbw:Below w.heap.size W w2:=(Below.refl _ W).grown hg hB'.size (fun k e=>by cases e)
    have hM2:=HM'.out.far hg (fun r e=>by cases e)
    exact HKK.out _ w2 ((KeepsOthers.of_grownBy hg (fun j o e=>by cases e)).from _) (HM'.out.kp hM2 hbw) ⟨⟨hM2,hlen⟩,hB'.trans hbw⟩ ⟨W.heap.size,rfl,HP2.out⟩
   case body=>
    rintro l pre x a' W hl hrec ⟨⟨hM,hlen⟩,hB'⟩ ⟨g,rfl,hA⟩ hN
    have HA:=qq hA
    have HX:=qq x.2.2.2
    have HM':=qq hM
    have HB':=qq hB'
    clear hA hM hB' hrec
    gi_wp2_with (refine wpListIn_load_arr rfl 99 _ rfl g rfl _ x.1.2 HA.out _ Tryd.underlying99 rfl (info64'' HX.out) ?_)
    gi_loopw [42] (fun iv wr=>∃i:Nat,iv= .int .i64 i∧i≤64∧MxI w.heap.size w3.heap.size (w.heap.size+1) (w3.heap.size+1) (w3.heap.size+1+1) T m d key (.slice A 12 c) (mixP ((pre++ [x]).map (·.1.2)) text (64*pre.length+i)) wr∧64*pre.length+i≤m∧Below w.heap.size W wr∧KeepsOthers W wr) (fun iv _=>64-(intOf iv).toNat)
    case atStart=>
     refine⟨0,rfl,by omega,HM'.out.cast ?_,by omega,Below.refl _ _,KeepsOthers.refl _⟩
     rw[List.map_append,List.map_cons,List.map_nil,Nat.add_zero,mixP_snoc _ _ _ _ (by simp)]
    case round=>
     obtain⟨i,rfl,hi,hM,him,hb,hko⟩:=hrel
     obtain⟨J,hJ⟩:∃J,J=64*pre.length+i:=⟨_,rfl⟩
     rw[←hJ]at hM him
     have HJ:=qq hJ
     have hJb:J≤1100000:=by omega
     clear hJ
     by_cases hlt:i<64
     ·obtain⟨v,h1,h2,h3,h4,h5⟩:=hM
      obtain⟨Av,cv,rfl,-,-,-,-⟩:=h2.shape' (mixP_len _ _ _)
      have c1:=h1.cell
      have f1:=h1.frozen
      have c3:=h3.cell
      have H1:=qq h1
      have H2:=qq h2
      have H3:=qq h3
      have H4:=qq h4
      have H5:=qq h5
      clear h1 h2 h3 h4 h5
      have hlt':(i:Int)<64:=by omega
      have hix:=run_idx HX.out hlt wr
      by_cases hem:J=m
      ·have hem':((J:Int)==(m:Int))=true:=by rw[beq_iff_eq];omega
       gi_wp2_with fail
       refine⟨hko.from _,⟨⟨_,H1.out,H2.out.cast (by rw[hem]),H3.out,H4.out,H5.out⟩,rfl,?_⟩,HB'.out.trans hb⟩
       have:=HJ.out;rw[List.length_append];simp;omega
      ·have hem':((J:Int)==(m:Int))=false:=by rw[beq_eq_false_iff_ne];omega
       have hbw:=HB'.out.trans hb
       obtain⟨tb,toff,hT,htb,ct⟩:=(HT.out.below (hbw.mono hB')).at_ (k:=J) (by rw[HM.out];omega)
       have HTx:=qq (show text[J]'(by rw[HM.out];omega)=text.getD J 0#8 by rw[List.getD,List.getElem?_eq_getElem (by rw[HM.out];omega)];rfl)
       rw[HTx.out]at ct
       obtain⟨tj,htj⟩:∃t,t=text.getD J 0#8:=⟨_,rfl⟩
       obtain⟨xi,hxi⟩:∃t,t=x.1.2.getD i 0#8:=⟨_,rfl⟩
       rw[←htj]at ct
       rw[←hxi]at hix
       have Htj:=qq htj
       have Hxi:=qq hxi
       subst hT
       clear htj hxi HTx
       have hix':(Instr.index 99 (.agg (x.1.2.map b8).toArray) (.int .i64 i)).run Tryd.prog wr= .ok (.int .u8 (bv xi)) wr:=hix
       clear hix
       gi_wp2_with fail
       have hS:(fun w':World=>w'.cell? ⟨w3.heap.size,0,none⟩=some (.slice Av J cv)∧w'.cell? ⟨w.heap.size+1,0,none⟩=some (.slice (some ⟨tb,toff,none⟩) m d)∧w'.cell? ⟨tb,toff+J,none⟩=some (.int .u8 (bv tj))) wr.drew:=⟨c1,c3,ct⟩
       refine wpIn_region_round (by kernel_rfl) (by kernel_rfl) (fun w':World=>w'.cell? ⟨w3.heap.size,0,none⟩=some (.slice Av J cv)∧w'.cell? ⟨w.heap.size+1,0,none⟩=some (.slice (some ⟨tb,toff,none⟩) m d)∧w'.cell? ⟨tb,toff+J,none⟩=some (.int .u8 (bv tj))) 10 ?_
       have hlt2:(J:Int)<(m:Int):=by omega
       refine wpAnyZ_take (i:=6) (v:= .int .u8 (bv xi)) rfl (by kernel_rfl) (by kernel_rfl) (by kernel_rfl) (by kernel_rfl) (fun _ _ _ h=>nomatch h.1) (Or.inl ⟨by rfl,?_⟩) hS ?_
       ·intro w' hw'
        obtain⟨s0,s1,s2⟩:=hw'
        go_simp
       try simp only[Act.put,qj,qz,qv]
       refine wpAnyZ_take (i:=0) (v:= .slice Av J cv) rfl (by kernel_rfl) (by kernel_rfl) (by kernel_rfl) (by kernel_rfl) (fun _ _ _ h=>nomatch h.1) (Or.inl ⟨by rfl,?_⟩) hS ?_
       ·intro w' hw'
        obtain⟨s0,s1,s2⟩:=hw'
        go_simp
       try simp only[Act.put,qj,qz,qv]
       refine wpAnyZ_take (i:=1) (v:= .slice (some ⟨tb,toff,none⟩) m d) rfl (by kernel_rfl) (by kernel_rfl) (by kernel_rfl) (by kernel_rfl) (fun _ _ _ h=>nomatch h.1) (Or.inl ⟨by rfl,?_⟩) hS ?_
       ·intro w' hw'
        obtain⟨s0,s1,s2⟩:=hw'
        go_simp
       try simp only[Act.put,qj,qz,qv]
       refine wpAnyZ_take (i:=2) (v:= .slice Av J cv) rfl (by kernel_rfl) (by kernel_rfl) (by kernel_rfl) (by kernel_rfl) (fun _ _ _ h=>nomatch h.1) (Or.inl ⟨by rfl,?_⟩) hS ?_
       ·intro w' hw'
        obtain⟨s0,s1,s2⟩:=hw'
        go_simp
       try simp only[Act.put,qj,qz,qv]
       refine wpAnyZ_take (i:=3) (v:= .int .i64 J) rfl (by kernel_rfl) (by kernel_rfl) (by kernel_rfl) (by kernel_rfl) (fun _ _ _ h=>nomatch h.1) (Or.inl ⟨by rfl,?_⟩) hS ?_
       ·intro w' hw'
        obtain⟨s0,s1,s2⟩:=hw'
        go_simp
       try simp only[Act.put,qj,qz,qv]
       refine wpAnyZ_take (i:=4) (v:= .pointer (some ⟨tb,toff+J,none⟩)) rfl (by kernel_rfl) (by kernel_rfl) (by kernel_rfl) (by kernel_rfl) (fun _ _ _ h=>nomatch h.1) (Or.inl ⟨by rfl,?_⟩) hS ?_
       ·intro w' hw'
        obtain⟨s0,s1,s2⟩:=hw'
        go_simp
       try simp only[Act.put,qj,qz,qv]
       refine wpAnyZ_take (i:=5) (v:= .int .u8 (bv tj)) rfl (by kernel_rfl) (by kernel_rfl) (by kernel_rfl) (by kernel_rfl) (fun _ _ _ h=>nomatch h.1) (Or.inl ⟨by rfl,?_⟩) hS ?_
       ·intro w' hw'
        obtain⟨s0,s1,s2⟩:=hw'
        go_simp
       try simp only[Act.put,qj,qz,qv]
       refine wpAnyZ_take (i:=7) (v:= .int .u8 (bv (tj^^^xi))) rfl (by kernel_rfl) (by kernel_rfl) (by kernel_rfl) (by kernel_rfl) (fun _ _ _ h=>nomatch h.1) (Or.inl ⟨by rfl,?_⟩) hS ?_
       ·intro w' hw'
        obtain⟨s0,s1,s2⟩:=hw'
        go_simp
       try simp only[Act.put,qj,qz,qv]
       refine wpAnyZ_one (i:=8) (by kernel_rfl) rfl (fun K' hK=>?_)
       go_simp
       refine hK _ _ (fun _=>?_) ?_
       ·exact⟨(H1.out.alloc _).cell,(H3.out.alloc _).cell,cell_alloc_of ct _⟩
       clear hK K'
       try simp only[Act.put,qj,qz,qv]
       refine wpAnyZ_one (i:=9) (by kernel_rfl) rfl (fun K' hK=>?_)
       refine step_append_rd rfl (.tmp 50) (.tmp 58) 33 rfl b8_one w.heap.size 5 i0 _ 1 Tryd.underlying33 hi0 hz0 hz1 hz2 rfl _ _ rfl (H2.out.drew.alloc _) (wr.heap.size+1) _ 1 1 [tj^^^xi] rfl rfl (Rd.new b8 wr.drew 5 [tj^^^xi]) (by simp[maxLen,mixP_len];omega) (by simp[mixP_len];omega) (by have:=hbw.size;simp;omega) ?_
       intro v7 w7 hown7 hg7 hbb7
       obtain⟨Av7,cv7,rfl,-,-,-,-⟩:=hown7.shape' (n:=J+1) (by rw[List.length_append,mixP_len];rfl)
       obtain⟨k1,k2,k3,k4,k5⟩:=mx_append (ob:=w3.heap.size) H1.out H2.out (by have:=hbw.size;omega) hown7 (W:=wr) (tmp:= .cells #[.int .u8 (bv (tj^^^xi))] 5) hg7.by_ (by have:=hz3;omega)
       have m3:=mx_box2 H3.out H2.out hg7.by_
       have m5:=mx_box2 H5.out H2.out hg7.by_
       have m4:=mx_arr2 H4.out H2.out hg7.by_
       have hb7:Below w.heap.size wr w7:=hbb7 _ _ (Nat.le_refl _) ((Below.refl _ wr).alloc (by have:=hbw.size;omega) _).drew
       have c7:=k1.cell
       have f7:=k1.frozen
       have c73:=m3.cell
       have ct7:w7.cell? ⟨tb,toff+J,none⟩=some (.int .u8 (bv tj)):=(hb7.cell (show tb<w.heap.size by omega)).trans ct
       refine hK _ _ (fun _=>⟨c7,c73,ct7⟩) ?_
       clear hK K'
       try simp only[Act.put,qj,qz,qv]
       refine wpAnyZ_one (i:=10) (by kernel_rfl) rfl (fun K' hK=>?_)
       go_simp
       refine hK _ _ (fun h=>absurd rfl h) (wpAnyZ_done (by kernel_rfl) ⟨rfl,?_⟩ _)
       clear hK K'
       gi_wp2_with fail
       refine⟨⟨i+1,rfl,by omega,⟨_,k2,k3.cast ?_,m3.kept (grownBy_setCell' _ _ _) (by intro e;have:=Option.some.inj e;omega),m4.grown (grownBy_setCell' _ _ _) (by intro e;have:=Option.some.inj e;omega),m5.kept (grownBy_setCell' _ _ _) (by intro e;have:=Option.some.inj e;omega)⟩,by have:=HJ.out;omega,hb.trans k5,hko.trans k4⟩,by simp[intOf];omega⟩
       have hj:64*pre.length+(i+1)=J+1:=by have:=HJ.out;omega
       have hpl:(List.map (fun x:Pc=>x.val.snd) pre).length=pre.length:=List.length_map _
       have hq:=mixQ_last (List.map (fun x:Pc=>x.val.snd) pre) x.1.2 text i hlt
       rw[hpl,←HJ.out,←Htj.out,←Hxi.out]at hq
       rw[hj,mixP_succ,List.map_append,List.map_cons,List.map_nil,hq]
     ·have hJ:=HJ.out
      clear hJ
      obtain rfl:i=64:=by omega
      have HMh:=qq hM
      clear hM
      gi_wp2_with fail
      refine⟨hko.from _,HM'.out.kp HMh.out hb,⟨HMh.out.cast ?_,?_⟩,HB'.out.trans hb⟩
      ·rw[HJ.out,List.length_append];rfl
      ·have:=HJ.out;rw[List.length_append];simp;omega
   case done=>
    rintro D ys W hD hys ⟨⟨hM,hlen⟩,hB'⟩ hK
    obtain⟨v,h1,h2,h3⟩:=hM
    have c1:=h1.cell
    have H2:=qq h2
    clear h1 h2 h3
    gi_wp2_with fail
    have hK':=hK
    have E0:mixBad 12 m number=0:=by rw[Hmb.out,←Hq.out,if_neg (by omega)]
    have hcn:countP 12 number=(4294967296-number).toNat:=if_pos Hb.out
    have hyl:ys.length=countP 12 number:=by have:=congrArg List.length hys;rw[List.length_map,itemsTo_len]at this;exact this
    have hml:64*ys.length=m:=by have:=Hq.out;omega
    refine⟨by simp,.inl ⟨_,_,rfl,run_takeDeferred hK',?_⟩⟩
    refine⟨.tuple #[v,.nilIface],by simp[results,Tryd.f27,go_sem],v,by rw[E0];rfl,?_,?_⟩
    ·refine Own.cast (own_own' H2.out (grownBy_putObj' _ D (.deferred none)) (fun r e=>by cases e;exact⟨_,hK',rfl⟩)) ?_
     unfold mixV
     rw[HN.out,HM.out,E0,if_pos rfl,hml]
     exact mixP_items key nonce number text ys (countP 12 number) m hys (by rw[←hyl];omega)
    ·exact hB'.trans (belowK_b (w:=w) (Nat.le_refl _) _ D _ _ (by omega) hK' rfl rfl)
   case stop=>
    rintro D c' pre W hD hpre ⟨⟨hM,rfl,hlen⟩,hB'⟩ hK
    obtain⟨v,h1,h2,h3⟩:=hM
    have c1:=h1.cell
    have H2:=qq h2
    clear h1 h2 h3
    gi_wp2_with fail
    have hK':=hK
    obtain⟨k,hkc,hpm⟩:=hpre
    have E0:mixBad 12 m number=0:=by rw[Hmb.out,←Hq.out,if_neg (by omega)]
    have hyl:pre.length=k:=by have:=congrArg List.length hpm;rw[List.length_map,itemsTo_len]at this;exact this
    refine⟨by simp,.inl ⟨_,_,rfl,run_takeDeferred hK',?_⟩⟩
    refine⟨.tuple #[v,.nilIface],by simp[results,Tryd.f27,go_sem],v,by rw[E0];rfl,?_,?_⟩
    ·refine Own.cast (own_own' H2.out (grownBy_putObj' _ D (.deferred none)) (fun r e=>by cases e;exact⟨_,hK',rfl⟩)) ?_
     unfold mixV
     rw[HN.out,HM.out,E0,if_pos rfl]
     exact mixP_items key nonce number text pre k m hpm (by rw[←hyl];omega)
    ·exact hB'.trans (belowK_b (w:=w) (Nat.le_refl _) _ D _ _ (by omega) hK' rfl rfl)
 ·have hb2:mixBad n m number=badP n number:=mixBad_first hb
  obtain⟨bad,hbad⟩:∃bad,bad=badP n number:=⟨_,rfl⟩
  simp only[←hbad]at hck hb hb2
  rw[errV_pos hb]at hck
  have Hck:=qq hck
  have Hmv:=qq (show mixV key nonce number text=[] by unfold mixV;rw[hn,hm,hb2,if_neg hb])
  rw[hb2,errV_pos hb]
  clear hk hn hmn hm hr ht hck hbad hb2
  refine(callsIn_wide (n:=9)).1 ?_
  refine callsIn_of_wp_marks Tryd.func27 rfl trivial ?_ rfl
  simp only[Tryd.ntmps27,List.size_toArray,List.length_cons,List.length_nil,Nat.reduceAdd,Nat.reduceSub,Array.replicate_succ,Array.replicate_zero,List.push_toArray,List.append_toArray,List.nil_append,List.cons_append]
  gi_wp2_with fail
  refine wpIn_scope_w ?_
  gi_wp2_with fail
  refine⟨trivial,?_⟩
  refine(callsIn_wide.2 (Hck.out _)).mono ?_
  rintro e w' ⟨rfl,rfl⟩
  gi_wp2_with fail
  exact⟨.tuple #[.slice none 0 0,.iface 41 (.int .i64 bad)],by simp[results,Tryd.f27,go_sem],.slice none 0 0,rfl,(Own.nil_ b8 _ _ _).cast Hmv.out.symm,by(repeat' (first|assumption|exact Below.refl _ _|refine Below.drew ?_|refine Below.alloc ?_ ?_ _|omega|(simp;done)|(simp;omega)))⟩
end Go.Proofs.YtelgjaiknaalkaaDoor
