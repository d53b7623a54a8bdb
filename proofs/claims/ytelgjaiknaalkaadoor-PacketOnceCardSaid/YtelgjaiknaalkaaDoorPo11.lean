/- Lemmas, joined and made smaller by a program. -/
import Derived.Test.YtelgjaiknaalkaaDoorPo10
import Derived.OrdersHeld
import Derived.Deep.RegionHeld3
import Derived.Test.YtelgjaiknaalkaaDoorPo09
import Derived.Test.YtelgjaiknaalkaaDoorPo02
import Derived.Test.YtelgjaiknaalkaaDoorPo06
import Derived.Maps.OwnSet
import Derived.Maps.RangeWalk
import Derived.Maps.Ext
import Derived.Lib.SlMapFilter
open Go.Lib renaming hid → qq
open List renaming setIfInBounds_toArray → qj
open List renaming set_cons_zero → qz
open List renaming set_cons_succ → qv
set_option linter.unusedVariables false
set_option linter.unusedSimpArgs false
namespace Go.Proofs.YtelgjaiknaalkaaDoor
open Go.RowKit
def onceC(no:Int)(key:List (BitVec 8))(v:Value):List Value:= .int .i64 no::(key.map b8++ [v])
theorem onceC_len(no:Int)(key:List (BitVec 8))(v:Value)(h:key.length=32):(onceC no key v).length=34:=by simp[onceC,h]
def nonceS(g:Nat):Value:= .slice (some ⟨g,32,none⟩) 12 12
set_option maxRecDepth 100000 in
theorem built_once(no:Int)(key:List (BitVec 8))(h:key.length=32)(A:Option Addr)(n c:Nat):
 Tryd.prog.built 56 [(0,.int .i64 no),(1,.agg (key.map b8).toArray),(2,.slice A n c)]=some (onceC no key (.slice A n c)).toArray:=by
 obtain⟨x0,x1,x2,x3,x4,x5,x6,x7,x8,x9,x10,x11,x12,x13,x14,x15,x16,x17,x18,x19,x20,x21,x22,x23,x24,x25,x26,x27,x28,x29,x30,x31,rfl⟩:=list_of32 h
 kernel_rfl
def zeroOnce:List Value:=onceC 0 (List.replicate 32 0#8) (.slice none 0 0)
theorem built_zeroOnce:Tryd.prog.built 56 []=some zeroOnce.toArray:=by kernel_rfl
theorem sizeOnce:(Tryd.prog.info? 56).map (·.size)=some 34:=by kernel_rfl
theorem sizeKey:(Tryd.prog.info? 54).map (·.size)=some 32:=by kernel_rfl
theorem onceC_one(no:Int)(key:List (BitVec 8))(A:Option Addr)(n c:Nat):∀u∈onceC no key (.slice A n c),u.oneCell'=true:=by
 intro u hu
 unfold onceC at hu
 rcases List.mem_cons.1 hu with rfl|hu
 ·rfl
 rcases List.mem_append.1 hu with hu|hu
 ·obtain⟨x,-,rfl⟩:=List.mem_map.1 hu;exact b8_one x
 ·rw[List.mem_singleton]at hu;subst hu;rfl
theorem strKey:StrOf ⟨#[107,101,121]⟩ lKey:=by unfold StrOf lKey;decide
theorem strNext:StrOf ⟨#[110,101,120,116]⟩ lNext:=by unfold StrOf lNext;decide
theorem strLeft:StrOf ⟨#[108,101,102,116]⟩ lLeft:=by unfold StrOf lLeft;decide
theorem strRight:StrOf ⟨#[114,105,103,104,116]⟩ lRight:=by unfold StrOf lRight;decide
theorem run_buildE{P:Program}{t:TypeId}{parts:Array (Nat×Operand)}{vals:List (Nat×Value)}{cells:Array Value}{op:Oper}(ho:op.op= .build t parts)(ρ:Operand→Value)(hv:parts.toList.map (fun x=>(x.1,ρ x.2))=vals)(hb:P.built t vals=some cells)(w:World):
 (execOp ρ op).run P w= .ok (.value (.agg cells)) w:=by
 have hr:=run_build (P:=P) w t vals.toArray cells hb
 rw[←hv,←List.map_toArray]at hr
 unfold execOp
 simp only[ho]
 simp only[Array.toArray_toList]at hr
 simp only[Sem.run_bind,hr,Result.andThen_ok,Sem.run_pure]
set_option maxRecDepth 100000 in
set_option maxHeartbeats 4000000 in
theorem once_any(w:World)(link:List (BitVec 8))(hl:link.length=32)(n:Int):
 Calls Tryd.prog 68 #[arrV b8 link,.int .i64 n] w fun e w'=>∃g,e= .returned (.tuple #[.agg (onceC n ((labV link lKey 44).take 32) (nonceS g)).toArray,.nilIface])∧
  w.heap.size≤g∧Arr b8 w' g 5 (labV link lKey 44)∧Below w.heap.size w w':=by
 have HS:=qq hl
 obtain⟨V,hV⟩:∃V,V=labV link lKey 44:=⟨_,rfl⟩
 have HVl:=qq (show V.length=44 by rw[hV];exact labV_len _ _ _ (by omega))
 have HV:=qq hV
 obtain⟨Kk,hKk⟩:∃Kk,Kk=V.take 32:=⟨_,rfl⟩
 have HKl:=qq (show Kk.length=32 by rw[hKk,List.length_take,HVl.out];rfl)
 have HKe:=qq hKk
 obtain⟨w2,hw2⟩:∃w2,w2=(w.alloc (.cells (link.map b8).toArray 29)).alloc (.cells zeroOnce.toArray 56):=⟨_,rfl⟩
 have HA2:=qq (show Arr b8 w2 w.heap.size 29 link by rw[hw2];exact(Arr.new b8 w 29 link).alloc _)
 have HZ2:=qq (show Blk w2 (w.heap.size+1) 56 zeroOnce by rw[hw2];exact Blk.at_size _ _ (by simp))
 have HB2:=qq (show Below w.heap.size w w2 by rw[hw2];exact((Below.refl _ w).alloc (Nat.le_refl _) _).alloc (by simp) _)
 have hz2:w2.heap.size=w.heap.size+2:=by rw[hw2];simp
 have HW2:=qq hw2
 rw[←hV,←hKk,arrV_mk]
 clear hl hV hw2 hKk
 go_enter Tryd.func68,Tryd.ntmps68
 go_upto_region 1 with fail
 have hw2:=HW2.out
 simp only[show zeroOnce.toArray= #[Value.int .i64 0,Value.int .u8 0,Value.int .u8 0,Value.int .u8 0,Value.int .u8 0,Value.int .u8 0,Value.int .u8 0,Value.int .u8 0,Value.int .u8 0,Value.int .u8 0,Value.int .u8 0,Value.int .u8 0,Value.int .u8 0,Value.int .u8 0,Value.int .u8 0,Value.int .u8 0,Value.int .u8 0,Value.int .u8 0,Value.int .u8 0,Value.int .u8 0,Value.int .u8 0,Value.int .u8 0,Value.int .u8 0,Value.int .u8 0,Value.int .u8 0,Value.int .u8 0,Value.int .u8 0,Value.int .u8 0,Value.int .u8 0,Value.int .u8 0,Value.int .u8 0,Value.int .u8 0,Value.int .u8 0,Value.slice none 0 0]from rfl]at hw2
 rw[←hw2]
 clear hw2
 have hlb:=label_any w2 link HS.out ⟨#[107,101,121]⟩ lKey strKey (by decide) 44 (by omega)
 rw[arrV_mk,←HV.out,show(((44:Nat):Nat):Int)=44 from rfl]at hlb
 have HL:=qq hlb
 clear hlb
 go_wp2_with (first|(refine wpList_load_arr rfl 29 (.tmp 2) rfl w.heap.size rfl _ link HA2.out _ Tryd.underlying29 rfl (by rw[size32,HS.out]) ?_))
 refine HL.out.mono ?_
 rintro e w3 ⟨g,rfl,ho,hb⟩
 have HO3:=qq (own_arr ho)
 have hgl:=(ho.lt g rfl).1
 have HZ3:=qq (HZ2.out.below hb (by omega))
 have hz3:=hb.size
 have HB3:=qq (HB2.out.trans (hb.mono (by omega)))
 clear ho hb HZ2 HB2
 have HKeep:=qq (show∀W':World,Arr b8 W' g 5 V→W'.rangeAt g 0 (Kk.map b8)from fun W' ha=>by
  have h:=ha.range 0 32
  rw[HKe.out,List.map_take]
  simpa using h)
 have hk3:=HKeep.out _ HO3.out.drew
 have hu:=Tryd.underlying54
 have hi32:(Tryd.prog.info? 54).map (·.size)=some (Kk.map b8).length:=by rw[List.length_map,HKl.out];exact sizeKey
 have hsa:∀W:World,(Instr.arrayAt 54 (.slice (some ⟨g,0,none⟩) 32 44)).run Tryd.prog W= .ok (.pointer (some ⟨g,0,none⟩)) W:=fun W=>by kernel_rfl
 go_upto_region 4 with fail
 refine wp_region_noPanic ?_
 refine wp_region_held_drew (S:=fun w'=>w'.rangeAt g 0 (Kk.map b8)) (by kernel_rfl) hk3 (fun hS=>?_)
 refine wpAnyH_take (i:=0) (oi:={dst:=some 17,op:=_,type:=_,pos:=_,after:=_,guard:=_}) (v:= .int .i64 n) rfl (by kernel_rfl) (by kernel_rfl) (by kernel_rfl) (fun _ _ _ h=>h) (Or.inl ⟨by rfl,?_⟩) hS ?_
 ·intro w' hw'
  go_simp
 try simp only[Act.put,qj,qz,qv]
 refine wpAnyH_take (i:=1) (oi:={dst:=some 18,op:=_,type:=_,pos:=_,after:=_,guard:=_}) (v:= .slice (some ⟨g,0,none⟩) 44 44) rfl (by kernel_rfl) (by kernel_rfl) (by kernel_rfl) (fun _ _ _ h=>h) (Or.inl ⟨by rfl,?_⟩) hS ?_
 ·intro w' hw'
  go_simp
 try simp only[Act.put,qj,qz,qv]
 refine wpAnyH_take (i:=2) (oi:={dst:=some 19,op:=_,type:=_,pos:=_,after:=_,guard:=_}) (v:= .slice (some ⟨g,0,none⟩) 32 44) rfl (by kernel_rfl) (by kernel_rfl) (by kernel_rfl) (fun _ _ _ h=>h) (Or.inl ⟨by rfl,?_⟩) hS ?_
 ·intro w' hw'
  go_simp
 try simp only[Act.put,qj,qz,qv]
 refine wpAnyH_take (i:=3) (oi:={dst:=some 20,op:=_,type:=_,pos:=_,after:=_,guard:=_}) (v:= .pointer (some ⟨g,0,none⟩)) rfl (by kernel_rfl) (by kernel_rfl) (by kernel_rfl) (fun _ _ _ h=>h) (Or.inl ⟨by rfl,?_⟩) hS ?_
 ·intro w' hw'
  go_simp
 try simp only[Act.put,qj,qz,qv]
 refine wpAnyH_take (i:=4) (oi:={dst:=some 21,op:=_,type:=_,pos:=_,after:=_,guard:=_}) (v:= .agg (Kk.map b8).toArray) rfl (by kernel_rfl) (by kernel_rfl) (by kernel_rfl) (fun _ _ _ h=>h) (yieldsIf_load_mid (by rfl) 54 (.tmp 20) rfl g 0 rfl (Kk.map b8) _ (fun _ h=>h) hu rfl hi32) hS ?_
 try simp only[Act.put,qj,qz,qv]
 refine wpAnyH_take (i:=5) (oi:={dst:=some 22,op:=_,type:=_,pos:=_,after:=_,guard:=_}) (v:= .slice (some ⟨g,0,none⟩) 44 44) rfl (by kernel_rfl) (by kernel_rfl) (by kernel_rfl) (fun _ _ _ h=>h) (Or.inl ⟨by rfl,?_⟩) hS ?_
 ·intro w' hw'
  go_simp
 try simp only[Act.put,qj,qz,qv]
 refine wpAnyH_take (i:=6) (oi:={dst:=some 23,op:=_,type:=_,pos:=_,after:=_,guard:=_}) (v:= .slice (some ⟨g,32,none⟩) 12 12) rfl (by kernel_rfl) (by kernel_rfl) (by kernel_rfl) (fun _ _ _ h=>h) (Or.inl ⟨by rfl,?_⟩) hS ?_
 ·intro w' hw'
  go_simp
 try simp only[Act.put,qj,qz,qv]
 refine wpAnyH_take (i:=7) (oi:={dst:=some 24,op:=_,type:=_,pos:=_,after:=_,guard:=_}) (v:= .agg (onceC n Kk (nonceS g)).toArray) rfl (by kernel_rfl) (by kernel_rfl) (by kernel_rfl) (fun _ _ _ h=>h) (Or.inl ⟨by rfl,fun w' _=>run_buildE rfl _ rfl (built_once n Kk HKl.out _ _ _) w'⟩) hS ?_
 try simp only[Act.put,qj,qz,qv]
 refine wpAnyH_ready (rs:=[8]) (by kernel_rfl) (by simp) (AllReadyH.cons (o:={dst:=none,op:=_,type:=_,pos:=_,after:=_,guard:=_}) rfl (fun K' hK=>?_) AllReadyH.nil)
 rw[if_pos (by rfl)]
 refine wp_store_piece 56 (.tmp 4) (.tmp 24) rfl (w.heap.size+1) 0 rfl (onceC n Kk (nonceS g)) rfl _ _ [] zeroOnce [] HZ3.out.drew (by simp) rfl (by rw[onceC_len _ _ _ HKl.out];rfl) (by rw[sizeOnce,onceC_len _ _ _ HKl.out]) (onceC_one _ _ _ _ _) ?_
 intro w4 hx4 hg4
 have HX4:=qq (show Blk w4 (w.heap.size+1) 56 (onceC n Kk (nonceS g))from hx4.cast (by simp))
 have HG4:=qq hg4
 have HO4:=qq (HO3.out.drew.grown hg4 (fun e=>by injection e with e;omega))
 clear hx4 hg4
 refine hK.out _ _ (HKeep.out _ HO4.out) (fun hS=>?_)
 clear hK K'
 try simp only[Act.put,qj,qz,qv]
 refine wpAnyH_ready (rs:=[9]) (by kernel_rfl) (by simp) (AllReadyH.cons (o:={dst:=some 5,op:=_,type:=_,pos:=_,after:=_,guard:=_}) rfl (fun K' hK=>?_) AllReadyH.nil)
 go_simp
 refine hK.out _ _ (HKeep.out _ HO4.out) (fun hS=>?_)
 clear hK K'
 try simp only[Act.put,qj,qz,qv]
 refine wpAnyH_done (by kernel_rfl) ?_ _
 refine NoPanic.normal ?_
 go_wp2_with fail
 refine bodyPost_ret (v:= .tuple #[.agg (onceC n Kk (nonceS g)).toArray,.nilIface]) (results_blk_tmp (g:=w.heap.size+1) rfl _ _ _ _ _ _ rfl rfl HX4.out Tryd.underlying56 rfl (by rw[sizeOnce,onceC_len _ _ _ HKl.out])) rfl ?_
 exact⟨g,rfl,by omega,HO4.out,HB3.out.drew.grown HG4.out (by have:=HB3.out.size;exact this) (fun k e=>by cases e;omega)⟩
structure WinO(w:World)(g o:Nat)(T:TypeId)(cs:List Value)(t:Bool)(h:Int)(s:BitVec 64):Prop where
 blk:Blk w g T cs
 e0:cs[o]?=some (.bool t)
 e1:cs[o+1]?=some (.int .i64 h)
 e2:cs[o+2]?=some (.int .u64 (bv s))
def setW(cs:List Value)(o:Nat)(t:Bool)(h:Int)(s:BitVec 64):List Value:=((cs.set o (.bool t)).set (o+1) (.int .i64 h)).set (o+2) (.int .u64 (bv s))
theorem set_same{α:Type}(l:List α)(i:Nat)(v:α)(h:l[i]?=some v):l.set i v=l:=by
 obtain⟨hi,rfl⟩:=List.getElem?_eq_some_iff.1 h
 exact List.set_getElem_self hi
theorem grown_drew{w w':World}{r:Option Nat}(h:w.grownBy w' r):w.grownBy w'.drew r:=⟨h.os,h.tape,h.output,h.size,h.block⟩
section
variable{w:World}{g o:Nat}{T:TypeId}{cs:List Value}{t:Bool}{h:Int}{s:BitVec 64}
theorem WinO.cells(x:WinO w g o T cs t h s):w.cell? ⟨g,o,none⟩=some (.bool t)∧w.cell? ⟨g,o+1,none⟩=some (.int .i64 h)∧w.cell? ⟨g,o+2,none⟩=some (.int .u64 (bv s))∧
 w.frozen? ⟨g,o,none⟩=false∧w.frozen? ⟨g,o+1,none⟩=false∧w.frozen? ⟨g,o+2,none⟩=false:=
 ⟨x.blk.cell _ x.e0,x.blk.cell _ x.e1,x.blk.cell _ x.e2,x.blk.frozen _,x.blk.frozen _,x.blk.frozen _⟩
theorem WinO.same2(x:WinO w g o T cs t h s)(t':Bool)(h':Int):setW cs o t' h' s=(cs.set o (.bool t')).set (o+1) (.int .i64 h'):=
 set_same _ _ _ (by rw[List.getElem?_set_ne (by omega),List.getElem?_set_ne (by omega)];exact x.e2)
theorem WinO.same0(x:WinO w g o T cs t h s)(h':Int)(s':BitVec 64):setW cs o t h' s'=(cs.set (o+2) (.int .u64 (bv s'))).set (o+1) (.int .i64 h'):=by
 unfold setW
 rw[set_same _ _ _ x.e0,List.set_comm _ _ (by omega)]
theorem WinO.same01(x:WinO w g o T cs t h s)(s':BitVec 64):setW cs o t h s'=cs.set (o+2) (.int .u64 (bv s')):=by
 unfold setW
 rw[set_same _ _ _ x.e0,set_same _ _ _ x.e1]
end
set_option maxRecDepth 100000 in
set_option maxHeartbeats 2000000 in
theorem wcheckO(g o:Nat)(T:TypeId)(cs:List Value)(t:Bool)(h:Int)(s:BitVec 64)(n:Int)(w:World)(hw:WinO w g o T cs t h s)(hh:t=true→0≤h∧h<4294967295):
 Calls Tryd.prog 51 #[.pointer (some ⟨g,o,none⟩),.int .i64 n] w fun e w'=>e= .returned (errV (winCheck t h s n))∧w=w':=by
 obtain⟨c0,c1,c2,-,-,-⟩:=hw.cells
 by_cases h1:n<0
 ·have e:winCheck t h s n=8:=by unfold winCheck;rw[if_pos (.inl h1)]
  rw[e]
  clear hh
  go_enter Tryd.func51,Tryd.ntmps51
  go_wp2
  go_ret
  exact⟨rfl,rfl⟩
 by_cases h2:4294967295≤n
 ·have e:winCheck t h s n=8:=by unfold winCheck;rw[if_pos (.inr h2)]
  rw[e]
  clear hh
  have h1':decide (n<0)=false:=by simpa using h1
  go_enter Tryd.func51,Tryd.ntmps51
  go_wp2
  go_ret
  exact⟨rfl,rfl⟩
 have h1':decide (n<0)=false:=by simpa using h1
 have h2':decide (4294967295≤n)=false:=by simpa using h2
 have e0:winCheck t h s n=if t=false∨h<n then 0 else if n=h then 7 else if 64<h-n then 11 else if s.getLsbD (h-n-1).toNat then 7 else 0:=by unfold winCheck;rw[if_neg (by omega)]
 cases t with
 |false=>
  rw[e0,if_pos (.inl rfl)]
  clear e0 hh
  go_enter Tryd.func51,Tryd.ntmps51
  go_wp2
  go_ret
  exact⟨rfl,rfl⟩
 |true=>
  obtain⟨hh0,hh1⟩:=hh rfl
  by_cases h3:h<n
  ·rw[e0,if_pos (.inr h3)]
   clear e0
   go_enter Tryd.func51,Tryd.ntmps51
   go_wp2
   go_ret
   exact⟨rfl,rfl⟩
  rw[if_neg (by simp;omega)]at e0
  have h3':decide (h<n)=false:=by simpa using h3
  by_cases h4:n=h
  ·rw[e0,if_pos h4]
   clear e0
   subst h4
   go_enter Tryd.func51,Tryd.ntmps51
   go_wp2
   go_ret
   exact⟨rfl,rfl⟩
  rw[if_neg h4]at e0
  have h4':(n==h)=false:=by simpa using h4
  by_cases h5:64<h-n
  ·rw[e0,if_pos h5]
   clear e0
   go_enter Tryd.func51,Tryd.ntmps51
   go_wp2
   go_ret
   exact⟨rfl,rfl⟩
  rw[if_neg h5]at e0
  obtain⟨k,hk⟩:∃k:Nat,h-n-1=(k:Int):=⟨(h-n-1).toNat,by omega⟩
  have hk2:(h-n-1).toNat=k:=by omega
  rw[hk2]at e0
  have hb:=bit_eq s k
  have h5':decide (64<h-n)=false:=by simpa using h5
  rw[e0]
  have b1:0≤n:=by omega
  have b2:n<h:=by omega
  clear e0 hk2 h1 h2 h3 h4 h5
  cases hbit:s.getLsbD k with
  |true=>
   rw[hbit]at hb
   simp only[if_true]
   go_enter Tryd.func51,Tryd.ntmps51
   go_wp2
   go_ret
   exact⟨rfl,rfl⟩
  |false=>
   rw[hbit]at hb
   simp only[Bool.false_eq_true,if_false]
   go_enter Tryd.func51,Tryd.ntmps51
   go_wp2
   go_ret
   exact⟨rfl,rfl⟩
set_option maxRecDepth 100000 in
set_option maxHeartbeats 2000000 in
theorem wmarkO(g o:Nat)(T:TypeId)(cs:List Value)(t:Bool)(h:Int)(s:BitVec 64)(n:Int)(w:World)(hw:WinO w g o T cs t h s)(hh:t=true→0≤h∧h<4294967295):
 Calls Tryd.prog 52 #[.pointer (some ⟨g,o,none⟩),.int .i64 n] w fun e w'=>e= .returned (errV (winCheck t h s n))∧
  (winCheck t h s n≠0→w=w')∧(winCheck t h s n=0→Blk w' g T (setW cs o (winMark t h s n).1 (winMark t h s n).2.1 (winMark t h s n).2.2)∧w.grownBy w' (some g)):=by
 have Hw:=qq hw
 by_cases h0:winCheck t h s n=0
 ·have hr:(0≤n∧n<4294967295)∧(t=true→n≠h∧h-n≤64):=by
   unfold winCheck at h0
   split at h0
   ·cases h0
   ·rename_i h1
    refine⟨by omega,?_⟩
    rintro rfl
    split at h0
    ·rename_i h2
     have:h<n:=by simpa using h2
     omega
    ·split at h0
     ·cases h0
     ·split at h0
      ·cases h0
      ·omega
  obtain⟨c0,c1,c2,f0,f1,f2⟩:=hw.cells
  cases t with
  |false=>
   have H0:=qq h0
   have Hc:=qq (wcheckO g o T cs false h s n w Hw.out hh)
   clear h0 hh hr
   go_enter Tryd.func52,Tryd.ntmps52
   go_wp2_with (go_at_call 51;refine Hc.out.mono ?_;rintro e w' ⟨rfl,rfl⟩;rw[H0.out,errV_zero])
   go_ret
   refine⟨by rw[H0.out];rfl,fun hn=>absurd H0.out hn,fun _=>?_⟩
   exact⟨((Hw.out.blk.set_ o (.bool true)).set_ (o+1) (.int .i64 n)).cast (by show _=setW cs o true n s;exact(Hw.out.same2 _ _).symm),grownBy_trans (grownBy_set _ _ _ _) (grownBy_set _ _ _ _) (fun q e=> .inl e)⟩
  |true=>
   obtain⟨⟨b0,b1⟩,hr2⟩:=hr
   obtain⟨b2,b3⟩:=hr2 rfl
   obtain⟨b4,b5⟩:=hh rfl
   have H0:=qq h0
   have Hc:=qq (wcheckO g o T cs true h s n w Hw.out hh)
   clear h0 hh hr2
   by_cases hlt:n<h
   ·obtain⟨k,hk⟩:∃k:Nat,h-n-1=(k:Int):=⟨(h-n-1).toNat,by omega⟩
    have e:winMark true h s n=(true,h,s|||1#64<<<k):=by
     unfold winMark
     rw[if_neg (by simp),if_pos hlt,show(h-n-1).toNat=k from by omega]
    rw[e]
    have hw1:IntKind.i64.wrap (h-n)=h-n:=IntWalk.i64_in _ (by omega)
    have hw2:IntKind.i64.wrap (h-n-1)=(k:Int):=by rw[←hk];exact IntWalk.i64_in _ (by omega)
    clear hk
    clear e b2
    go_enter Tryd.func52,Tryd.ntmps52
    go_wp2_with (go_at_call 51;refine Hc.out.mono ?_;rintro e w' ⟨rfl,rfl⟩;rw[H0.out,errV_zero])
    go_still_tail 15,(by kernel_rfl)
    go_wp2
    go_ret
    exact⟨by rw[H0.out];rfl,fun hn=>absurd H0.out hn,fun _=>⟨((Hw.out.blk.set_ (o+2) _).cast (Hw.out.same01 _).symm).drew,grown_drew (grownBy_set _ _ _ _)⟩⟩
   ·obtain⟨k,hk⟩:∃k:Nat,n-h-1=(k:Int):=⟨(n-h-1).toNat,by omega⟩
    have hk1:n-h=((k+1:Nat):Int):=by omega
    have e:winMark true h s n=(true,n,s<<<(k+1)|||1#64<<<k):=by
     unfold winMark
     rw[if_neg (by simp),if_neg hlt,show(n-h-1).toNat=k from by omega,show(n-h).toNat=k+1 from by omega]
    rw[e]
    have hw1:IntKind.i64.wrap (n-h)=((k+1:Nat):Int):=by rw[←hk1];exact IntWalk.i64_in _ (by omega)
    have hw2:IntKind.i64.wrap (((k+1:Nat):Int)-1)=(k:Int):=by rw[IntWalk.i64_in _ (by omega)];omega
    have hlt':decide (n<h)=false:=by simpa using hlt
    generalize hK:k+1=K at hw1 hw2 hk1 ⊢
    clear e b2 hk hlt
    go_enter Tryd.func52,Tryd.ntmps52
    go_wp2_with (go_at_call 51;refine Hc.out.mono ?_;rintro e w' ⟨rfl,rfl⟩;rw[H0.out,errV_zero])
    go_still_tail 13,(by kernel_rfl)
    go_wp2
    go_ret
    exact⟨by rw[H0.out];rfl,fun hn=>absurd H0.out hn,fun _=>⟨(((Hw.out.blk.set_ (o+2) _).set_ (o+1) (.int .i64 n)).cast (Hw.out.same0 _ _).symm).drew,grown_drew (grownBy_trans (grownBy_set _ _ _ _) (grownBy_set _ _ _ _) (fun q e=> .inl e))⟩⟩
 ·have H0:=qq h0
  have hne:=errV_pos h0
  have Hne:=qq hne
  have Hc:=qq (wcheckO g o T cs t h s n w hw hh)
  clear h0 hh hw hne
  go_enter Tryd.func52,Tryd.ntmps52
  go_wp2_with (go_at_call 51;refine Hc.out.mono ?_;rintro e w' ⟨rfl,rfl⟩;rw[Hne.out])
  go_ret
  exact⟨by rw[Hne.out];rfl,fun _=>rfl,fun hn=>absurd hn H0.out⟩
set_option maxRecDepth 100000 in
theorem highestO(g o:Nat)(T:TypeId)(cs:List Value)(t:Bool)(h:Int)(s:BitVec 64)(w:World)(hw:WinO w g o T cs t h s):
 Calls Tryd.prog 56 #[.pointer (some ⟨g,o,none⟩)] w fun e w'=>e= .returned (.int .i64 (if t then h else-1))∧w=w':=by
 obtain⟨c0,c1,-,-,-,-⟩:=hw.cells
 cases t<;>
 ·go_enter Tryd.func56,Tryd.ntmps56
  go_wp2
  go_ret
  exact⟨rfl,rfl⟩
end Go.Proofs.YtelgjaiknaalkaaDoor
namespace Go.Proofs.YtelgjaiknaalkaaDoor
open Go.RowKit Go.Maps
theorem intKey:Keyed Tryd.prog 3:=int_keyed Tryd.underlying3
def onceB:Value→Bool
 | .agg cs=>cs.size==34&&cs.all (·.oneCell')
 |_=>false
def anyE(v:Value):Option (DataW Value×List MemPlace):=if onceB v then some (.held v,[])else none
theorem anyE_mk{v:Value}(h:onceB v=true):anyE v=some (.held v,[]):=if_pos h
theorem anyE_inv{v:Value}{y:DataW Value×List MemPlace}(h:anyE v=some y):onceB v=true∧y=(.held v,[]):=by
 unfold anyE at h
 split at h
 ·cases h;exact⟨by assumption,rfl⟩
 ·cases h
theorem onceB_inv{v:Value}(h:onceB v=true):∃cs:List Value,v= .agg cs.toArray∧cs.length=34∧∀u∈cs,u.oneCell'=true:=by
 unfold onceB at h
 split at h
 ·rename_i cs
  simp only[Bool.and_eq_true,beq_iff_eq]at h
  refine⟨cs.toList,by simp,by simpa using h.1,fun u hu=>?_⟩
  have:=h.2
  rw[←Array.all_toList]at this
  exact List.all_eq_true.1 this u hu
 ·cases h
theorem onceB_mk{cs:List Value}(hl:cs.length=34)(h1:∀u∈cs,u.oneCell'=true):onceB (.agg cs.toArray)=true:=by
 unfold onceB
 simp only[Bool.and_eq_true,beq_iff_eq]
 exact⟨by simpa using hl,by rw[←Array.all_toList];exact List.all_eq_true.2 h1⟩
def mapD(l:List (Int×Value)):DataW Value:= .map (l.map fun p=>(.int .i64 p.1,.held p.2))
def RiseK(l:List (Int×Value)):Prop:=l.Pairwise fun a b=>a.1<b.1
def MapO(w:World)(g:Nat)(l:List (Int×Value)):Prop:=w.ownsMap Tryd.prog 3 anyE g l.length (mapD l)
section
variable{w w':World}{g n:Nat}{l:List (Int×Value)}
theorem MapO.of(h:w.ownsMap Tryd.prog 3 anyE g n (mapD l)):MapO w g l:=by
 obtain⟨es,clock,hb,F,hs,hD⟩:=h
 refine⟨es,clock,hb,F,?_,hD⟩
 unfold mapD at hD
 injection hD with hD
 have:=congrArg List.length hD
 rw[List.length_map,length_sorted]at this
 simp at this
 omega
theorem MapO.lt(h:MapO w g l):g<w.heap.size:=World.ownsMap.lt h
theorem MapO.kept{row:Option Nat}(h:MapO w g l)(hg:w.grownBy w' row)(hne:some g≠row):MapO w' g l:=World.ownsMap.kept h hg hne
theorem MapO.alloc(h:MapO w g l)(o:Obj):MapO (w.alloc o) g l:=World.ownsMap.alloc h o
theorem MapO.drew(h:MapO w g l):MapO w.drew g l:=h
theorem MapO.at_(h:MapO w g l)(hb:w'.heap[g]?=w.heap[g]?):MapO w' g l:=by
 obtain⟨es,clock,hb0,F,hs,hD⟩:=h
 exact⟨es,clock,hb.trans hb0,F,hs,hD⟩
theorem MapO.below{B:Nat}(h:MapO w g l)(hb:Below B w w')(hg:g<B):MapO w' g l:=h.at_ (hb.block g hg)
theorem MapO.new(w:World):MapO (w.alloc (.map #[] 0)) w.heap.size []:=World.ownsMap_made w _ _ _
theorem MapO.obj(h:MapO w g l):∃es clock,w.heap[g]?=some (.map es clock):=by
 obtain⟨es,clock,hb,-⟩:=h
 exact⟨es,clock,hb⟩
theorem MapO.not_cells(h:MapO w g l){b:Nat}{cs:Array Value}{T:TypeId}{fr:Nat×Nat}(hb:w.heap[b]?=some (.cells cs T fr)):g≠b:=by
 intro e;subst e
 obtain⟨es,clock,h1⟩:=h.obj
 rw[h1]at hb;cases hb
end
theorem sameKey_int(a b:Int):(Lit.int .i64 a).sameKey (.int .i64 b)=decide (a=b):=by simp[Lit.sameKey]
theorem mapD_has(l:List (Int×Value))(k:Int):Maps.has (mapD l) (.int .i64 k)=l.any fun p=>decide (p.1=k):=by
 unfold mapD
 rw[Maps.has_eq,List.any_map]
 congr 1;funext p
 exact sameKey_int _ _
theorem mapD_filter(l:List (Int×Value))(k:Int):(l.map fun p=>((Lit.int .i64 p.1:Lit),(DataW.held p.2:DataW Value))).filter (fun p=>!p.1.sameKey (.int .i64 k))=(l.filter fun p=>!decide (p.1=k)).map fun p=>(.int .i64 p.1,.held p.2):=by
 rw[List.filter_map]
 congr 2
 funext p;show(!(Lit.int .i64 p.1).sameKey (.int .i64 k))=_;rw[sameKey_int]
theorem mapD_del(l:List (Int×Value))(k:Int):(mapD l).del (.int .i64 k)=mapD (l.filter fun p=>!decide (p.1=k)):=by
 unfold mapD DataW.del
 simp only[mapD_filter]
theorem insert_last{H:Type}(x:Lit×DataW H):∀(l:List (Lit×DataW H)),(∀y∈l,x.1.before y.1=false)→DataW.insert x l=l++ [x]
 | [],_=>rfl
 |y::r,h=>by
  unfold DataW.insert
  rw[if_neg (by rw[h y (by simp)];decide),insert_last x r (fun z hz=>h z (by simp[hz]))];rfl
theorem mapD_put(l:List (Int×Value))(k:Int)(v:Value)(h:∀p∈l,p.1<k):(mapD l).put (.int .i64 k) (.held v)=mapD (l++ [(k,v)]):=by
 unfold mapD DataW.put
 have e:l.filter (fun p=>!decide (p.1=k))=l:=List.filter_eq_self.2 (fun p hp=>by have:=h p hp;simp;omega)
 simp only[mapD_filter]
 rw[e,insert_last]
 ·simp
 ·intro y hy
  obtain⟨p,hp,rfl⟩:=List.mem_map.1 hy
  have:=h p hp
  simp[Lit.before];omega
theorem mapD_at(l:List (Int×Value))(k:Int)(v:Value)(hr:RiseK l)(h:(k,v)∈l)(zd:DataW Value):(mapD l).atKey (.int .i64 k) zd= .held v:=by
 unfold mapD DataW.atKey
 simp only[List.find?_map]
 induction l with
 |nil=>cases h
 |cons p r ih=>
  obtain⟨h1,h2⟩:=List.pairwise_cons.1 hr
  rw[List.find?_cons]
  simp only[Function.comp,sameKey_int]
  rcases List.mem_cons.1 h with e|h
  ·subst e;simp
  ·have:¬p.1=k:=by have:=h1 _ h;simp at this;omega
   simp only[this,decide_false]
   exact ih h2 h
theorem mapD_none(l:List (Int×Value))(k:Int)(h:∀p∈l,p.1≠k)(zd:DataW Value):(mapD l).atKey (.int .i64 k) zd=zd:=by
 unfold mapD DataW.atKey
 simp only[List.find?_map]
 have:l.find? ((fun p:Lit×DataW Value=>p.1.sameKey (.int .i64 k))∘fun p=>(.int .i64 p.1,.held p.2))=none:=by
  rw[List.find?_eq_none]
  intro p hp
  simp only[Function.comp,sameKey_int]
  have:=h p hp
  simp[this]
 rw[this];rfl
theorem keyI{a:Int}(h1: -9223372036854775808≤a)(h2:a<9223372036854775808):keyOf Tryd.prog 3 (.int .i64 a)=some (.int .i64 a):=keyOf_int_mk Tryd.underlying3 (WalkArith.wf_i64 (by omega))
end Go.Proofs.YtelgjaiknaalkaaDoor
namespace Go.Proofs.YtelgjaiknaalkaaDoor
open Go.RowKit
def lineC(t:Bool)(h:Int)(s:BitVec 64)(link:List (BitVec 8))(place:Int)(m:Value):List Value:= .bool t:: .int .i64 h:: .int .u64 (bv s)::(link.map b8++ [.int .i64 place,m])
theorem lineC_len(t:Bool)(h:Int)(s:BitVec 64)(link:List (BitVec 8))(place:Int)(m:Value)(hl:link.length=32):(lineC t h s link place m).length=37:=by simp[lineC,hl]
theorem sizeLine:(Tryd.prog.info? 77).map (·.size)=some 37:=by kernel_rfl
section
variable{t:Bool}{h:Int}{s:BitVec 64}{link:List (BitVec 8)}{place:Int}{m:Value}
theorem lineC_link(hl:link.length=32):((lineC t h s link place m).drop 3).take 32=link.map b8:=by
 unfold lineC
 simp[List.take_append,hl]
theorem lineC_35(hl:link.length=32):(lineC t h s link place m)[35]?=some (.int .i64 place):=by
 unfold lineC
 simp[List.getElem?_append,hl]
theorem lineC_36(hl:link.length=32):(lineC t h s link place m)[36]?=some m:=by
 unfold lineC
 simp[List.getElem?_append,hl]
theorem lineC_set35(hl:link.length=32)(p:Int):(lineC t h s link place m).set 35 (.int .i64 p)=lineC t h s link p m:=by
 unfold lineC
 simp[List.set_append,hl]
theorem lineC_set36(hl:link.length=32)(m':Value):(lineC t h s link place m).set 36 m'=lineC t h s link place m':=by
 unfold lineC
 simp[List.set_append,hl]
theorem lineC_setW(t':Bool)(h':Int)(s':BitVec 64):setW (lineC t h s link place m) 0 t' h' s'=lineC t' h' s' link place m:=by
 unfold setW lineC
 simp
theorem lineC_eq:lineC t h s link place m=[.bool t,.int .i64 h,.int .u64 (bv s)]++(link.map b8++ [.int .i64 place,m]):=rfl
theorem lineC_one(hm:m.oneCell'=true):∀u∈lineC t h s link place m,u.oneCell'=true:=by
 intro u hu
 unfold lineC at hu
 simp only[List.mem_cons,List.mem_append,List.not_mem_nil,or_false]at hu
 rcases hu with rfl|rfl|rfl|hu|rfl|rfl
 ·rfl
 ·rfl
 ·rfl
 ·obtain⟨x,-,rfl⟩:=List.mem_map.1 hu;exact b8_one x
 ·rfl
 ·exact hm
theorem WinO.of_line{w:World}{g:Nat}(hB:Blk w g 77 (lineC t h s link place m)):WinO w g 0 77 (lineC t h s link place m) t h s:=⟨hB,rfl,rfl,rfl⟩
end
end Go.Proofs.YtelgjaiknaalkaaDoor
