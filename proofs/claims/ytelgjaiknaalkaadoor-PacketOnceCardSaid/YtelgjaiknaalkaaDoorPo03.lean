/- Lemmas, joined and made smaller by a program. -/
import Derived.Test.YtelgjaiknaalkaaDoorPo02
open Go.Lib renaming hid → qq
open List renaming set_cons_zero → qz
set_option linter.unusedVariables false
set_option linter.unusedSimpArgs false
namespace Go.Proofs.YtelgjaiknaalkaaDoor
open Go.RowKit
def w32(x:BitVec 32):Value:= .int .u32 (bv x)
def w64(x:BitVec 64):Value:= .int .u64 (bv x)
theorem w32_one(x:BitVec 32):(w32 x).oneCell'=true:=rfl
theorem w64_one(x:BitVec 64):(w64 x).oneCell'=true:=rfl
theorem rot_count(k:Int):bits .and .u64 (IntKind.u64.wrap k) 31=(((k % 32).toNat:Nat):Int):=by
 rw[ofint_u64,show(31:Int)=@OfNat.ofNat Int 31 instOfNat from rfl,and_u64_lit]
 unfold bv
 rw[BitVec.toNat_and,show(BitVec.ofNat 64 31).toNat=2^5-1 from rfl,Nat.and_two_pow_sub_one_eq_mod,BitVec.toNat_ofInt]
 omega
theorem rotl32_any(x:BitVec 32)(k:Int)(w:World):
 Calls Tryd.prog 72 #[.int .u32 (bv x),.int .i64 k] w fun e w'=>e= .returned (.int .u32 (bv (rotl x (k % 32).toNat)))∧w=w':=by
 have hc:=rot_count k
 generalize hs:(k % 32).toNat=s at hc ⊢
 have h1:s≤31:=by omega
 have h2:((32:Int)-(s:Int))=((32-s:Nat):Int):=by omega
 clear hs
 go_enter Tryd.func72,Tryd.ntmps72
 go_wp2
 go_ret
 exact⟨rfl,rfl⟩
theorem turns_any(x:BitVec 32)(a b c:Int)(ha: -100≤a∧a≤100)(hb: -100≤b∧b≤100)(hc: -100≤c∧c≤100)(w:World):
 Calls Tryd.prog 93 #[.int .u32 (bv x),.int .i64 a,.int .i64 b,.int .i64 c] w fun e w'=>e= .returned (.int .u32 (bv (rotl x (-a % 32).toNat^^^rotl x (-b % 32).toNat^^^rotl x (-c % 32).toNat)))∧w=w':=by
 have ha':wrap64 (-a)= -a:=IntWalk.wrap64_in _ (by omega)
 have hb':wrap64 (-b)= -b:=IntWalk.wrap64_in _ (by omega)
 have hc':wrap64 (-c)= -c:=IntWalk.wrap64_in _ (by omega)
 clear ha hb hc
 go_enter Tryd.func93,Tryd.ntmps93
 go_wp2_with (go_at_call 72;refine(rotl32_any _ _ _).mono ?_;rintro e w' ⟨rfl,rfl⟩)
 go_ret
 exact⟨rfl,rfl⟩
theorem turnsS1(x:BitVec 32)(w:World):Calls Tryd.prog 93 #[.int .u32 (bv x),.int .i64 6,.int .i64 11,.int .i64 25] w fun e w'=>e= .returned (.int .u32 (bv (sha32.S1 x)))∧w=w':=turns_any x 6 11 25 (by decide) (by decide) (by decide) w
theorem turnsS0(x:BitVec 32)(w:World):Calls Tryd.prog 93 #[.int .u32 (bv x),.int .i64 2,.int .i64 13,.int .i64 22] w fun e w'=>e= .returned (.int .u32 (bv (sha32.S0 x)))∧w=w':=turns_any x 2 13 22 (by decide) (by decide) (by decide) w
theorem wpList_val{P:Program}{ops:Array Oper}{rest:List Oper}{op:Oper}{a:Act}{w:World}{Q:Exit→Act→World→Prop}(hgd:op.guard=none)(v:Value)(h:∀a w,(execOp (Act.eval a) op).run P w= .ok (.value v) w)
 (k:wpList P ops Q rest (a.put op.dst v) w):wpList P ops Q (op::rest) a w:=by
 refine wpList_plain hgd fun K hK=>?_
 unfold Oper.wp
 rw[h a w]
 exact hK _ _ k
def noughts80:Array Value:=((List.replicate 80 0#64).map w64).toArray
set_option maxRecDepth 100000 in
theorem longs_any(w:World):Calls Tryd.prog 92 #[] w fun e w'=>e= .returned (.agg (K64.map w64).toArray)∧Below w.heap.size w w':=by
 have hz:∀w,(zeroValue 173).run Tryd.prog w= .ok (.agg noughts80) w:=fun _=>by kernel_rfl
 have HX0:=qq (show Arr w64 (w.alloc (.cells noughts80 173)) w.heap.size 173 (List.replicate 80 0#64)from Arr.new w64 w _ _)
 go_enter Tryd.func92,Tryd.ntmps92
 go_wp2_with (first
  |refine wpList_val rfl (.agg (K64.map w64).toArray) (fun a w=>by as_aux_lemma=>kernel_rfl) ?_
  |(refine wpList_store_arr rfl 173 _ _ rfl w.heap.size rfl K64 rfl _ _ HX0.out rfl (by kernel_rfl) w64_one ?_;intro w1 hx1 hg1))
 refine bodyPost_ret (v:= .agg (K64.map w64).toArray) (results_arr (g:=w.heap.size) rfl _ _ _ _ _ rfl hx1 Tryd.underlying173 rfl (by kernel_rfl)) rfl ?_
 exact⟨rfl,((Below.refl _ _).alloc (Nat.le_refl _) _).grown hg1 (by simp) (fun k e=>by cases e;simp)⟩
set_option maxRecDepth 100000 in
theorem begin_any(w:World):Calls Tryd.prog 88 #[] w fun e w'=>e= .returned (.agg (begin64.list.map w64).toArray)∧Below w.heap.size w w':=by
 have HX0:=qq (show Arr w64 (w.alloc (.cells ((List.replicate 8 0#64).map w64).toArray 166)) w.heap.size 166 (List.replicate 8 0#64)from Arr.new w64 w _ _)
 go_enter Tryd.func88,Tryd.ntmps88
 go_wp2_with (refine wpList_store_arr rfl 166 _ _ rfl w.heap.size rfl begin64.list (by kernel_rfl) _ _ HX0.out rfl (by kernel_rfl) w64_one ?_;intro w1 hx1 hg1)
 refine bodyPost_ret (v:= .agg (begin64.list.map w64).toArray) (results_arr (g:=w.heap.size) rfl _ _ _ _ _ rfl hx1 Tryd.underlying166 rfl (by kernel_rfl)) rfl ?_
 exact⟨rfl,((Below.refl _ _).alloc (Nat.le_refl _) _).grown hg1 (by simp) (fun k e=>by cases e;simp)⟩
def k32To(k:Nat):List (BitVec 32):=K32.take k++List.replicate (64-k) 0#32
theorem K32_len:K32.length=64:=by kernel_rfl
theorem K64_len:K64.length=80:=by kernel_rfl
theorem k32To_len(k:Nat)(hk:k≤64):(k32To k).length=64:=by
 unfold k32To;rw[List.length_append,List.length_take,List.length_replicate,K32_len];omega
theorem k32To_set(k:Nat)(hk:k<64):(k32To k).set k (K32.getD k 0#32)=k32To (k+1):=by
 have e:64-k=(64-(k+1))+1:=by omega
 have hl:(K32.take k).length=k:=by rw[List.length_take,K32_len];omega
 unfold k32To
 rw[e,List.replicate_succ,List.set_append_right _ _ (by omega),hl,Nat.sub_self,qz,List.take_succ_eq_append_getElem (by rw[K32_len];exact hk),List.append_assoc]
 simp[List.getD,List.getElem?_eq_getElem (show k<K32.length by rw[K32_len];exact hk)]
theorem K32_at(k:Nat)(hk:k<64):K32.getD k 0#32=(K64.getD k 0#64>>>32).setWidth 32:=by
 have h1:k<K64.length:=by rw[K64_len];omega
 unfold K32
 rw[List.getD,List.getD,List.getElem?_map,List.getElem?_take,if_pos hk,List.getElem?_eq_getElem h1];rfl
theorem size64:(Tryd.prog.info? 168).map (·.size)=some 64:=by kernel_rfl
theorem size80:(Tryd.prog.info? 173).map (·.size)=some 80:=by kernel_rfl
theorem zero80:∀w,(zeroValue 173).run Tryd.prog w= .ok (.agg noughts80) w:=fun _=>by kernel_rfl
set_option maxRecDepth 100000 in
theorem shorts_any(w:World):Calls Tryd.prog 89 #[] w fun e w'=>e= .returned (.agg (K32.map w32).toArray)∧Below w.heap.size w w':=by
 have hz:=zero80
 go_enter Tryd.func89,Tryd.ntmps89
 go_wp2_with fail
 refine(longs_any _).mono ?_
 rintro e w1 ⟨rfl,hb1⟩
 have ho0:Arr w32 (w.alloc (.cells ((List.replicate 64 0#32).map w32).toArray 168)) w.heap.size 168 (List.replicate 64 0#32):=Arr.new w32 w _ _
 have hs1:w.heap.size<w1.heap.size:=by have:=hb1.size;simp at this;omega
 have HO:=qq ((ho0.below hb1 (by simp)).alloc (.cells noughts80 173))
 have HL:=qq (show Arr w64 (w1.alloc (.cells noughts80 173)) w1.heap.size 173 (List.replicate 80 0#64)from Arr.new w64 w1 _ _)
 have HB:=qq ((Below.trans ((Below.refl _ w).alloc (Nat.le_refl _) _) (hb1.mono (by simp))).alloc (Nat.le_of_lt hs1) (.cells noughts80 173))
 clear ho0 hb1
 go_wp2_with (refine wpList_store_arr rfl 173 _ _ rfl w1.heap.size rfl K64 rfl _ _ HL.out rfl size80 w64_one ?_;intro w2 hx2 hg2)
 have hA:Arr w32 w2 w.heap.size 168 (k32To 0):=(HO.out.grown hg2 (by simp;omega)).cast (by decide)
 have hB:Below w.heap.size w w2:=HB.out.grown hg2 (by simp;omega) (fun k e=>by cases e;omega)
 have HA:=qq hA
 have HB2:=qq hB
 have HX:=qq hx2
 clear hA hB hx2 hg2 HO HL HB
 go_loopw [4] (fun i wr=>∃k:Nat,k≤64∧i= .int .i64 k∧Arr w32 wr w.heap.size 168 (k32To k)∧Arr w64 wr w1.heap.size 173 K64∧Below w.heap.size w wr) (fun i _=>64-(intOf i).toNat)
 case atStart=>exact⟨0,by omega,rfl,HA.out,HX.out,HB2.out⟩
 case round=>
  clear HA HX HB2
  obtain⟨k,hk,rfl,ha,hx,hb⟩:=hrel
  have HA:=qq ha
  have HX:=qq hx
  have HB:=qq hb
  clear ha hx hb
  by_cases hlt:k<64
  ·have c1:=HX.out.cellD (k:=k) (by rw[K64_len];omega) 0#64
   have c2:=HA.out.cellD (k:=k) (by rw[k32To_len k hk];omega) 0#32
   have f2:=HA.out.frozen k
   generalize hx:K64.getD k 0#64=x at c1
   have Hx:=qq hx
   clear hx
   simp only[w32,w64]at c1 c2
   go_wp2_with fail
   go_roundw
   case rel=>
    have h2:=HA.out.set_ k (K32.getD k 0#32)
    refine⟨k+1,by omega,by go_num,?_,?_,?_⟩
    ·rw[k32To_set k hlt,K32_at k hlt,Hx.out]at h2;exact h2
    ·exact HX.out.far (by simp;omega) _
    ·exact HB.out.setCell (p:=⟨w.heap.size,k,none⟩) (Nat.le_refl _) _
   case measure=>simp[intOf];omega
  ·obtain rfl:k=64:=by omega
   have ek:k32To 64=K32:=by unfold k32To;rw[List.take_of_length_le (by rw[K32_len];omega)];simp
   have HA2:=qq (HA.out.cast ek)
   clear ek HA
   rw[show(((64:Nat)):Int)=64 from rfl]
   go_wp2_with (first
    |refine wpList_load_arr rfl 168 _ rfl w.heap.size rfl _ K32 HA2.out _ Tryd.underlying168 rfl (by rw[size64,K32_len]) ?_
    |(refine wpList_store_arr rfl 168 _ _ rfl w.heap.size rfl K32 rfl _ _ HA2.out rfl (by rw[size64,K32_len]) w32_one ?_;intro w9 hx9 hg9))
   refine bodyPost_ret (v:= .agg (K32.map w32).toArray) (results_arr (g:=w.heap.size) rfl _ _ _ _ _ rfl hx9 Tryd.underlying168 rfl (by rw[size64,K32_len])) rfl ?_
   exact⟨rfl,HB.out.grown hg9 (by have:=HA2.out.lt;omega) (fun k e=>by cases e;omega)⟩
def Dig(w:World)(g:Nat)(s:List (BitVec 32))(rv:Value)(n:Int):Prop:=s.length=8∧Blk w g 165 (s.map w32++ [rv,.int .i64 n])
section
variable{w w':World}{g:Nat}{s:List (BitVec 32)}{rv:Value}{n:Int}
theorem Dig.lt(h:Dig w g s rv n):g<w.heap.size:=h.2.lt
theorem Dig.frozen(h:Dig w g s rv n)(k:Nat):w.frozen? ⟨g,k,none⟩=false:=h.2.frozen k
theorem Dig.word(h:Dig w g s rv n){k:Nat}(hk:k<8):w.cell? ⟨g,k,none⟩=some (w32 (s.getD k 0#32)):=h.2.cell k (by
 rw[List.getElem?_append_left (by rw[List.length_map,h.1];exact hk),List.getElem?_map,List.getElem?_eq_getElem (by rw[h.1];exact hk)]
 simp[List.getD,List.getElem?_eq_getElem (show k<s.length by rw[h.1];exact hk)])
theorem Dig.rest(h:Dig w g s rv n):w.cell? ⟨g,8,none⟩=some rv:=h.2.cell 8 (by
 rw[List.getElem?_append_right (by rw[List.length_map,h.1];omega),List.length_map,h.1];rfl)
theorem Dig.count(h:Dig w g s rv n):w.cell? ⟨g,9,none⟩=some (.int .i64 n):=h.2.cell 9 (by
 rw[List.getElem?_append_right (by rw[List.length_map,h.1];omega),List.length_map,h.1];rfl)
theorem Dig.setWord(h:Dig w g s rv n){k:Nat}(hk:k<8)(u:BitVec 32):Dig (w.setCell ⟨g,k,none⟩ (.int .u32 (bv u))) g (s.set k u) rv n:=
 ⟨by rw[List.length_set];exact h.1,(h.2.set_ k (w32 u)).cast (by rw[List.set_append_left _ _ (by rw[List.length_map,h.1];exact hk),←List.map_set])⟩
theorem Dig.setRest(h:Dig w g s rv n)(u:Value):Dig (w.setCell ⟨g,8,none⟩ u) g s u n:=
 ⟨h.1,(h.2.set_ 8 u).cast (by rw[List.set_append_right _ _ (by rw[List.length_map,h.1];omega),List.length_map,h.1];rfl)⟩
theorem Dig.setCount(h:Dig w g s rv n)(u:Int):Dig (w.setCell ⟨g,9,none⟩ (.int .i64 u)) g s rv u:=
 ⟨h.1,(h.2.set_ 9 _).cast (by rw[List.set_append_right _ _ (by rw[List.length_map,h.1];omega),List.length_map,h.1];rfl)⟩
theorem Dig.drew(h:Dig w g s rv n):Dig w.drew g s rv n:=h
theorem Dig.alloc(h:Dig w g s rv n)(o:Obj):Dig (w.alloc o) g s rv n:=⟨h.1,h.2.alloc o⟩
theorem Dig.below{B:Nat}(h:Dig w g s rv n)(hb:Below B w w')(hg:g<B):Dig w' g s rv n:=⟨h.1,h.2.below hb hg⟩
theorem Dig.grown{row:Option Nat}(h:Dig w g s rv n)(hb:w.grownBy w' row)(hg:some g≠row):Dig w' g s rv n:=⟨h.1,h.2.grown hb hg⟩
theorem Dig.cast{t:List (BitVec 32)}(h:Dig w g s rv n)(e:s=t):Dig w g t rv n:=e▸h
end
theorem run_idx64{xs:List (BitVec 64)}{i:Nat}(hx:xs.length=8)(hi:i<8)(w:World):(Instr.index 166 (.agg (xs.map w64).toArray) (.int .i64 i)).run Tryd.prog w= .ok (w64 (xs.getD i 0#64)) w:=by
 have hu:=Tryd.underlying166
 have h1:(xs.map w64).toArray[i]?=some (w64 (xs.getD i 0#64)):=by simp[List.getD,hx,hi]
 have h2:(0:Int)≤i∧(i:Int)<8:=by omega
 have h3:i<8:=hi
 have h4:xs[i]?=some (xs.getD i 0#64):=by simp[List.getD,hx,hi]
 simp[Instr.index,run_underlying hu,asIntOf,h3,go_sem]
 rw[h4]
 simp[go_sem,List.getD]
def b32To(k:Nat):List (BitVec 32):=begin32.list.take k++List.replicate (8-k) 0#32
theorem b32To_set(k:Nat)(hk:k<8):(b32To k).set k ((begin64.list.getD k 0#64>>>32).setWidth 32)=b32To (k+1):=by
 match k,hk with
 |0,_=>rfl
 |1,_=>rfl
 |2,_=>rfl
 |3,_=>rfl
 |4,_=>rfl
 |5,_=>rfl
 |6,_=>rfl
 |7,_=>rfl
set_option maxRecDepth 100000 in
theorem new_any(w:World):Calls Tryd.prog 83 #[] w fun e w'=>e= .returned (.pointer (some ⟨w.heap.size,0,none⟩))∧Dig w' w.heap.size begin32.list (.slice none 0 0) 0∧Below w.heap.size w w':=by
 obtain⟨B,hB⟩:∃B,B=begin64.list:=⟨_,rfl⟩
 have hBl:B.length=8:=by rw[hB];rfl
 have cb:=fun w=>begin_any w
 simp only[←hB]at cb
 have CB:=qq cb
 have HB:=qq hB
 have HBl:=qq hBl
 clear cb hB hBl
 go_enter Tryd.func83,Tryd.ntmps83
 go_wp2_with fail
 refine(CB.out _).mono ?_
 rintro e w1 ⟨rfl,hb1⟩
 have hd0:Dig (w.alloc (.cells ((List.replicate 8 0#32).map w32++ [Value.slice none 0 0,Value.int .i64 0]).toArray 165)) w.heap.size (List.replicate 8 0#32) (.slice none 0 0) 0:=⟨rfl,Blk.new w _ _⟩
 have HD:=qq ((hd0.below hb1 (by simp)).cast (show List.replicate 8 0#32=b32To 0 by decide))
 have HW:=qq (Below.trans ((Below.refl _ w).alloc (Nat.le_refl _) _) (hb1.mono (by simp)))
 have hsz:w.heap.size<w1.heap.size:=by have:=hb1.size;simp at this;omega
 clear hd0 hb1
 go_wp2_with fail
 go_loopw [7] (fun i wr=>∃k:Nat,k≤8∧i= .int .i64 k∧Dig wr w.heap.size (b32To k) (.slice none 0 0) 0∧Below w.heap.size w wr) (fun i _=>8-(intOf i).toNat)
 case atStart=>exact⟨0,by omega,rfl,HD.out,HW.out⟩
 case round=>
  clear HD HW
  obtain⟨k,hk,rfl,hd,hb⟩:=hrel
  have HD:=qq hd
  have HW:=qq hb
  clear hd hb
  by_cases hlt:k<8
  ·have ci:=fun w=>run_idx64 (i:=k) HBl.out hlt w
   have c1:=HD.out.word (k:=k) hlt
   have f1:=HD.out.frozen k
   generalize hx:B.getD k 0#64=x at ci
   have Hx:=qq hx
   clear hx
   simp only[w32,w64]at c1 ci
   go_wp2_with fail
   go_roundw
   case rel=>
    have h2:=HD.out.setWord hlt ((x>>>32).setWidth 32)
    exact⟨k+1,by omega,by go_num,h2.cast (by rw[←Hx.out,HB.out];exact b32To_set k hlt),HW.out.setCell (p:=⟨w.heap.size,k,none⟩) (Nat.le_refl _) _⟩
   case measure=>simp[intOf];omega
  ·obtain rfl:k=8:=by omega
   rw[show(((8:Nat)):Int)=8 from rfl]
   go_wp2_with fail
   go_ret
   exact⟨rfl,HD.out.cast (by decide),HW.out⟩
end Go.Proofs.YtelgjaiknaalkaaDoor
