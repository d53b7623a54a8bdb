/- Lemmas, joined and made smaller by a program. -/
import Derived.Test.YtelgjaiknaalkaaGreatDoorPm13
import Derived.Test.YtelgjaiknaalkaaGreatDoorPm11
import Derived.Lib.AppendStr
import Derived.Test.YtelgjaiknaalkaaGreatDoorPm21
import Derived.Test.YtelgjaiknaalkaaGreatDoorPm14
import Derived.Test.YtelgjaiknaalkaaGreatDoorPm19
import Derived.Test.YtelgjaiknaalkaaGreatDoorPm20
import Derived.Test.YtelgjaiknaalkaaGreatDoorPm18
import Derived.Deep.CutRange
import Derived.Test.YtelgjaiknaalkaaGreatDoorPm02
import Derived.StillTailTactics
import Derived.Deep.QuietTactic
import Derived.BigQuiet
import Derived.Deep.RegionLaw
import Derived.Deep.RegionWith
import Derived.Test.YtelgjaiknaalkaaGreatDoorPm03
open Go.Lib renaming hid → qq
open List renaming set_cons_zero → qz
set_option linter.unusedVariables false
set_option linter.unusedSimpArgs false
namespace Go.Proofs.YtelgjaiknaalkaaGreatDoor
open Go.RowKit
theorem strCells_of{S:ByteArray}{lab:List (BitVec 8)}(h:StrOf S lab):Lib.strCells S=lab.map b8:=by
 unfold StrOf at h
 rw[←h,List.map_map]
 unfold Lib.strCells
 apply List.map_congr_left
 intro x _
 show Value.int .u8 (x.toNat:Int)=b8 (BitVec.ofNat 8 x.toNat)
 unfold b8 bv
 rw[BitVec.toNat_ofNat,Nat.mod_eq_of_lt x.toNat_lt]
theorem own_app_str{w:World}{B E:Nat}{v:Value}{xs lab:List (BitVec 8)}{S:ByteArray}(hS:StrOf S lab){n:Nat}(hn:xs.length=n)(h:w.ownsRow B E 1 v (n+S.size) (xs.map b8++Lib.strCells S)):Own b8 w B E v (xs++lab):=by
 unfold Own
 rw[List.length_append,hn,←hS.size,List.map_append,←strCells_of hS]
 exact h
theorem wrap8M(n:Nat):IntKind.u8.wrap ((n:Int) % 256)=bv (BitVec.ofNat 8 n):=by
 have h:=wrap8L (n % 256)
 rw[show((n % 256:Nat):Int)=(n:Int) % 256 by omega]at h
 rw[h]
 congr 1
 apply BitVec.eq_of_toNat_eq
 simp
set_option maxRecDepth 100000 in
set_option maxHeartbeats 2000000 in
theorem refLabel_any(w:World)(sec:List (BitVec 8))(hsec:sec.length=32)(S:ByteArray)(lab:List (BitVec 8))(hS:StrOf S lab)(hl:lab.length≤255)(N:Nat)(hN:N≤8160):
 Calls Tryz.prog 87 #[arrV b8 sec,.string S,.slice none 0 0,.int .i64 (N:Int)] w fun e w'=>∃A c,e= .returned (.tuple #[.slice A N c,.bool true])∧
  Own b8 w' w.heap.size 5 (.slice A N c) (labV sec lab N)∧Below w.heap.size w w':=by
 obtain⟨i0,hi0,hz0,hz1,hz2⟩:=info_parts infoU8
 have hz:=hS.size
 have h1:¬((S.size:Int)>255):=by omega
 have h2:¬((N:Int)<0):=by omega
 have h3:¬((N:Int)>8160):=by omega
 have HS:=qq hsec
 have HA0:=qq (Arr.new b8 w 23 sec)
 have HB0:=qq ((Below.refl w.heap.size w).alloc (Nat.le_refl _) (.cells (sec.map b8).toArray 23))
 have hz0':(w.alloc (.cells (sec.map b8).toArray 23)).heap.size=w.heap.size+1:=by simp
 rw[arrV_mk]
 have HZ:=qq hz
 clear hsec hz
 go_enter Tryz.func87,Tryz.ntmps87
 go_upto_region 4 with fail
 generalize w.alloc (.cells (sec.map b8).toArray 23)=w1 at HA0 HB0 hz0' ⊢
 have e0:=wrap8M N
 have e1:IntKind.u8.wrap ((N:Int)/256)=bv (BitVec.ofNat 8 (N/256)):=by rw[←wrap8L];congr 1
 have e2:=wrap8L S.size
 obtain⟨L3,hL3⟩:∃L3:List (BitVec 8),L3=[BitVec.ofNat 8 (N/256),BitVec.ofNat 8 N,BitVec.ofNat 8 S.size]:=⟨_,rfl⟩
 have HL3:=qq hL3
 have HO0:=qq (show Own b8 (w1.alloc (.cells #[.int .u8 (bv (BitVec.ofNat 8 (N/256))),.int .u8 (bv (BitVec.ofNat 8 N)),.int .u8 (bv (BitVec.ofNat 8 S.size))] 5)) w1.heap.size 5 (.slice (some ⟨w1.heap.size,0,none⟩) 3 3) L3 by
  rw[hL3];exact Own.lit b8 w1 w1.heap.size 5 [BitVec.ofNat 8 (N/256),BitVec.ofNat 8 N,BitVec.ofNat 8 S.size] (Nat.le_refl _) (by simp[maxLen]))
 have HL3l:=qq (show L3.length=3 by rw[hL3];rfl)
 have hzw:w.heap.size<w1.heap.size:=by omega
 clear hL3 hz0'
 have HRz:=qq (show∀W:World,Rd b8 (W.alloc (.cells #[.int .u8 0,.int .u8 0,.int .u8 0,.int .u8 0] 5)) (W.heap.size+1) (some ⟨W.heap.size,0,none⟩) [0#8,0#8,0#8,0#8]from fun W=>Rd.new b8 W 5 [0#8,0#8,0#8,0#8])
 have hNi:(N:Int)≤8160:=by omega
 go_upto_region 6 with(first
  |(at_builtin;(refine Lib.wpList_append_own_string _ rfl (.tmp 39) (.tmp 40) 28 9 rfl w1.heap.size 5 i0 Tryz.underlying28 Tryz.underlying9 hi0 hz0 hz1 hz2 _ 3 (L3.map b8) rfl (by have h:=HO0.out;unfold Own at h;rw[HL3l.out]at h;exact h) S rfl (by have:=HZ.out;unfold maxLen;omega) (by have:=HZ.out;omega) (by simp) ?_;intro v2 w2 ho2 hg2 hv2;have HO2:=qq (own_app_str hS HL3l.out ho2);have HB2:=qq (show Below w1.heap.size w1 w2 from((Below.refl _ w1).alloc (Nat.le_refl _) _).grown hg2 (by simp) (fun k e=>(HO0.out.lt k e).1));have HS2:=qq HB2.out.size;obtain⟨A2,c2,rfl,-,-,-,-⟩:=HO2.out.shape' (n:=lab.length+3) (by rw[List.length_append,HL3l.out,Nat.add_comm]);clear ho2 hv2 hg2))
  |(at_builtin;(refine wpList_append_rd rfl (.tmp 42) (.tmp 57) 28 rfl b8_one w1.heap.size 5 i0 _ 1 Tryz.underlying28 hi0 hz0 hz1 hz2 rfl _ _ rfl (HO2.out.alloc (.cells #[.int .u8 0,.int .u8 0,.int .u8 0,.int .u8 0] 5)) (w2.heap.size+1) (some ⟨w2.heap.size,0,none⟩) 4 4 [0#8,0#8,0#8,0#8] rfl rfl (HRz.out w2) (by have:=HL3l.out;simp[maxLen];omega) (by have:=HL3l.out;simp;omega) (by have:=HS2.out;simp;omega) ?_;intro v3 w3 ho3 hg3 hbb3;obtain⟨A3,c3,rfl,-,-,-,-⟩:=ho3.shape' (n:=lab.length+7) (by rw[List.length_append,List.length_append,HL3l.out];simp;omega);have HO3:=qq ho3;have HB3:=qq (hbb3 w1.heap.size w1 (Nat.le_refl _) (HB2.out.alloc HS2.out _));clear ho3 hg3 hbb3)))
 have HI3:=qq (show Own b8 w3 w1.heap.size 5 (.slice A3 (lab.length+7) c3) (labI lab N)from HO3.out.cast (by rw[HL3.out,HZ.out];rfl))
 have HA3:=qq (HA0.out.below HB3.out HA0.out.lt)
 have hs3:=HB3.out.size
 clear e0 e1 e2
 go_region_law (first
  |((refine step_append_rd rfl (.tmp 60) (.tmp 61) 28 rfl b8_one w1.heap.size 5 i0 _ 1 Tryz.underlying28 hi0 hz0 hz1 hz2 rfl _ _ rfl HI3.out 0 none 0 0 [] rfl rfl (Rd.nil_ _ _ _ _) (by rw[labI_len];simp[maxLen];omega) (by rw[labI_len];simp;omega) (by first|omega|(simp;omega)) ?_;intro v4 w4 ho4 hg4 hbb4;obtain⟨A4,c4,rfl,-,-,-,-⟩:=ho4.shape' (n:=lab.length+7) (by rw[List.length_append,labI_len];rfl);have HI4:=qq (ho4.cast (List.append_nil _));have HB4:=qq (hbb4 w1.heap.size w1 (Nat.le_refl _) (by first|exact HB3.out.drew|exact HB3.out));clear ho4 hg4 hbb4))
  |(go_simp;go_at_call 108;(refine(refExpand_own w4 w4.heap.size 32 32 w4.heap.size (lab.length+7) c4 N _ _ sec (labI lab N) (((HA0.out.below HB4.out HA0.out.lt).rd 0).more (Nat.le_trans HA0.out.lt HB4.out.size)) (Nat.le_refl _) HS.out.symm HI4.out.rd (Nat.le_refl _) (labI_len _ _).symm (by omega) (by omega) hN).mono ?_;rintro e w5 ⟨A5,c5,rfl,hr5,hb5⟩;have HR5:=qq hr5;have HB5:=qq (HB4.out.trans (hb5.mono HB4.out.size));clear hr5 hb5)))
 go_wp2_with fail
 go_ret2
 have hro:=HR5.out.less (B':=w.heap.size) (by have:=HB4.out.size;omega)
 first|exact⟨A5,c5,rfl,hro,HB0.out.trans (HB5.out.mono (by omega))⟩|exact⟨A5,c5,⟨rfl,rfl⟩,hro,HB0.out.trans (HB5.out.mono (by omega))⟩
def to32(D:List (BitVec 8))(k:Nat):List (BitVec 8):=D.take k++List.replicate (32-k) 0#8
theorem to32_len(D:List (BitVec 8))(k:Nat)(h:32≤D.length)(hk:k≤32):(to32 D k).length=32:=by unfold to32;rw[List.length_append,List.length_take,List.length_replicate];omega
theorem to32_set(D:List (BitVec 8))(k:Nat)(h:32≤D.length)(hk:k<32):(to32 D k).set k (D.getD k 0#8)=to32 D (k+1):=by
 have hk':k<D.length:=by omega
 have e:D.take (k+1)=D.take k++ [D[k]]:=by rw[List.take_add_one,List.getElem?_eq_getElem hk'];rfl
 unfold to32
 rw[show 32-k=(32-(k+1))+1 by omega,List.replicate_succ,List.set_append_right _ _ (by rw[List.length_take];omega),List.length_take,Nat.min_eq_left (by omega),Nat.sub_self,qz,e,List.append_assoc,List.getD,List.getElem?_eq_getElem hk']
 rfl
theorem to32_all(D:List (BitVec 8)):to32 D 32=D.take 32:=by unfold to32;simp
set_option maxRecDepth 100000 in
set_option maxHeartbeats 2000000 in
theorem refDerive_any(w:World)(sec:List (BitVec 8))(hsec:sec.length=32)(S:ByteArray)(lab:List (BitVec 8))(hS:StrOf S lab)(hl:lab.length≤255):
 Calls Tryz.prog 57 #[arrV b8 sec,.string S] w fun e w'=>e= .returned (arrV b8 (derV sec lab))∧Below w.heap.size w w':=by
 have HS:=qq hsec
 obtain⟨D,hD⟩:∃D,D=derV sec lab:=⟨_,rfl⟩
 have HDl:=qq (show D.length=32 by rw[hD];exact derV_len _ _)
 have HD:=qq hD
 obtain⟨w3,hw3⟩:∃w3,w3=((w.alloc (.cells (sec.map b8).toArray 23)).alloc (.cells ((List.replicate 32 0#8).map b8).toArray 23)).alloc (.cells ((List.replicate 32 0#8).map b8).toArray 23):=⟨_,rfl⟩
 have HA3:=qq (show Arr b8 w3 w.heap.size 23 sec by rw[hw3];exact((Arr.new b8 w 23 sec).alloc _).alloc _)
 have HZ3:=qq (show Arr b8 w3 (w.heap.size+1) 23 (List.replicate 32 0#8) by
  rw[hw3];have h:=Arr.new b8 (w.alloc (.cells (sec.map b8).toArray 23)) 23 (List.replicate 32 0#8);rw[World.size_alloc]at h;exact h.alloc _)
 have HY3:=qq (show Arr b8 w3 (w.heap.size+1+1) 23 (to32 D 0) by
  rw[hw3];have h:=Arr.new b8 ((w.alloc (.cells (sec.map b8).toArray 23)).alloc (.cells ((List.replicate 32 0#8).map b8).toArray 23)) 23 (List.replicate 32 0#8);rw[World.size_alloc,World.size_alloc]at h;exact h.cast (by unfold to32;simp))
 have HB3:=qq (show Below w.heap.size w w3 by rw[hw3];exact(((Below.refl _ w).alloc (Nat.le_refl _) _).alloc (by simp) _).alloc (by simp;omega) _)
 have hz3:w3.heap.size=w.heap.size+1+1+1:=by rw[hw3];simp
 have HW3:=qq hw3
 rw[←hD,arrV_mk,arrV_mk]
 clear hsec hD hw3
 go_enter Tryz.func57,Tryz.ntmps57
 go_upto_region 2 with fail
 have hw3:=HW3.out
 simp only[show((List.replicate 32 0#8).map b8).toArray= #[Value.int .u8 0,Value.int .u8 0,Value.int .u8 0,Value.int .u8 0,Value.int .u8 0,Value.int .u8 0,Value.int .u8 0,Value.int .u8 0,Value.int .u8 0,Value.int .u8 0,Value.int .u8 0,Value.int .u8 0,Value.int .u8 0,Value.int .u8 0,Value.int .u8 0,Value.int .u8 0,Value.int .u8 0,Value.int .u8 0,Value.int .u8 0,Value.int .u8 0,Value.int .u8 0,Value.int .u8 0,Value.int .u8 0,Value.int .u8 0,Value.int .u8 0,Value.int .u8 0,Value.int .u8 0,Value.int .u8 0,Value.int .u8 0,Value.int .u8 0,Value.int .u8 0,Value.int .u8 0]from rfl]at hw3
 rw[←hw3]
 clear hw3
 have hlb:=refLabel_any w3 sec HS.out S lab hS hl 32 (by omega)
 have eD:labV sec lab 32=D:=by rw[←derV_eq];exact HD.out.symm
 rw[arrV_mk,eD,show(((32:Nat):Nat):Int)=32 from rfl]at hlb
 have HL:=qq hlb
 have HZs:=qq hz3
 have hzs:w.heap.size+2<w3.heap.size:=by omega
 clear hlb eD hz3
 go_wp2_with (first|(refine wpList_load_arr rfl 23 (.tmp 2) rfl w.heap.size rfl _ sec HA3.out _ Tryz.underlying23 rfl (by rw[size32,HS.out]) ?_))
 refine HL.out.mono ?_
 rintro e w4 ⟨A4,c4,rfl,ho,hb⟩
 obtain⟨g,cg,eg,hgb,hgl,-⟩:=ho.form' HDl.out (by omega)
 injection eg with eg1 eg2 eg3
 subst eg1
 have HO4:=qq ho
 have HZ4:=qq (HZ3.out.below hb (by omega))
 have HY4:=qq (HY3.out.below hb (by omega))
 have HB4:=qq (HB3.out.trans (hb.mono HB3.out.size))
 have hs4:=hb.size
 clear ho hb HL eg2 eg3
 go_wp2_with fail
 go_loopw [8] (fun v wr=>∃k:Nat,k≤32∧v= .int .i64 k∧Arr b8 wr (w.heap.size+1+1) 23 (to32 D k)∧Arr b8 wr (w.heap.size+1) 23 (List.replicate 32 0#8)∧Own b8 wr w3.heap.size 5 (.slice (some ⟨g,0,none⟩) 32 c4) D∧Below w.heap.size w wr) (fun v _=>32-(intOf v).toNat)
 case atStart=>exact⟨0,by omega,rfl,HY4.out,HZ4.out,HO4.out,HB4.out⟩
 case round=>
  clear HY4 HZ4 HO4 HB4
  obtain⟨k,hk,rfl,ha,hzr,ho,hb⟩:=hrel
  have HA:=qq ha
  have HZ:=qq hzr
  have HO:=qq ho
  have HB:=qq hb
  clear ha hzr ho hb
  by_cases hlt:k<32
  ·have c1:=((HO.out).at_ (k:=k) (by rw[HDl.out];exact hlt)).1
   have c2:=HA.out.cellD (k:=k) (by rw[to32_len _ _ (by rw[HDl.out];exact Nat.le_refl _) hk];exact hlt) 0#8
   have f2:=HA.out.frozen k
   have hy:D[k]'(by rw[HDl.out];exact hlt)=D.getD k 0#8:=by rw[List.getD,List.getElem?_eq_getElem (by rw[HDl.out];exact hlt)];rfl
   rw[hy]at c1
   have Hs:=qq (to32_set D k (by rw[HDl.out];exact Nat.le_refl _) hlt)
   generalize D.getD k 0#8=y at c1 Hs
   generalize(to32 D k).getD k 0#8=y0 at c2
   simp only[b8]at c1 c2
   have lk:(k:Int)<32:=by omega
   clear hy
   go_wp2_with fail
   go_roundw
   case rel=>exact⟨k+1,by omega,by go_num,(HA.out.set_ k y).cast Hs.out,HZ.out.far (by show w.heap.size+1≠w.heap.size+1+1;omega) _,HO.out.kept (grownBy_set wr (w.heap.size+1+1) k _) (.inr (fun e=>by injection e with e;have e2:g=w.heap.size+1+1:=e;omega)),HB.out.setCell (by show w.heap.size≤w.heap.size+1+1;omega) _⟩
   case measure=>simp[intOf];omega
  ·obtain rfl:k=32:=by omega
   rw[show(((32:Nat)):Int)=32 from rfl]
   have HA':=qq (HA.out.cast (show to32 D 32=D by rw[to32_all,List.take_of_length_le (by rw[HDl.out];exact Nat.le_refl _)]))
   clear HA
   go_upto_region 7 with fail
   refine wp_region_lit ?_
   refine wpList_load_arr rfl 23 (.tmp 5) rfl (w.heap.size+1+1) rfl _ D HA'.out _ Tryz.underlying23 rfl (by rw[size32,HDl.out]) ?_
   refine wpList_store_arr rfl 23 (.tmp 4) (.tmp 27) rfl (w.heap.size+1) rfl D rfl _ _ HZ.out (by rw[HDl.out];rfl) (by rw[size32,HDl.out]) b8_one' ?_
   intro w5 hx5 hg5
   go_wp2_with fail
   refine bodyPost_ret (v:= .agg (D.map b8).toArray) (results_arr (g:=w.heap.size+1) rfl _ _ _ _ _ rfl hx5 Tryz.underlying23 rfl (by rw[size32,HDl.out])) rfl ?_
   exact⟨rfl,HB.out.grown hg5 HB.out.size (fun k e=>by cases e;omega)⟩
def i64c(x:Int):Value:= .int .i64 x
def lineR(link:List (BitVec 8))(place:Int)(hv av:Value)(low:Int):List Value:=link.map b8++ [.int .i64 place,hv,av,.int .i64 low]
section
variable{link:List (BitVec 8)}{place low:Int}{hv av:Value}(hl:link.length=32)
include hl
theorem lineR_len:(lineR link place hv av low).length=36:=by simp[lineR,hl]
theorem lineR_32:(lineR link place hv av low)[32]?=some (.int .i64 place):=by
 unfold lineR;rw[List.getElem?_append_right (by simp[hl])];simp[hl]
end
theorem lineR_one{link:List (BitVec 8)}{place low:Int}{hv av:Value}(h1:hv.oneCell'=true)(h2:av.oneCell'=true):∀u∈lineR link place hv av low,u.oneCell'=true:=by
 intro u hu
 unfold lineR at hu
 simp only[List.mem_append,List.mem_cons,List.not_mem_nil,or_false]at hu
 rcases hu with hu|rfl|rfl|rfl|rfl
 ·obtain⟨x,-,rfl⟩:=List.mem_map.1 hu;exact b8_one x
 ·rfl
 ·exact h1
 ·exact h2
 ·rfl
structure RO where
 o:OnceM
 r:Nat
 off:Nat
 c:Nat
def RO.cells(x:RO):List Value:=onceC x.o.no x.o.key (.slice (some ⟨x.r,x.off,none⟩) 12 x.c)
structure RO.At(w:World)(x:RO):Prop where
 key:x.o.key.length=32
 nn:x.o.nonce.length=12
 ty:∃cs,w.heap[x.r]?=some (.cells cs 5 (0,0))
 rd:w.rangeAt x.r x.off (x.o.nonce.map b8)
theorem RO.At.of{w w':World}{x:RO}(h:x.At w)(hs:w.heap.size≤w'.heap.size)(hb:w'.heap[x.r]?=w.heap[x.r]?):x.At w':=
 ⟨h.key,h.nn,by rw[hb];exact h.ty,fun j u hu=>by rw[←h.rd j u hu];exact World.cell?_of_block hb⟩
structure RL where
 l:LineM
 rs:List RO
 hA:Option Addr
 hc:Nat
 aA:Option Addr
 ac:Nat
def RL.cells(x:RL):List Value:=lineR x.l.link x.l.place (.slice x.hA x.rs.length x.hc) (.slice x.aA x.l.asked.length x.ac) x.l.low
structure RL.At(w:World)(x:RL):Prop where
 ok:LOK x.l
 fst:x.rs.map RO.o=x.l.held
 rows:RdV w w.heap.size x.hA (x.rs.flatMap RO.cells)
 none_:x.rs.length=0→x.hA=none∧x.hc=0
 each:∀o∈x.rs,o.At w
 asked:Rd i64c w w.heap.size x.aA x.l.asked
theorem infoRLine:(Tryz.prog.info? 89).map (fun i=>(i.zero,i.size,i.bytes))=some (some (.agg (lineR (List.replicate 32 0#8) 0 (.slice none 0 0) (.slice none 0 0) 0).toArray),36,96):=by kernel_rfl
theorem wpList_load_midw{P:Program}{ops:Array Oper}{rest:List Oper}{op:Oper}{a:Act}{w:World}{Q:Exit→Act→World→Prop}(hgd:Region.wanted op (yielded ops a.tmps)=true)(ty:TypeId)(x:Operand)(ho:op.op= .load ty x)
 (b o:Nat)(hx:a.eval x= .pointer (some ⟨b,o,none⟩))(cs:List Value)(d:TypeDesc)(hc:w.rangeAt b o cs)
 (hu:P.underlying ty=some d)(hd:d.isRow=true)(hi:(P.info? ty).map (·.size)=some cs.length)
 (h:wpList P ops Q rest (a.put op.dst (.agg cs.toArray)) w):wpList P ops Q (op::rest) a w:=
 wpList_step fun K hK=>by
  rw[if_pos hgd]
  exact wp_load_mid ty x ho b o hx cs d hc hu hd hi (hK _ _ h)
end Go.Proofs.YtelgjaiknaalkaaGreatDoor
namespace Go.Proofs.YtelgjaiknaalkaaGreatDoor
open Go.RowKit
set_option maxRecDepth 100000
theorem ChAt.other{w w':World}{gC gl g:Nat}{xs:List LP}{cs:List Value}(c:ChAt w gC gl xs)(hz:Blk w g 94 cs)(hg:w.grownBy w' (some g)):ChAt w' gC gl xs:=
 ⟨c.top.kept hg (fun e=>by
  injection e with e
  have h2:w.heap[g]?=some (.cells cs.toArray 94 (0,0)):=hz
  have h3:w.heap[gC]?=some (.cells #[.slice (some ⟨gl,0,none⟩) xs.length xs.length] 117 (0,0)):=c.top
  rw[←e,h3]at h2;injection h2 with h2;injection h2 with _ hT _;exact absurd hT (by decide)),
  c.lines.grown hg (fun e=>by
   injection e with e
   have h2:w.heap[g]?=some (.cells cs.toArray 94 (0,0)):=hz
   have h3:w.heap[gl]?=some (.cells (xs.flatMap LP.cells).toArray 130 (0,0)):=c.lines
   rw[←e,h3]at h2;injection h2 with h2;injection h2 with _ hT _;exact absurd hT (by decide)),
  c.ok,fun x hx=>(c.held x hx).cells hz (by decide) hg,c.gms,c.blks⟩
set_option maxHeartbeats 4000000 in
theorem next_okZ(w:World)(gC gl:Nat)(xs:List LP)(hc:ChAt w gC gl xs)(i:Nat)(hi:i<xs.length)(hm:xs.length≤1000)(hE:takeE xs[i].l xs[i].l.place=0):
 Calls Tryz.prog 34 #[.pointer (some ⟨gC,0,none⟩),.int .i64 (i:Int)] w fun e w'=>∃b y,e= .returned (.tuple #[.agg (onceC xs[i].l.place (takeO xs[i].l xs[i].l.place).key (nonceS b)).toArray,.nilIface])∧
  Arr b8 w' b 5 ((takeO xs[i].l xs[i].l.place).key++(takeO xs[i].l xs[i].l.place).nonce)∧LP.l y=takeL xs[i].l xs[i].l.place∧ChAt w' gC gl (xs.set i y)∧b∉ (xs.set i y).flatMap (fun x=>x.hp.map Prod.snd)∧w.grownBy w' (some gl)∧w.heap.size≤LP.gm y∧∀z∈b::y.hp.map Prod.snd,z∈xs[i].hp.map Prod.snd∨w.heap.size≤z:=by
 obtain⟨w1,hw1⟩:∃w1,w1=w.alloc (.cells zeroOnce.toArray 94):=⟨_,rfl⟩
 have HZ1:=qq (show Blk w1 w.heap.size 94 zeroOnce by rw[hw1];exact Blk.new _ _ _)
 have HK1:=qq (show Below w.heap.size w w1 by rw[hw1];exact(Below.refl _ w).alloc (Nat.le_refl _) _)
 have hz1:w1.heap.size=w.heap.size+1:=by rw[hw1];simp
 have HW1:=qq hw1
 clear hw1
 have hgl:=hc.lines.lt
 have HC1:=qq (hc.below HK1.out)
 have HL:=qq (line_any w1 gC gl xs HC1.out i hi hm)
 have hx:=hc.ok _ (List.getElem_mem hi)
 have c35:=HC1.out.range i hi 35 _ (lineC_35 hx.lok.len)
 have HT:=qq (ctake_okZ w1 gC gl xs HC1.out i hi hm _ hE)
 have hKl:(takeO xs[i].l xs[i].l.place).key.length=32:=by
  rw[takeO_run (l:=xs[i].l) (n:=xs[i].l.place) (k:=0) (by omega) hE]
  exact ofL_key _ _
 obtain⟨O,hO⟩:∃O,O=takeO xs[i].l xs[i].l.place:=⟨_,rfl⟩
 obtain⟨L,hL⟩:∃L,L=takeL xs[i].l xs[i].l.place:=⟨_,rfl⟩
 rw[←hO,←hL]at HT
 rw[←hO]at hKl
 rw[←hO,←hL]
 generalize xs[i].l.place=p at c35 HT ⊢
 have HKl:=qq hKl
 clear hE hx hO hL hc hKl
 go_enter Tryz.func34,Tryz.ntmps34
 go_upto_region 1 with fail
 have hw1:=HW1.out
 simp only[show zeroOnce.toArray= #[Value.int .i64 0,Value.int .u8 0,Value.int .u8 0,Value.int .u8 0,Value.int .u8 0,Value.int .u8 0,Value.int .u8 0,Value.int .u8 0,Value.int .u8 0,Value.int .u8 0,Value.int .u8 0,Value.int .u8 0,Value.int .u8 0,Value.int .u8 0,Value.int .u8 0,Value.int .u8 0,Value.int .u8 0,Value.int .u8 0,Value.int .u8 0,Value.int .u8 0,Value.int .u8 0,Value.int .u8 0,Value.int .u8 0,Value.int .u8 0,Value.int .u8 0,Value.int .u8 0,Value.int .u8 0,Value.int .u8 0,Value.int .u8 0,Value.int .u8 0,Value.int .u8 0,Value.int .u8 0,Value.int .u8 0,Value.slice none 0 0]from rfl]at hw1
 rw[←hw1]
 clear hw1
 go_wp2_with fail
 refine HL.out.mono ?_
 rintro e w2 ⟨rfl,rfl⟩
 go_wp2_with fail
 refine HT.out.mono ?_
 rintro e w3 ⟨b,y,rfl,hA3,hyl,hC3,hnd,hg3,hgm3,hzz3⟩
 have HZ3:=qq (HZ1.out.grown hg3 (fun e=>by injection e with e;omega))
 have HZz3:=qq hzz3
 have HA3:=qq hA3
 have HC3:=qq hC3
 have HYl:=qq hyl
 have HNd:=qq hnd
 have HG3:=qq (show w.grownBy w3 (some gl)from grownBy_trans ⟨HK1.out.os,HK1.out.tape,HK1.out.output,HK1.out.size,fun k hk _=>HK1.out.block k hk⟩ hg3 (fun _ e=> .inl e))
 clear hA3 hC3 hyl hnd hg3 hzz3
 go_wp2_with (refine wpList_store_piece rfl 94 (.tmp 4) (.tmp 21) rfl w.heap.size 0 rfl (onceC p O.key (nonceS b)) rfl 94 _ [] zeroOnce [] HZ3.out (by simp) rfl (by rw[onceC_len _ _ _ HKl.out];rfl) (by rw[sizeOnce,onceC_len _ _ _ HKl.out]) (onceC_one _ _ _ _ _) ?_;intro w9 hx9 hg9)
 have HX9:=qq (show Blk w9 w.heap.size 94 (onceC p O.key (nonceS b))from hx9.cast (by simp))
 refine bodyPost_ret (v:= .tuple #[.agg (onceC p O.key (nonceS b)).toArray,.nilIface]) (results_blk_tmp (g:=w.heap.size) rfl _ _ _ _ _ _ rfl rfl HX9.out Tryz.underlying94 rfl (by rw[sizeOnce,onceC_len _ _ _ HKl.out])) rfl ?_
 have hg:=HG3.out
 exact⟨b,y,rfl,arr_grown_line HA3.out HZ3.out (by decide) hg9,HYl.out,HC3.out.other HZ3.out hg9,HNd.out,⟨hg9.os.trans hg.os,hg9.tape.trans hg.tape,hg9.output.trans hg.output,Nat.le_trans hg.size hg9.size,fun k hk hne=>(hg9.block k (Nat.lt_of_lt_of_le hk hg.size) (fun e=>by injection e with e;omega)).trans (hg.block k hk hne)⟩,by omega,fun z hz=>by
  rcases HZz3.out z hz with h|h
  ·exact .inl h
  ·exact .inr (by omega)⟩
end Go.Proofs.YtelgjaiknaalkaaGreatDoor
namespace Go.Proofs.YtelgjaiknaalkaaGreatDoor
open Go.RowKit
set_option maxRecDepth 100000 in
set_option maxHeartbeats 2000000 in
theorem newbad_any(w:World)(s:List (BitVec 8))(n:Int)(n0: -9223372036854775808≤n)(n1:n<9223372036854775808)(hn:soundB n=false):
 Calls Tryz.prog 29 #[arrV b8 s,.int .i64 n] w fun e w'=>e= .returned (.pointer (some ⟨w.heap.size+1,0,none⟩))∧Boxed w' (w.heap.size+1) 117 (.slice none 0 0)∧Below w.heap.size w w':=by
 obtain⟨w1,hw1⟩:∃w1,w1=(w.alloc (.cells (s.map b8).toArray 23)).alloc (.cells #[.slice none 0 0] 117):=⟨_,rfl⟩
 have HC1:=qq (show Boxed w1 (w.heap.size+1) 117 (.slice none 0 0) by rw[hw1];have h:=Boxed.new (w.alloc (.cells (s.map b8).toArray 23)) 117 (.slice none 0 0);rw[World.size_alloc]at h;exact h)
 have HK1:=qq (show Below w.heap.size w w1 by rw[hw1];exact((Below.refl _ w).alloc (Nat.le_refl _) _).alloc (by simp) _)
 have HW1:=qq hw1
 have HR:=qq (root_any n n0 (by omega) w1)
 have hrt:rootV n= -1:=by unfold rootV;rw[if_neg (by rw[hn];decide)]
 rw[arrV_mk]
 clear hw1 hn
 go_enter Tryz.func29,Tryz.ntmps29
 go_upto_region 2 with fail
 rw[←HW1.out]
 go_wp2_with fail
 refine HR.out.mono ?_
 rintro e w2 ⟨rfl,rfl⟩
 rw[hrt]
 go_wp2_with fail
 go_ret
 exact⟨rfl,HC1.out,HK1.out⟩
def ChX(w:World)(gC gl:Nat)(xs:List LP):Prop:=(xs=[]∧Boxed w gC 117 (.slice none 0 0))∨ChAt w gC gl xs
theorem ChX.at_{w:World}{gC gl:Nat}{xs:List LP}(h:ChX w gC gl xs){i:Nat}(hi:i<xs.length):ChAt w gC gl xs:=by
 rcases h with⟨h1,h2⟩|h
 ·subst h1;exact absurd hi (by simp)
 ·exact h
set_option maxRecDepth 100000 in
set_option maxHeartbeats 1000000 in
theorem refParent_any(x n:Int)(w:World):
 Calls Tryz.prog 85 #[.int .i64 x,.int .i64 n] w fun e w'=>e= .returned (.int .i64 (parV x n))∧w=w':=by
 have Hn:=qq (refNode_any x n w)
 cases hs:nodeB x n with
 |false=>
  have e:parV x n= -1:=by simp[parV,hs]
  rw[e]
  rw[hs]at Hn
  clear e hs
  go_enter Tryz.func85,Tryz.ntmps85
  go_wp2_with (go_at_call 107;refine Hn.out.mono ?_;rintro e w' ⟨rfl,rfl⟩)
  go_ret
  exact⟨rfl,rfl⟩
 |true=>
  rw[hs]at Hn
  obtain⟨a,b,rfl,rfl,hb,ha⟩:=nodes x n hs
  have hb32:1≤b∧b≤32:=by simp at hb;omega
  obtain⟨b1,b2⟩:=hb32
  have hpar:∀p:Nat,p<2*b-1→(childL (p:Int)=(a:Int)∨childR (p:Int)=(a:Int)↔(p:Int)=parV (a:Int) (b:Int)):=by
   intro p hp
   have:=law_par b hb a ha p hp
   rw[Bool.eq_iff_iff]at this
   simpa using this
  have hrange:=law_parRange b hb a ha
  simp only[Bool.and_eq_true,decide_eq_true_eq]at hrange
  obtain⟨⟨⟨⟨hr1,hr2⟩,-⟩,-⟩,-⟩:=hrange
  generalize parV (a:Int) (b:Int)=P at*
  have Hpar:=qq hpar
  clear hs hb hpar
  go_enter Tryz.func85,Tryz.ntmps85
  go_wp2_with (go_at_call 107;refine Hn.out.mono ?_;rintro e w' ⟨rfl,rfl⟩)
  go_loop [5] (fun p=>∃q:Nat,q≤2*b-1∧p= .int .i64 q∧∀r:Nat,r<q→(r:Int)≠P) (fun p=>2*b-1-(intOf p).toNat)
  case atStart=>exact⟨0,by omega,rfl,fun r hr=>by omega⟩
  case round=>
   obtain⟨q,hq,rfl,hnot⟩:=hrel
   have Hnot:=qq hnot
   clear hnot
   by_cases hlt:q<2*b-1
   ·have hiff:=Hpar.out q hlt
    have Hc:=qq (refChildren_any (q:Int) (by omega) w)
    have hle:decide ((q:Int)≤2*(b:Int)-2)=true:=by simp;omega
    generalize childL (q:Int)=l at*
    generalize childR (q:Int)=r at*
    by_cases hl:l=(a:Int)
    ·have hP:(q:Int)=P:=hiff.1 (.inl hl)
     have hl':(l==(a:Int))=true:=by simpa using hl
     have HP:=qq hP
     clear hiff hl hP hr1 hr2
     go_wp2_with (go_at_call 56;refine Hc.out.mono ?_;rintro e w' ⟨rfl,rfl⟩)
     go_ret
     exact⟨by rw[←HP.out];rfl,rfl⟩
    ·have hl':(l==(a:Int))=false:=by simpa using hl
     by_cases hr:r=(a:Int)
     ·have hP:(q:Int)=P:=hiff.1 (.inr hr)
      have hr':(r==(a:Int))=true:=by simpa using hr
      have HP:=qq hP
      clear hiff hl hr hP hr1 hr2
      go_wp2_with (go_at_call 56;refine Hc.out.mono ?_;rintro e w' ⟨rfl,rfl⟩)
      go_ret
      exact⟨by rw[←HP.out];rfl,rfl⟩
     ·have hr':(r==(a:Int))=false:=by simpa using hr
      have hP:(q:Int)≠P:=fun e=>by rcases hiff.2 e with h|h;exact hl h;exact hr h
      have HP:=qq hP
      clear hiff hl hr hP
      go_wp2_with (go_at_call 56;refine Hc.out.mono ?_;rintro e w' ⟨rfl,rfl⟩)
      go_round
      case rel=>exact⟨q+1,by omega,by go_num,fun r hr=>by rcases Nat.lt_succ_iff_lt_or_eq.1 hr with h|h;exact Hnot.out r h;rw[h];exact HP.out⟩
      case measure=>simp[intOf];omega
   ·have hP:P= -1:=by
     apply Decidable.byContradiction
     intro hne
     exact Hnot.out P.toNat (by omega) (by omega)
    have HP:=qq hP
    have hle:decide ((q:Int)≤2*(b:Int)-2)=false:=by simp;omega
    clear hP
    go_wp2
    go_ret
    exact⟨by rw[HP.out];rfl,rfl⟩
attribute [local go_sem] Oper.semAt_some
theorem infoInt:(Tryz.prog.info? 3).map (fun i=>(i.zero,i.size,i.bytes))=some (some (.int .i64 0),1,8):=by kernel_rfl
def i64v(z:Int):Value:= .int .i64 z
theorem i64v_one(x:Int):(i64v x).oneCell'=true:=rfl
def upL:Nat→Int→Int→List Int
 |0,_,_=> []
 |f+1,p,n=>if p<0 then[]else p::upL f (parV p n) n
def pathL(x n:Int):List Int:=upL 8 (parV x n) n
def chainB(n:Int):Int→List Int→Bool
 |p,[]=>decide (p<0)
 |p,q::l=>q==p&&decide (0≤p)&&decide (p<64)&&chainB n (parV p n) l
theorem law_chain:∀n∈ ([1,2,4,8,16,32]:List Nat),∀x:Nat,x<2*n-1→(chainB (n:Int) (parV (x:Int) (n:Int)) (pathL (x:Int) (n:Int))&&decide ((pathL (x:Int) (n:Int)).length≤6))=true:=by decide+kernel
theorem chain_of(x n:Int):chainB n (parV x n) (pathL x n)=true∧(pathL x n).length≤6:=by
 cases hn:nodeB x n with
 |false=>
  have e:parV x n= -1:=if_pos (.inl hn)
  have e2:pathL x n=[]:=by unfold pathL;rw[e];rfl
  rw[e,e2];exact⟨rfl,by simp⟩
 |true=>
  obtain⟨a,b,rfl,rfl,hb,ha⟩:=nodes x n hn
  have:=law_chain b hb a ha
  simpa using this
theorem chain_nil{n p:Int}(h:chainB n p []=true):p<0:=by simpa[chainB]using h
theorem chain_cons{n p q:Int}{l:List Int}(h:chainB n p (q::l)=true):q=p∧0≤p∧p<64∧chainB n (parV p n) l=true:=by
 simp only[chainB,Bool.and_eq_true,beq_iff_eq,decide_eq_true_eq]at h
 exact⟨h.1.1.1,h.1.1.2,h.1.2,h.2⟩
theorem chain_up{n:Int}:∀(f:Nat) (p:Int) (l:List Int),chainB n p l=true→l.length<f→upL f p n=l
 |0,_,_,_,h=>absurd h (by omega)
 |f+1,p,[],h,_=>by unfold upL;rw[if_pos (chain_nil h)]
 |f+1,p,q::l,h,hl=>by
  obtain⟨rfl,h0,_,hc⟩:=chain_cons h
  simp only[List.length_cons]at hl
  unfold upL
  rw[if_neg (by omega),chain_up f _ l hc (by omega)]
set_option maxRecDepth 100000 in
set_option maxHeartbeats 1000000 in
theorem refPath_any(x n:Int)(w:World):
 Calls Tryz.prog 55 #[.int .i64 x,.int .i64 n] w fun e w'=>∃v,e= .returned v∧Own i64v w' w.heap.size 3 v (pathL x n)∧Below w.heap.size w w':=by
 obtain⟨i0,hi0,hz0,hz1,hz2⟩:=info_parts infoInt
 obtain⟨hch,hlen⟩:=chain_of x n
 obtain⟨L,hL⟩:∃L,L=pathL x n:=⟨_,rfl⟩
 rw[←hL]at hch hlen ⊢
 obtain⟨p0,hp0⟩:∃p,p=parV x n:=⟨_,rfl⟩
 have c0:=fun w=>refParent_any x n w
 simp only[←hp0]at c0
 rw[←hp0]at hch
 have C0:=qq c0
 have Hch:=qq hch
 clear c0 hch hL hp0
 go_enter Tryz.func55,Tryz.ntmps55
 go_wp2_with (go_at_call 85;refine(C0.out _).mono ?_;rintro e w' ⟨rfl,rfl⟩)
 go_loopw [5,6] (fun v p wr=>∃(pre rest:List Int) (q:Int),p= .int .i64 q∧L=pre++rest∧chainB n q rest=true∧Own i64v wr w.heap.size 3 v pre∧Below w.heap.size w wr) (fun _ p _=>(upL 8 (intOf p) n).length)
 case atStart=>exact⟨[],L,p0,rfl,rfl,Hch.out,Own.nil_ _ _ _ _,Below.refl _ _⟩
 case round=>
  obtain⟨pre,rest,q,rfl,hx,hch,hown,hb⟩:=hrel
  have hz:=hb.size
  have hpl:pre.length+rest.length≤6:=by have:=congrArg List.length hx;rw[List.length_append]at this;omega
  have hu:=chain_up 8 q rest hch (by omega)
  have Hu:=qq hu
  have Hx:=qq hx
  clear hu hx
  cases rest with
  |nil=>
   have hq:=chain_nil hch
   clear hch
   go_wp2
   go_ret
   exact⟨_,rfl,hown.cast (by rw[Hx.out,List.append_nil]),hb⟩
  |cons y l=>
   obtain⟨rfl,h0,h64,hch2⟩:=chain_cons hch
   have cp:=fun w=>refParent_any y n w
   obtain⟨p1,hp1⟩:∃p,p=parV y n:=⟨_,rfl⟩
   simp only[←hp1]at cp
   rw[←hp1]at hch2
   have Cp:=qq cp
   have Hch2:=qq hch2
   simp only[List.length_cons]at hpl
   clear cp hch hch2 hp1
   go_wp2_with (first
    |(at_builtin;refine wpList_append_rd rfl _ _ 70 rfl i64v_one w.heap.size 3 i0 _ 8 Tryz.underlying70 hi0 hz0 hz1 hz2 rfl _ pre rfl (hown.alloc _) (wr.heap.size+1) _ 1 1 [y] rfl rfl (Rd.new i64v _ _ [y]) (by simp[maxLen];omega) (by simp;omega) (by simp;omega) ?_;intro v7 w7 hown7 hg7 hbb7)
    |(go_at_call 85;refine(Cp.out _).mono ?_;rintro e w' ⟨rfl,rfl⟩))
   go_roundw
   case rel=>exact⟨pre++ [y],l,p1,rfl,by rw[Hx.out];simp,Hch2.out,hown7,hbb7 _ _ (Nat.le_refl _) (by(repeat' (first|assumption|exact Below.refl _ _|refine Below.drew ?_|refine Below.alloc ?_ ?_ _|omega|(simp;done)|(simp;omega))))⟩
   case measure=>
    show(upL 8 p1 n).length<(upL 8 y n).length
    rw[Hu.out,chain_up 8 p1 l Hch2.out (by omega)];simp
def stepS(path:List Int)(x:Int)(r:Nat)(s:List (BitVec 8)):List (BitVec 8):=if(if r=0 then x else path.getD (r-1) 0)=childL (path.getD r 0)then derV s lLeft else derV s lRight
def downS(path:List Int)(x:Int):Nat→List (BitVec 8)→List (BitVec 8)
 |0,s=>s
 |r+1,s=>downS path x r (stepS path x r s)
def leafS(n i:Nat)(s:List (BitVec 8)):List (BitVec 8):=downS (pathL (2*(i:Int)) n) (2*(i:Int)) (pathL (2*(i:Int)) n).length s
theorem stepS_len(path:List Int)(x:Int)(r:Nat)(s:List (BitVec 8)):(stepS path x r s).length=32:=by
 unfold stepS
 generalize(if r=0 then x else path.getD (r-1) 0)=u
 by_cases h:u=childL (path.getD r 0)
 ·rw[if_pos h];exact derV_len _ _
 ·rw[if_neg h];exact derV_len _ _
theorem downS_len(path:List Int)(x:Int):∀(r:Nat) (s:List (BitVec 8)),s.length=32→(downS path x r s).length=32
 |0,s,h=>by rw[downS];exact h
 |r+1,s,h=>by rw[downS];exact downS_len path x r _ (stepS_len _ _ _ _)
def waysL(path:List Int)(x:Int):Nat→List Bool
 |0=> []
 |r+1=>decide ((if r=0 then x else path.getD (r-1) 0)=childL (path.getD r 0))::waysL path x r
def goS:List Bool→List (BitVec 8)→List (BitVec 8)
 | [],s=>s
 |b::l,s=>goS l (if b then derV s lLeft else derV s lRight)
theorem downS_go(path:List Int)(x:Int):∀(r:Nat) (s:List (BitVec 8)),downS path x r s=goS (waysL path x r) s
 |0,s=>rfl
 |r+1,s=>by
  rw[downS,downS_go path x r,waysL,goS]
  unfold stepS
  by_cases h:(if r=0 then x else path.getD (r-1) 0)=childL (path.getD r 0)<;>simp[h]
def bitsL:Nat→Nat→List Bool
 |0,_=> []
 |k+1,i=>decide (i<2^k)::bitsL k (if i<2^k then i else i-2^k)
theorem ways_bits:∀k:Nat,k≤5→∀i:Nat,i<2^k→waysL (pathL (2*(i:Int)) ((2^k:Nat):Int)) (2*(i:Int)) (pathL (2*(i:Int)) ((2^k:Nat):Int)).length=bitsL k i:=by
 have h:∀k:Nat,k<6→∀i:Nat,i<2^k→waysL (pathL (2*(i:Int)) ((2^k:Nat):Int)) (2*(i:Int)) (pathL (2*(i:Int)) ((2^k:Nat):Int)).length=bitsL k i:=by decide+kernel
 exact fun k hk i hi=>h k (by omega) i hi
theorem secs_go:∀(k i:Nat) (s:List (BitVec 8)),i<2^k→(secs k s)[i]?=some (goS (bitsL k i) s)
 |0,i,s,h=>by
  have:i=0:=by simpa using h
  subst this;rfl
 |k+1,i,s,h=>by
  have e:secs (k+1) s=secs k (derV s lLeft)++secs k (derV s lRight):=rfl
  rw[e,bitsL,goS]
  rw[Nat.pow_succ]at h
  by_cases hi:i<2^k
  ·rw[List.getElem?_append_left (by rw[secs_len];exact hi),secs_go k i _ hi];simp[hi]
  ·rw[List.getElem?_append_right (by rw[secs_len];omega),secs_len,secs_go k (i-2^k) _ (by omega)];simp[hi]
theorem secs_leaf(k:Nat)(hk:k≤5)(i:Nat)(hi:i<2^k)(s:List (BitVec 8)):(secs k s)[i]?=some (leafS (2^k) i s):=by
 rw[secs_go k i s hi]
 unfold leafS
 rw[downS_go,ways_bits k hk i hi]
end Go.Proofs.YtelgjaiknaalkaaGreatDoor
