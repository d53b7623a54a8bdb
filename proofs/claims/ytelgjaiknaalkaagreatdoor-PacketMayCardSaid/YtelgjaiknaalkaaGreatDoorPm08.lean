/- Lemmas, joined and made smaller by a program. -/
import Derived.Test.YtelgjaiknaalkaaGreatDoorPm04
import Derived.Test.YtelgjaiknaalkaaGreatDoorPm05
open Go.Lib renaming hid → qq
set_option linter.unusedVariables false
set_option linter.unusedSimpArgs false
namespace Go.Proofs.YtelgjaiknaalkaaGreatDoor
open Go.RowKit
theorem wpList_new{P:Program}{ops:Array Oper}{rest:List Oper}{op:Oper}{a:Act}{w:World}{Q:Exit→Act→World→Prop}(hgd:op.guard=none)(v:World→Value)(o:Obj)(h:∀a w,(execOp (Act.eval a) op).run P w= .ok (.value (v w)) (w.alloc o))
 (k:wpList P ops Q rest (a.put op.dst (v w)) (w.alloc o)):wpList P ops Q (op::rest) a w:=by
 refine wpList_plain hgd fun K hK=>?_
 unfold Oper.wp
 rw[h a w]
 exact hK _ _ k
set_option maxRecDepth 100000 in
theorem rlongs_any(w:World):Calls Tryz.prog 152 #[] w fun e w'=>e= .returned (.slice (some ⟨w.heap.size,0,none⟩) 80 80)∧Own w64 w' w.heap.size 125 (.slice (some ⟨w.heap.size,0,none⟩) 80 80) K64∧Below w.heap.size w w':=by
 go_enter Tryz.func152,Tryz.ntmps152
 go_wp2_with (refine wpList_new rfl (fun w=> .slice (some ⟨w.heap.size,0,none⟩) 80 80) (.cells (K64.map w64).toArray 125) (fun a w=>by as_aux_lemma=>kernel_rfl) ?_)
 go_ret
 exact⟨rfl,⟨by rfl,.inr ⟨w.heap.size,80,_,rfl,Nat.le_refl _,heap_alloc_new w _,by decide,by decide,by rfl,by rfl⟩⟩,by(repeat' (first|assumption|exact Below.refl _ _|refine Below.drew ?_|refine Below.alloc ?_ ?_ _|omega|(simp;done)|(simp;omega)))⟩
set_option maxRecDepth 100000 in
theorem rbegin_any(w:World):Calls Tryz.prog 143 #[] w fun e w'=>e= .returned (.slice (some ⟨w.heap.size,0,none⟩) 8 8)∧Own w64 w' w.heap.size 125 (.slice (some ⟨w.heap.size,0,none⟩) 8 8) begin64.list∧Below w.heap.size w w':=by
 go_enter Tryz.func143,Tryz.ntmps143
 go_wp2_with (refine wpList_new rfl (fun w=> .slice (some ⟨w.heap.size,0,none⟩) 8 8) (.cells (begin64.list.map w64).toArray 125) (fun a w=>by as_aux_lemma=>kernel_rfl) ?_)
 go_ret
 exact⟨rfl,⟨by rfl,.inr ⟨w.heap.size,8,_,rfl,Nat.le_refl _,heap_alloc_new w _,by decide,by decide,by rfl,by rfl⟩⟩,by(repeat' (first|assumption|exact Below.refl _ _|refine Below.drew ?_|refine Below.alloc ?_ ?_ _|omega|(simp;done)|(simp;omega)))⟩
theorem infoU32r:(Tryz.prog.info? 178).map (fun i=>(i.zero,i.size,i.bytes))=some (some (.int .u32 0),1,4):=by kernel_rfl
set_option maxRecDepth 100000 in
theorem rshorts_any(w:World):Calls Tryz.prog 144 #[] w fun e w'=>∃v,e= .returned v∧Own w32 w' w.heap.size 178 v K32∧Below w.heap.size w w':=by
 obtain⟨i0,hi0,hz0,hz1,hz2⟩:=info_parts infoU32r
 go_enter Tryz.func144,Tryz.ntmps144
 go_wp2_with fail
 refine(rlongs_any _).mono ?_
 rintro e w1 ⟨rfl,hown1,hb1⟩
 have hz1':=hb1.size
 have hl1:=(hown1.lt w.heap.size rfl).2
 have HO1:=qq hown1
 have HB1:=qq hb1
 clear hown1 hb1
 go_wp2_with fail
 go_loopw [1,3] (fun v i wr=>∃k:Nat,k≤64∧i= .int .i64 k∧Own w32 wr w1.heap.size 178 v (K32.take k)∧Below w1.heap.size w1 wr) (fun _ i _=>64-(intOf i).toNat)
 case atStart=>exact⟨0,by omega,rfl,Own.nil_ _ _ _ _,Below.refl _ _⟩
 case round=>
  obtain⟨k,hk,rfl,hown,hb⟩:=hrel
  have hz:=hb.size
  have HO:=qq hown
  have HB:=qq hb
  clear hown hb
  by_cases hlt:k<64
  ·have c1:wr.cell? ⟨w.heap.size,k,none⟩=some (w64 (K64.getD k 0#64)):=by
    have h1:=(HO1.out.below HB.out (Nat.le_refl _)).at_ (k:=k) (by rw[K64_len];omega)
    rw[h1.1];simp[List.getD,List.getElem?_eq_getElem (show k<K64.length by rw[K64_len];omega)]
   have hs:K32.take (k+1)=K32.take k++ [(K64.getD k 0#64>>>32).setWidth 32]:=by
    rw[←K32_at k hlt,List.take_succ_eq_append_getElem (by rw[K32_len];exact hlt)]
    simp[List.getD,List.getElem?_eq_getElem (show k<K32.length by rw[K32_len];exact hlt)]
   have hl:(K32.take k).length=k:=by rw[List.length_take,K32_len];omega
   generalize K64.getD k 0#64=x at c1 hs
   simp only[w64]at c1
   have l80:(k:Int)<80:=by omega
   have Hs:=qq hs
   have Hl:=qq hl
   clear hs hl
   go_wp2_with (at_builtin;refine wpList_append_rd rfl _ _ 197 rfl w32_one w1.heap.size 178 i0 _ 4 Tryz.underlying197 hi0 hz0 hz1 hz2 rfl _ _ rfl (HO.out.alloc _) (wr.heap.size+1) _ 1 1 [(x>>>32).setWidth 32] rfl rfl (Rd.new w32 wr 178 [(x>>>32).setWidth 32]) (by rw[Hl.out];simp[maxLen];omega) (by rw[Hl.out];simp;omega) (by simp;omega) ?_;intro v7 w7 hown7 hg7 hbb7)
   go_roundw
   case rel=>exact⟨k+1,by omega,by go_num,by rw[Hs.out];exact hown7,hbb7 _ _ (Nat.le_refl _) (HB.out.alloc hz _)⟩
   case measure=>simp[intOf];omega
  ·obtain rfl:k=64:=by omega
   rw[show(((64:Nat)):Int)=64 from rfl]
   go_wp2_with fail
   go_ret
   exact⟨_,rfl,(HO.out.cast (List.take_of_length_le (by rw[K32_len];exact Nat.le_refl _))).less hz1',HB1.out.trans (HB.out.mono hz1')⟩
theorem turn_rot{n:Nat}(x:BitVec n)(k j:Nat)(h:k+j=n):x>>>k+x<<<j=rotl x j:=by
 unfold rotl
 rw[show n-j=k by omega,BitVec.add_eq_or_of_and_eq_zero,BitVec.or_comm]
 apply BitVec.eq_of_getLsbD_eq
 intro i hi
 rw[BitVec.getLsbD_and,BitVec.getLsbD_zero,BitVec.getLsbD_ushiftRight,BitVec.getLsbD_shiftLeft]
 by_cases hij:i<j
 ·simp[hij]
 ·rw[BitVec.getLsbD_of_ge x (k+i) (by omega),Bool.false_and]
theorem rturn_any(x:BitVec 32)(k:Nat)(hk:k≤32)(w:World):Calls Tryz.prog 146 #[.int .u32 (bv x),.int .u64 (k:Int)] w fun e w'=>e= .returned (.int .u32 (bv (rotl x (32-k))))∧w=w':=by
 have h2:((32:Int)-(k:Int))=((32-k:Nat):Int):=by omega
 have hr:=turn_rot x k (32-k) (by omega)
 have HR:=qq hr
 clear hr
 go_enter Tryz.func146,Tryz.ntmps146
 go_wp2
 go_ret
 exact⟨by rw[HR.out];rfl,rfl⟩
def leN(v k:Nat):List (BitVec 8):=(List.range k).map fun i=>BitVec.ofNat 8 (v/256^i)
theorem leN_succ(v k:Nat):leN v (k+1)=leN v k++ [BitVec.ofNat 8 (v/256^k)]:=by simp[leN,List.range_succ]
theorem leN_len(v k:Nat):(leN v k).length=k:=by simp[leN]
theorem leN_at(v k i:Nat)(h:i<k):(leN v k)[i]'(by rw[leN_len];exact h)=BitVec.ofNat 8 (v/256^i):=by simp[leN]
theorem byte_low(n:Nat):IntKind.u8.wrap (((n % 32:Nat):Int)*8)=bv (BitVec.ofNat 8 (8*n)):=by
 rw[wrap_u8v];unfold bv;rw[BitVec.toNat_ofNat];omega
theorem div_next(v k:Nat):v/256^k/256=v/256^(k+1):=by rw[Nat.div_div_eq_div_mul,Nat.pow_succ]
theorem div_first(n:Nat):n/32=8*n/256^1:=by omega
set_option maxRecDepth 100000 in
set_option maxHeartbeats 1000000 in
theorem rpad_any(xs:List (BitVec 8))(m piece size:Nat)(hps:(piece=64∧size=8)∨(piece=128∧size=16))(w:World)(B:Nat)(A:Option Addr)(c:Nat)(hr:Rd b8 w B A xs)(hB:B≤w.heap.size)(hm:m=xs.length)(hbig:m≤100000000):
 Calls Tryz.prog 145 #[.slice A m c,.int .i64 (piece:Int),.int .i64 (size:Int)] w fun e w'=>∃v,e= .returned v∧Own b8 w' w.heap.size 5 v (padded xs m piece size)∧Below w.heap.size w w':=by
 obtain⟨i0,hi0,hz0,hz1,hz2⟩:=info_parts infoU8
 have HM:=qq hm
 have HR:=qq hr
 have HPS:=qq hps
 have hb2:8≤size∧size≤16∧64≤piece∧piece≤128:=by omega
 have HE:=qq (show Own b8 (w.alloc (.cells #[] 5)) w.heap.size 5 (.slice (some ⟨w.heap.size,0,none⟩) 0 0) []from
  ⟨by simp,.inr ⟨w.heap.size,0,#[],rfl,Nat.le_refl _,heap_alloc_new w _,by simp,by simp[maxLen],by simp,by simp⟩⟩)
 clear hm hr hps
 go_enter Tryz.func145,Tryz.ntmps145
 go_wp2_with (first
  |(at_builtin;refine wpList_append_rd rfl (.tmp 11) (.tmp 12) 28 rfl b8_one w.heap.size 5 i0 _ 1 Tryz.underlying28 hi0 hz0 hz1 hz2 rfl _ _ rfl HE.out B A m c xs rfl HM.out (HR.out.alloc hB _) (by have:=HM.out;simp[maxLen];omega) (by have:=HM.out;simp;omega) (by simp) ?_;intro v1 w1 hown1 hg1 hbb1;have HO1:=qq hown1;have HB1:=qq (hbb1 _ _ (Nat.le_refl _) ((Below.refl _ w).alloc (Nat.le_refl _) _));have hz1':=hg1.size;simp only[World.size_alloc]at hz1';clear hown1 hg1 hbb1)
  |(at_builtin;refine wpList_append_rd rfl (.tmp 13) (.tmp 14) 28 rfl b8_one w.heap.size 5 i0 _ 1 Tryz.underlying28 hi0 hz0 hz1 hz2 rfl _ _ rfl (HO1.out.alloc _) (w1.heap.size+1) _ 1 1 [128#8] rfl rfl (Rd.new b8 w1 5 [128#8]) (by have:=HM.out;simp[maxLen];omega) (by have:=HM.out;simp;omega) (by simp;omega) ?_;intro v2 w2 hown2 hg2 hbb2;have HO2:=qq hown2;have HB2:=qq (hbb2 _ _ (Nat.le_refl _) (HB1.out.alloc (by omega) _));clear hown2 hg2 hbb2))
 go_loopw [7] (fun v wr=>∃k:Nat,k≤padZ m piece size∧Own b8 wr w.heap.size 5 v (xs++128#8::List.replicate k 0#8)∧Below w.heap.size w wr) (fun v _=>m+1+128-(lenIn v).toNat)
 case atStart=>exact⟨0,Nat.zero_le _,HO2.out.cast (by simp),HB2.out⟩
 case round=>
  clear HO2 HB2
  obtain⟨k,hk,hown,hb⟩:=hrel
  obtain⟨L,hL⟩:∃L,L=m+1+k:=⟨_,rfl⟩
  have hlen:(xs++128#8::List.replicate k 0#8).length=L:=by simp;rw[hL,HM.out];omega
  have hpl:=padZ_lt m piece size HPS.out
  obtain⟨A1,c1,rfl,-,-,-,-⟩:=hown.shape' hlen
  have hz:=hb.size
  have HO:=qq hown
  have HB:=qq hb
  have HLn:=qq hlen
  clear hown hb hlen
  have hlb:L≤200000000:=by omega
  have hdiv:(L:Int).tmod (piece:Int)=((L % piece:Nat):Int):=by rw[Int.tmod_eq_emod_of_nonneg (by omega)];omega
  by_cases hlt:k<padZ m piece size
  ·have hne:=padZ_end m piece size k HPS.out hlt
   rw[←hL]at hne
   have HL:=qq hL
   have hcmp:(((L % piece:Nat):Int) !=(piece:Int)-(size:Int))=true:=by simp only[bne_iff_ne,ne_eq];omega
   clear hL hne hk
   generalize L % piece=q at hdiv hcmp
   go_wp2_with (at_builtin;refine wpList_append_rd rfl _ _ 28 rfl b8_one w.heap.size 5 i0 _ 1 Tryz.underlying28 hi0 hz0 hz1 hz2 rfl _ _ rfl (HO.out.alloc _) (wr.heap.size+1) _ 1 1 [0#8] rfl rfl (Rd.new b8 wr 5 [0#8]) (by have:=HLn.out;rw[this];simp[maxLen];omega) (by have:=HLn.out;rw[this];simp;omega) (by simp;omega) ?_;intro v7 w7 hown7 hg7 hbb7)
   have hlen7:((xs++128#8::List.replicate k 0#8)++ [0#8]).length=L+1:=by rw[List.length_append,HLn.out];rfl
   obtain⟨A7,c7,rfl,-,-,-,-⟩:=hown7.shape' hlen7
   go_roundw
   case rel=>exact⟨k+1,by omega,by rw[List.replicate_succ',←List.cons_append,←List.append_assoc];exact hown7,hbb7 _ _ (Nat.le_refl _) (HB.out.alloc hz _)⟩
   case measure=>have:=HL.out;simp[lenIn];omega
  ·have hke:k=padZ m piece size:=by omega
   have hhit:=padZ_hit m piece size HPS.out
   rw[←hke,←hL]at hhit
   have hcmp:(((L % piece:Nat):Int) !=(piece:Int)-(size:Int))=false:=by simp only[bne_eq_false_iff_eq];omega
   have HL:=qq hL
   have HK:=qq hke
   clear hL hke hhit hk hlt
   generalize L % piece=q at hdiv hcmp
   obtain⟨Bs,hBs⟩:∃Bs,Bs=xs++128#8::List.replicate k 0#8:=⟨_,rfl⟩
   have HOb:=qq (show Own b8 wr w.heap.size 5 (.slice A1 L c1) Bs by rw[hBs];exact HO.out)
   have HBl:=qq (show Bs.length=L by rw[hBs];exact HLn.out)
   have HBe:=qq hBs
   clear hBs HO HLn
   have d1:(m:Int).tdiv 32=((m/32:Nat):Int):=by rw[Int.tdiv_eq_ediv_of_nonneg (by omega)];omega
   have d2:(m:Int).tmod 32=((m % 32:Nat):Int):=by rw[Int.tmod_eq_emod_of_nonneg (by omega)];omega
   have d3:=byte_low m
   obtain⟨v,hv⟩:∃v,v=8*m:=⟨_,rfl⟩
   have hvb:v≤800000000:=by omega
   rw[←hv]at d3
   have hm32:m % 32<32:=Nat.mod_lt _ (by omega)
   have HO3:=qq (show Own b8 (wr.alloc (.cells #[b8 (BitVec.ofNat 8 v)] 5)) wr.heap.size 5 (.slice (some ⟨wr.heap.size,0,none⟩) 1 1) (leN v 1)from
    ⟨by simp[leN],.inr ⟨wr.heap.size,1,#[b8 (BitVec.ofNat 8 v)],by simp[leN],Nat.le_refl _,heap_alloc_new wr _,by simp[leN],by simp[maxLen],by simp,by simp[leN]⟩⟩)
   have HV:=qq hv
   have HD1:=qq (show m/32=v/256^1 by rw[hv];exact div_first m)
   have hq1:m/32≤800000000:=by omega
   generalize m/32=q1 at d1 HD1 hq1
   generalize m % 32=q2 at d2 d3 hm32
   clear hv
   go_wp2_with fail
   have HO4:=qq (HOb.out.alloc (.cells #[b8 (BitVec.ofNat 8 v)] 5))
   have HB4:=qq (HB.out.alloc hz (.cells #[b8 (BitVec.ofNat 8 v)] 5))
   have HBw:=qq ((Below.refl wr.heap.size wr).alloc (Nat.le_refl _) (.cells #[b8 (BitVec.ofNat 8 v)] 5))
   obtain⟨wo,rfl⟩:∃wo:World,wo=wr:=⟨_,rfl⟩
   go_loopw [8,9] (fun nv lv w2=>∃k nk:Nat,nk=v/256^k∧nk≤800000000∧1≤k∧k≤size∧nv= .int .i64 (nk:Int)∧Own b8 w2 wo.heap.size 5 lv (leN v k)∧Below wo.heap.size wo w2) (fun _ lv _=>size-(lenIn lv).toNat)
   case atStart=>exact⟨1,q1,HD1.out,by omega,by omega,by omega,rfl,HO3.out,HBw.out⟩
   case round=>
    obtain⟨k2,nk,hnk,hnb,hk1,hks,rfl,hown2,hb2'⟩:=hrel
    obtain⟨A2,c2,rfl,-,-,-,-⟩:=hown2.shape' (leN_len v k2)
    have hz2':=hb2'.size
    have HO5:=qq hown2
    have HB5:=qq hb2'
    have Hnk:=qq hnk
    clear HO3 HO4 HB4 HBw d1 d2 d3 hown2 hb2' hnk
    by_cases hlt3:k2<size
    ·have e1:(nk:Int).tdiv 256=((nk/256:Nat):Int):=by rw[Int.tdiv_eq_ediv_of_nonneg (by omega)];omega
     have e2:(nk:Int).tmod 256=bv (BitVec.ofNat 8 nk):=by rw[Int.tmod_eq_emod_of_nonneg (by omega)];unfold bv;rw[BitVec.toNat_ofNat];omega
     have hd:nk/256=v/256^(k2+1):=by rw[Hnk.out];exact div_next v k2
     have hm2:nk/256≤800000000:=by omega
     have Hd:=qq hd
     clear hd
     obtain⟨x8,hx8⟩:∃x8,x8=BitVec.ofNat 8 nk:=⟨_,rfl⟩
     rw[←hx8]at e2
     have Hx8:=qq hx8
     clear hx8
     generalize nk/256=r2 at e1 Hd hm2
     go_wp2_with (at_builtin;refine wpList_append_rd rfl _ _ 28 rfl b8_one wo.heap.size 5 i0 _ 1 Tryz.underlying28 hi0 hz0 hz1 hz2 rfl _ _ rfl (HO5.out.alloc _) (wr.heap.size+1) _ 1 1 [x8] rfl rfl (Rd.new b8 wr 5 [x8]) (by rw[leN_len];simp[maxLen];omega) (by rw[leN_len];simp;omega) (by simp;omega) ?_;intro v7 w7 hown7 hg7 hbb7)
     obtain⟨A7,c7,rfl,-,-,-,-⟩:=hown7.shape' (n:=k2+1) (by rw[List.length_append,leN_len];rfl)
     go_roundw
     case rel=>exact⟨k2+1,r2,Hd.out,hm2,by omega,by omega,by go_num,(by rw[leN_succ,←Hnk.out,←Hx8.out];exact hown7),hbb7 _ _ (Nat.le_refl _) (HB5.out.alloc hz2' _)⟩
     case measure=>simp[lenIn];omega
    ·obtain rfl:k2=size:=by omega
     have HL5:=qq (HOb.out.below HB5.out (Nat.le_refl _))
     have HB6:=qq (HB.out.trans (HB5.out.mono hz))
     go_wp2_with fail
     obtain⟨wq,rfl⟩:∃wq:World,wq=wr:=⟨_,rfl⟩
     go_loopw [7,10] (fun ov iv w3=>∃(t:Nat) (O:List (BitVec 8)),t≤k2∧iv= .int .i64 ((t:Int)-1)∧O++beN v t=Bs++beN v k2∧O.length=L+(k2-t)∧Own b8 w3 w.heap.size 5 ov O∧Own b8 w3 wo.heap.size 5 (.slice A2 k2 c2) (leN v k2)∧(∀b,(Value.slice A2 k2 c2).ownBlock=some b→ov.ownBlock≠some b)∧Below w.heap.size w w3) (fun _ iv _=>(intOf iv+1).toNat)
     case atStart=>exact⟨k2,Bs,Nat.le_refl _,rfl,rfl,by rw[HBl.out];omega,HL5.out,HO5.out,fun b hb hb'=>by have h1:=(HO5.out.lt b hb).1;have h2:=(HOb.out.lt b hb').2;omega,HB6.out⟩
     case round=>
      obtain⟨t,O,ht,rfl,hO,hOl,ho,hlo,hne,hb3⟩:=hrel
      have hz3:=hb3.size
      cases t with
      |zero=>
       go_wp2_with fail
       go_ret
       refine⟨_,rfl,ho.cast ?_,hb3⟩
       rw[show beN v 0=[]from rfl,List.append_nil]at hO
       rw[hO,HBe.out]
       unfold padded
       rw[HV.out,HK.out,HM.out]
       simp
      |succ t=>
       obtain⟨b2,off2,e2,hb2l,cl⟩:=hlo.rd.at_ (k:=t) (by rw[leN_len];omega)
       rw[leN_at v k2 t (by omega)]at cl
       generalize hx:BitVec.ofNat 8 (v/256^t)=x at cl
       have hO2:(O++ [x])++beN v t=Bs++beN v k2:=by rw[←hO,beN,hx,List.append_assoc];rfl
       have HO7:=qq ho
       have HLo:=qq hlo
       have HB7:=qq hb3
       have HOe:=qq hO2
       have HOl:=qq hOl
       have HNe:=qq hne
       subst e2
       clear hx hO hO2 hOl ho hlo hne hb3 HO5 HL5 HB5 HB6
       simp only[b8]at cl
       have t1:(((t+1:Nat)):Int)-1=(t:Int):=by omega
       rw[t1]
       have tl:(t:Int)<(k2:Int):=by omega
       go_wp2_with (at_builtin;refine wpList_append_rd rfl _ _ 28 rfl b8_one w.heap.size 5 i0 _ 1 Tryz.underlying28 hi0 hz0 hz1 hz2 rfl _ _ rfl (HO7.out.alloc _) (wr.heap.size+1) _ 1 1 [x] rfl rfl (Rd.new b8 wr 5 [x]) (by rw[HOl.out];simp[maxLen];omega) (by rw[HOl.out];simp;omega) (by simp;omega) ?_;intro v7 w7 hown7 hg7 hbb7)
       go_roundw
       case rel=>
        refine⟨t,O++ [x],by omega,by go_num,HOe.out,by rw[List.length_append,HOl.out];simp;omega,hown7,?_,?_,hbb7 _ _ (Nat.le_refl _) (HB7.out.alloc hz3 _)⟩
        ·exact(HLo.out.alloc _).kept' hg7.by_ (fun g e hv=>HNe.out g hv e)
        ·intro b hb hb'
         rcases hg7.at_ with e|e
         ·rw[e]at hb';exact HNe.out b hb hb'
         ·rw[hb']at e;injection e with e;have:=(HLo.out.lt b hb).2;simp at e;omega
       case measure=>simp[intOf]
end Go.Proofs.YtelgjaiknaalkaaGreatDoor
