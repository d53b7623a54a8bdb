/- Lemmas, joined and made smaller by a program. -/
import Derived.Test.YtelgjaiknaalkaaDoorPo04
import Derived.Test.YtelgjaiknaalkaaDoorPo02
import Derived.OwnWalk
import Derived.RangeFuncNested
import Derived.RangeFuncBound
import Derived.RangeFuncLeaves
import Derived.RangeFuncBox
import Derived.Shelf.Abstract
import Derived.Shelf.RegionOpen
import Derived.OwnWalkIn
import Derived.TacticsInMore
import Derived.LoopNIn
import Derived.LoopIn
open Go.Lib renaming hid → qq
set_option linter.unusedVariables false
set_option linter.unusedSimpArgs false
namespace Go.Proofs.YtelgjaiknaalkaaDoor
open Go.RowKit
theorem own_zeros'{w:World}{B N:Nat}{v:Value}(h:w.ownsRow B 5 1 v N (madeCells (Value.int .u8 0).cells (N*1)).toList):Own b8 w B 5 v (List.replicate N 0#8):=by
 unfold Own
 rw[List.length_replicate]
 have e:(madeCells (Value.int .u8 0).cells (N*1)).toList=List.replicate N (b8 0#8):=by rw[Nat.mul_one];exact toList_madeCells_one _ _
 rw[e]at h
 rw[List.map_replicate]
 exact h
def lenB(v size k:Nat):List (BitVec 8):=List.replicate (size-k) 0#8++beN v k
theorem lenB_len(v size k:Nat)(hk:k≤size):(lenB v size k).length=size:=by
 unfold lenB;rw[List.length_append,List.length_replicate,beN_len];omega
theorem lenB_set(v size k j:Nat)(hj:size=j+1+k):(lenB v size k).set j (BitVec.ofNat 8 (v/256^k))=lenB v size (k+1):=by
 subst hj
 unfold lenB
 rw[show j+1+k-k=j+1 by omega,show j+1+k-(k+1)=j by omega,List.replicate_succ',List.append_assoc,List.set_append_right _ _ (by rw[List.length_replicate];exact Nat.le_refl _),List.length_replicate,Nat.sub_self]
 rfl
theorem len_byte(n k:Nat)(h:8*n<9223372036854775808):((BitVec.ofInt 64 (n:Int)<<<3)>>>(8*k)).setWidth 8=BitVec.ofNat 8 (8*n/256^k):=by
 apply BitVec.eq_of_toNat_eq
 rw[BitVec.toNat_setWidth,BitVec.toNat_ushiftRight,BitVec.toNat_shiftLeft,BitVec.ofInt_natCast,BitVec.toNat_ofNat,BitVec.toNat_ofNat,Nat.shiftRight_eq_div_pow,Nat.shiftLeft_eq,Nat.mod_eq_of_lt (a:=n) (by omega),show n*2^3=8*n by omega,Nat.mod_eq_of_lt (a:=8*n) (by omega),Nat.pow_mul]
theorem len_top(n:Nat)(h:8*n<9223372036854775808):(BitVec.ofInt 64 (n:Int)>>>61).setWidth 8=0#8:=by
 apply BitVec.eq_of_toNat_eq
 rw[BitVec.toNat_setWidth,BitVec.toNat_ushiftRight,BitVec.ofInt_natCast,BitVec.toNat_ofNat,Nat.shiftRight_eq_div_pow,Nat.mod_eq_of_lt (a:=n) (by omega),Nat.div_eq_of_lt (by omega)]
 rfl
theorem beN_top(v k:Nat)(h:v<256^8):∀j,j≤k→beN v (8+j)=List.replicate j 0#8++beN v 8
 |0,_=>rfl
 |j+1,hj=>by
  rw[show 8+(j+1)=(8+j)+1 from rfl,beN,beN_top v k h j (by omega),List.replicate_succ,List.cons_append]
  congr 1
  rw[Nat.div_eq_of_lt (Nat.lt_of_lt_of_le h (Nat.pow_le_pow_right (by omega) (by omega)))]
theorem lenB_8(v size:Nat)(hs:size=8∨size=16)(h:v<256^8):lenB v size 8=beN v size:=by
 rcases hs with rfl|rfl
 ·rfl
 ·rw[show 16=8+8 from rfl,beN_top v 8 h 8 (Nat.le_refl _)];rfl
theorem lenB_top(v:Nat):(lenB v 16 8).set 7 0#8=lenB v 16 8:=by
 unfold lenB
 rfl
set_option maxRecDepth 100000 in
theorem length_any(n size:Nat)(hs:size=8∨size=16)(hn:n≤1000000000)(w:World):
 Calls Tryd.prog 94 #[.int .i64 (n:Int),.int .i64 (size:Int)] w fun e w'=>∃v,e= .returned v∧Own b8 w' w.heap.size 5 v (beN (8*n) size)∧Below w.heap.size w w':=by
 obtain⟨i0,hi0,hz0,hz1,hz2⟩:=info_parts infoU8
 have hs2:8≤size∧size≤16:=by omega
 have HS:=qq hs
 clear hs
 have hcv:=ofint_u64 (n:Int)
 go_enter Tryd.func94,Tryd.ntmps94
 go_wp2_with (refine wpList_make_full _ rfl (.tmp 7) (.tmp 7) 33 rfl w.heap.size 5 i0 _ 1 Tryd.underlying33 hi0 hz0 hz1 .i64 .i64 (size:Int) (size:Int) size rfl rfl rfl rfl (by rw[hz2];omega) (by simp[maxLen];omega) (by simp) ?_;intro w3 hown3 hg3;have HO3:=qq (show Own b8 w3 w.heap.size 5 _ (lenB (8*n) size 0)from(own_zeros' hown3).cast (by unfold lenB beN;simp));have HG3:=qq (Below.grown (Below.refl _ w) hg3 (Nat.le_refl _) (fun k e=>by cases e));clear hown3 hg3)
 go_loopw [9] (fun i wr=>∃k:Nat,k≤8∧i= .int .i64 k∧Own b8 wr w.heap.size 5 (.slice (some ⟨w.heap.size,0,none⟩) size size) (lenB (8*n) size k)∧Below w.heap.size w wr) (fun i _=>8-(intOf i).toNat)
 case atStart=>exact⟨0,by omega,rfl,HO3.out,HG3.out⟩
 case round=>
  clear HO3 HG3
  obtain⟨k,hk,rfl,hown,hb⟩:=hrel
  have HO:=qq hown
  have HB:=qq hb
  clear hown hb
  by_cases hlt:k<8
  ·obtain⟨j,hj⟩:∃j,size=j+1+k:=⟨size-1-k,by omega⟩
   have hl:=lenB_len (8*n) size k (by omega)
   obtain⟨u,c1,f1⟩:∃u,wr.cell? ⟨w.heap.size,j,none⟩=some (b8 u)∧wr.frozen? ⟨w.heap.size,j,none⟩=false:=⟨_,HO.out.at_ (k:=j) (by omega)⟩
   have e1:((size:Int)-1-(k:Int))=(j:Int):=by omega
   have jlt:j<size:=by omega
   have HJ:=qq hj
   have HL:=qq hl
   clear hl hj
   go_wp2_with fail
   go_roundw
   case rel=>
    refine⟨k+1,by omega,by go_num,?_,?_⟩
    ·have h2:=(HO.out.set_ j (BitVec.ofNat 8 (8*n/256^k))).1
     rw[←len_byte n k (by omega)]at h2
     exact h2.cast (by rw[len_byte n k (by omega)];exact lenB_set _ _ _ _ HJ.out)
    ·exact HB.out.setCell (p:=⟨w.heap.size,j,none⟩) (Nat.le_refl _) _
   case measure=>simp[intOf];omega
  ·obtain rfl:k=8:=by omega
   rw[show(((8:Nat)):Int)=8 from rfl]
   rcases HS.out with rfl|rfl
   ·go_wp2_with fail
    go_ret
    exact⟨_,rfl,HO.out.cast (lenB_8 _ 8 (.inl rfl) (by omega)),HB.out⟩
   ·have hl:=lenB_len (8*n) 16 8 (by omega)
    obtain⟨u,c1,f1⟩:∃u,wr.cell? ⟨w.heap.size,7,none⟩=some (b8 u)∧wr.frozen? ⟨w.heap.size,7,none⟩=false:=⟨_,HO.out.at_ (k:=7) (by omega)⟩
    clear hl
    go_wp2_with fail
    go_ret
    refine⟨_,rfl,?_,HB.out.setCell (p:=⟨w.heap.size,7,none⟩) (Nat.le_refl _) _⟩
    have h2:=(HO.out.set_ 7 0#8).1
    rw[←len_top n (by omega)]at h2
    exact h2.cast (by rw[len_top n (by omega),lenB_top];exact lenB_8 _ 16 (.inr rfl) (by omega))
def lenIn:Value→Int
 | .slice _ n _=>n
 |_=>0
theorem padZ_end(n piece size k:Nat)(h:(piece=64∧size=8)∨(piece=128∧size=16))(hk:k<padZ n piece size):(n+1+k) % piece≠piece-size:=by
 unfold padZ at hk
 rcases h with⟨rfl,rfl⟩|⟨rfl,rfl⟩<;>omega
theorem padZ_hit(n piece size:Nat)(h:(piece=64∧size=8)∨(piece=128∧size=16)):(n+1+padZ n piece size) % piece=piece-size:=by
 unfold padZ
 rcases h with⟨rfl,rfl⟩|⟨rfl,rfl⟩<;>omega
theorem padZ_lt(n piece size:Nat)(h:(piece=64∧size=8)∨(piece=128∧size=16)):padZ n piece size<128:=by
 unfold padZ
 rcases h with⟨rfl,rfl⟩|⟨rfl,rfl⟩<;>omega
set_option maxRecDepth 100000 in
theorem padded_any(xs:List (BitVec 8))(n m piece size:Nat)(hps:(piece=64∧size=8)∨(piece=128∧size=16))(hn:n≤1000000000)(w:World)(B:Nat)(A:Option Addr)(c:Nat)(hr:Rd b8 w B A xs)(hB:B≤w.heap.size)(hm:m=xs.length)(hA:A=none→m=0∧c=0)(hbig:m≤100000000):
 Calls Tryd.prog 91 #[.slice A m c,.int .i64 (n:Int),.int .i64 (piece:Int),.int .i64 (size:Int)] w fun e w'=>∃v,e= .returned v∧Own b8 w' w.heap.size 5 v (padded xs n piece size)∧Below w.heap.size w w':=by
 obtain⟨i0,hi0,hz0,hz1,hz2⟩:=info_parts infoU8
 have HM:=qq hm
 have HR:=qq hr
 have HA:=qq hA
 have HPS:=qq hps
 have hb2:8≤size∧size≤16∧64≤piece∧piece≤128:=by omega
 clear hm hr hA hps
 go_enter Tryd.func91,Tryd.ntmps91
 go_wp2_with fail
 refine(clone_any w B A c m xs HR.out hB HM.out HA.out hbig).mono ?_
 rintro e w1 ⟨v1,rfl,hown1,hb1⟩
 have HO1:=qq hown1
 have HB1:=qq hb1
 have hz1':=hb1.size
 clear hown1 hb1
 go_wp2_with (at_builtin;refine wpList_append_rd rfl _ _ 33 rfl b8_one w.heap.size 5 i0 _ 1 Tryd.underlying33 hi0 hz0 hz1 hz2 rfl _ _ rfl (HO1.out.alloc _) (w1.heap.size+1) _ 1 1 [128#8] rfl rfl (Rd.new b8 w1 5 [128#8]) (by have:=HM.out;simp[maxLen];omega) (by have:=HM.out;simp;omega) (by simp;omega) ?_;intro v2 w2 hown2 hg2 hbb2;have HO2:=qq hown2;have HB2:=qq (hbb2 _ _ (Nat.le_refl _) (HB1.out.alloc hz1' _));clear hown2 hg2 hbb2)
 go_loopw [9] (fun v wr=>∃k:Nat,k≤padZ m piece size∧Own b8 wr w.heap.size 5 v (xs++128#8::List.replicate k 0#8)∧Below w.heap.size w wr) (fun v _=>m+1+128-(lenIn v).toNat)
 case atStart=>exact⟨0,Nat.zero_le _,HO2.out,HB2.out⟩
 case round=>
  clear HO2 HB2
  obtain⟨k,hk,hown,hb⟩:=hrel
  obtain⟨L,hL⟩:∃L,L=m+1+k:=⟨_,rfl⟩
  have hlen:(xs++128#8::List.replicate k 0#8).length=L:=by simp;rw[hL,HM.out];omega
  have hpl:=padZ_lt m piece size HPS.out
  obtain⟨A1,c1,rfl,-,-,-,-⟩:=hown.shape' hlen
  have hz:=hb.size
  have HO:=qq hown
  have HB:=qq hb
  have HLn:=qq hlen
  clear hown hb hlen
  have hlb:L≤200000000:=by omega
  have hdiv:(L:Int).tmod (piece:Int)=((L % piece:Nat):Int):=by rw[Int.tmod_eq_emod_of_nonneg (by omega)];omega
  by_cases hlt:k<padZ m piece size
  ·have hne:=padZ_end m piece size k HPS.out hlt
   rw[←hL]at hne
   have HL:=qq hL
   have hcmp:(((L % piece:Nat):Int) !=(piece:Int)-(size:Int))=true:=by simp only[bne_iff_ne,ne_eq];omega
   clear hL hne hk
   generalize L % piece=q at hdiv hcmp
   go_wp2_with (at_builtin;refine wpList_append_rd rfl _ _ 33 rfl b8_one w.heap.size 5 i0 _ 1 Tryd.underlying33 hi0 hz0 hz1 hz2 rfl _ _ rfl (HO.out.alloc _) (wr.heap.size+1) _ 1 1 [0#8] rfl rfl (Rd.new b8 wr 5 [0#8]) (by have:=HLn.out;rw[this];simp[maxLen];omega) (by have:=HLn.out;rw[this];simp;omega) (by simp;omega) ?_;intro v7 w7 hown7 hg7 hbb7)
   have hlen7:((xs++128#8::List.replicate k 0#8)++ [0#8]).length=L+1:=by rw[List.length_append,HLn.out];rfl
   obtain⟨A7,c7,rfl,-,-,-,-⟩:=hown7.shape' hlen7
   go_roundw
   case rel=>exact⟨k+1,by omega,by rw[List.replicate_succ',←List.cons_append,←List.append_assoc];exact hown7,hbb7 _ _ (Nat.le_refl _) (HB.out.alloc hz _)⟩
   case measure=>have:=HL.out;simp[lenIn];omega
  ·have hke:k=padZ m piece size:=by omega
   have hhit:=padZ_hit m piece size HPS.out
   rw[←hke,←hL]at hhit
   have hcmp:(((L % piece:Nat):Int) !=(piece:Int)-(size:Int))=false:=by simp only[bne_eq_false_iff_eq];omega
   have HL:=qq hL
   have HK:=qq hke
   clear hL hke hhit hk hlt
   generalize L % piece=q at hdiv hcmp
   have hsz:size=8∨size=16:=by have:=HPS.out;omega
   have HSz:=qq hsz
   clear hsz
   go_wp2_with fail
   refine(length_any n size HSz.out hn _).mono ?_
   rintro e w5 ⟨v5,rfl,hown5,hb5⟩
   have hbl:=beN_len (8*n) size
   obtain⟨A5,c5,rfl,-,-,-,-⟩:=hown5.shape' hbl
   have HO5:=qq hown5
   have HB5:=qq hb5
   have HBl:=qq hbl
   have HOk:=qq (HO.out.below hb5 (Nat.le_refl _))
   have hz5:=hb5.size
   clear hown5 hb5 hbl
   go_wp2_with (at_builtin;refine wpList_append_rd rfl _ _ 33 rfl b8_one w.heap.size 5 i0 _ 1 Tryd.underlying33 hi0 hz0 hz1 hz2 rfl _ _ rfl HOk.out w5.heap.size A5 size c5 (beN (8*n) size) rfl HBl.out.symm HO5.out.rd (by have:=HLn.out;rw[this,HBl.out];simp[maxLen];omega) (by have:=HLn.out;rw[this,HBl.out];simp;omega) (by omega) ?_;intro v7 w7 hown7 hg7 hbb7)
   go_ret
   refine⟨_,rfl,hown7.cast ?_,hbb7 _ _ (Nat.le_refl _) (HB.out.trans (HB5.out.mono hz))⟩
   unfold padded
   rw[←HM.out,HK.out]
   simp
theorem pieces_succ{n:Nat}(c:Sha n)(j:Nat)(bs:List (BitVec 8))(s:S8 n):c.pieces (j+1) bs s=c.piece (c.pieces j bs s) ((bs.drop (j*c.size)).take c.size):=by
 rw[Sha.pieces_add];rfl
def DigT(w:World)(g B:Nat)(t:List (BitVec 8)):Prop:=∃rv,Dig w g (sha32.pieces (t.length/64) t begin32).list rv (t.length:Nat)∧Own b8 w B 5 rv (t.drop (64*(t.length/64)))
theorem DigT.lt{w:World}{g B:Nat}{t:List (BitVec 8)}(h:DigT w g B t):g<w.heap.size:=by obtain⟨rv,h1,_⟩:=h;exact h1.lt
theorem DigT.below{w w':World}{g B C:Nat}{t:List (BitVec 8)}(h:DigT w g B t)(hb:Below C w w')(hC:w.heap.size≤C):DigT w' g B t:=by
 obtain⟨rv,h1,h2⟩:=h
 exact⟨rv,h1.below hb (Nat.lt_of_lt_of_le h1.lt hC),h2.below hb hC⟩
theorem DigT.less{w:World}{g B B':Nat}{t:List (BitVec 8)}(h:DigT w g B t)(hB:B'≤B):DigT w g B' t:=by
 obtain⟨rv,h1,h2⟩:=h
 exact⟨rv,h1,h2.less hB⟩
theorem DigT.nil_{w:World}{g B:Nat}(h:Dig w g begin32.list (.slice none 0 0) 0):DigT w g B []:=⟨_,h,Own.nil_ _ _ _ _⟩
theorem Dig.not_row{α:Type}{f:α→Value}{w:World}{g B e:Nat}{s:List (BitVec 32)}{rv v:Value}{n:Int}{xs:List α}(h:Dig w g s rv n)(hte:165≠e)(hr:Own f w B e v xs):some g≠v.ownBlock:=h.2.not_row hte hr
theorem digT_add(t xs:List (BitVec 8)):let h:=t.length/64;let a:=t.drop (64*h)++xs;let j:=a.length/64;
 sha32.pieces j a (sha32.pieces h t begin32)=sha32.pieces ((t++xs).length/64) (t++xs) begin32∧a.drop (64*j)=(t++xs).drop (64*((t++xs).length/64)):=by
 intro h a j
 have hh:64*h≤t.length:=Nat.mul_div_le _ _
 have hd:(t++xs).drop (64*h)=a:=by rw[List.drop_append_of_le_length hh]
 have ha:a.length=t.length-64*h+xs.length:=by show(t.drop (64*h)++xs).length=_;rw[List.length_append,List.length_drop]
 have e:(t++xs).length/64=h+j:=by
  show _=h+a.length/64
  rw[List.length_append,ha];omega
 rw[e,Sha.pieces_add,show sha32.size=64 from rfl,Nat.mul_comm h 64,hd,Sha.pieces_app sha32 h t xs begin32 (by show h*64≤_;omega)]
 refine⟨rfl,?_⟩
 rw[←hd,List.drop_drop];congr 1;omega
theorem getD_drop_take(a:List (BitVec 8))(o m i:Nat)(h:i<m)(h2:o+i<a.length):((a.drop o).take m).getD i 0#8=a[o+i]:=by
 rw[List.getD,List.getElem?_take,if_pos h,List.getElem?_drop,List.getElem?_eq_getElem h2];rfl
theorem below_grown{a w w':World}{r:Option Nat}(h:a.grownBy w r)(hb:Below w.heap.size w w'):a.grownBy w' r:=⟨hb.os.trans h.os,hb.tape.trans h.tape,hb.output.trans h.output,Nat.le_trans h.size hb.size,fun i hi hne=>(hb.block i (Nat.lt_of_lt_of_le hi h.size)).trans (h.block i hi hne)⟩
set_option maxRecDepth 100000 in
set_option maxHeartbeats 2000000 in
theorem add_any(w:World)(g B Bx n c:Nat)(A:Option Addr)(t xs:List (BitVec 8))(hd:DigT w g B t)(hB:B≤w.heap.size)(hr:Rd b8 w Bx A xs)(hBx:Bx≤w.heap.size)(hn:n=xs.length)(hgx:∀a,0<xs.length→A=some a→a.block≠g)(hbig:t.length+xs.length≤50000000):
 Calls Tryd.prog 84 #[.pointer (some ⟨g,0,none⟩),.slice A n c] w fun e w'=>e= .returned (.tuple #[])∧DigT w' g w.heap.size (t++xs)∧w.grownBy w' (some g):=by
 obtain⟨rv,hd,hown⟩:=hd
 obtain⟨h,hh⟩:∃h,h=t.length/64:=⟨_,rfl⟩
 rw[←hh]at hd hown
 obtain⟨nr,hnr⟩:∃nr,nr=(t.drop (64*h)).length:=⟨_,rfl⟩
 obtain⟨Ar,cr,rfl,hrr,hAr,hcr,-⟩:=hown.shape' hnr.symm
 have hlaw:=digT_add t xs
 simp only[←hh]at hlaw
 obtain⟨S,hS⟩:∃S,S=sha32.pieces h t begin32:=⟨_,rfl⟩
 obtain⟨N,hN⟩:∃N,N=t.length:=⟨_,rfl⟩
 rw[←hS,←hN]at hd
 rw[←hS]at hlaw
 have hNn:N+n≤50000000:=by omega
 have c8:=hd.rest
 have c9:=hd.count
 have f9:=hd.frozen 9
 have f8:=hd.frozen 8
 have hnb:=hd.not_row (by decide) hown
 have HNb:=qq hnb
 have HD:=qq hd
 have HO:=qq hown
 have HR:=qq hr
 have HRr:=qq hrr
 have HN:=qq hn
 have HNr:=qq hnr
 have HG:=qq hgx
 have HLaw:=qq hlaw
 have HNN:=qq hN
 have Hh:=qq hh
 have hgl:=hd.lt
 clear hd hown hr hrr hn hnr hgx hlaw hS hh hnb hAr hbig hN
 go_enter Tryd.func84,Tryd.ntmps84
 go_wp2_with fail
 obtain⟨W1,hW1⟩:∃W1,W1=w.setCell ⟨g,9,none⟩ (.int .i64 ((N:Int)+(n:Int))):=⟨_,rfl⟩
 have hG1:w.grownBy W1 (some g):=by rw[hW1];exact grown_set (World.grownBy.refl w _) (.inl rfl) _
 have hD1:Dig W1 g S.list (.slice Ar nr cr) ((N:Int)+(n:Int)):=by rw[hW1];exact HD.out.setCount _
 have hO1:Own b8 W1 B 5 (.slice Ar nr cr) (t.drop (64*h)):=HO.out.kept hG1 (.inr (fun e=>HNb.out e.symm))
 have hR1:Rd b8 W1 Bx A xs:=fun hn=>by
  obtain⟨b,off,e,hb,hc⟩:=HR.out hn
  exact⟨b,off,e,hb,fun j u hu=>(cell_grown hG1 (a:=⟨b,off+j,none⟩) (by show b<_;omega) (by have:=HG.out _ hn e;simpa using this)).trans (hc j u hu)⟩
 have hz1:W1.heap.size=w.heap.size:=by rw[hW1,World.size_setCell]
 rw[←hW1]
 generalize hW2:W1.alloc (.cells #[.slice Ar nr cr,.slice A n c] 33)=W2
 have hP:Pts W2 W1.heap.size W1.heap.size 0 [((Ar,nr,cr),t.drop (64*h)),((A,n,c),xs)]:=by
  refine⟨?_,by rw[←hW2];simp,?_,?_⟩
  ·intro k u hu
   rw[←hW2,Nat.zero_add,cell_of_row _ W1.heap.size k _ 33 (0,0) (heap_alloc_new W1 _)]
   match k,hu with
   |0,hu=>cases hu;rfl
   |1,hu=>cases hu;rfl
  ·intro u hu
   rw[←hW2]
   simp only[List.mem_cons,List.not_mem_nil,or_false]at hu
   rcases hu with rfl|rfl
   ·exact(hO1.rd.alloc (Nat.le_refl _) _)
   ·exact(hR1.alloc (by omega) _).more (by omega)
  ·intro u hu
   simp only[List.mem_cons,List.not_mem_nil,or_false]at hu
   rcases hu with rfl|rfl
   ·exact HNr.out
   ·exact HN.out
 have hD2:Dig W2 g S.list (.slice Ar nr cr) ((N:Int)+(n:Int)):=by rw[←hW2];exact hD1.alloc _
 have hG2:w.grownBy W2 (some g):=by rw[←hW2];exact grown_alloc hG1 _
 have hz2:W2.heap.size=w.heap.size+1:=by rw[←hW2,World.size_alloc,hz1]
 obtain⟨a,ha⟩:∃a,a=t.drop (64*h)++xs:=⟨_,rfl⟩
 have hal:a.length≤50000000:=by rw[ha,List.length_append,←HNr.out,←HN.out];have:=HNN.out;have:=HNr.out;rw[List.length_drop]at this;omega
 have hcat:=concat_any W2 W1.heap.size W1.heap.size 0 2 2 _ hP (by omega) rfl (by omega) (by rw[show(List.flatMap (fun p:Pt=>p.2) [((Ar,nr,cr),t.drop (64*h)),((A,n,c),xs)])=a by rw[ha];simp];exact hal)
 rw[show(List.flatMap (fun p:Pt=>p.2) [((Ar,nr,cr),t.drop (64*h)),((A,n,c),xs)])=a by rw[ha];simp]at hcat
 rw[hz1]at hcat
 have HCat:=qq hcat
 have HD2:=qq hD2
 have HG2:=qq hG2
 have HA:=qq ha
 have HZ2:=qq hz2
 have HAl:=qq hal
 clear hW1 hG1 hD1 hO1 hR1 hz1 hW2 hP hD2 hG2 hcat ha hz2 hal
 refine HCat.out.mono ?_
 rintro e w3 ⟨v3,rfl,hown3,hb3⟩
 obtain⟨T,hT⟩:∃T,T=a.length:=⟨_,rfl⟩
 obtain⟨A3,c3,rfl,hr3,hA3,hc3,hm3⟩:=hown3.shape' hT.symm
 have hz3:=hb3.size
 have hD3:=HD2.out.below hb3 (by have:=HZ2.out;omega)
 have hG3:=below_grown HG2.out hb3
 have HO3:=qq hown3
 have HD3:=qq hD3
 have HG3:=qq hG3
 have HT:=qq hT
 have HA3:=qq hA3
 have hz3':w.heap.size<w3.heap.size:=by have:=HZ2.out;omega
 have HZ3:=qq hz3
 clear hown3 hb3 hD3 hG3 hT hA3 hr3 hz3 HCat HD2 HG2
 have hTb:T≤50000000:=by rw[HT.out];exact HAl.out
 go_wp2_with fail
 refine(shorts_any _).mono ?_
 rintro e w4 ⟨rfl,hb4⟩
 have hz4:=hb4.size
 have HK0:=qq (show Arr w32 (w4.alloc (.cells ((List.replicate 64 0#32).map w32).toArray 168)) w4.heap.size 168 (List.replicate 64 0#32)from Arr.new w32 w4 _ _)
 have HO4:=qq (HO3.out.below hb4 (Nat.le_refl _))
 have HD4:=qq ((HD3.out.below hb4 (by omega)).alloc (.cells ((List.replicate 64 0#32).map w32).toArray 168))
 have HG4:=qq (grown_alloc (below_grown HG3.out hb4) (.cells ((List.replicate 64 0#32).map w32).toArray 168))
 clear hb4 HO3 HD3 HG3
 go_wp2_with (refine wpList_store_arr rfl 168 _ _ rfl w4.heap.size rfl K32 rfl _ _ HK0.out (by kernel_rfl) (by rw[size64,K32_len]) w32_one ?_;intro w5 hx5 hg5)
 have hz5:w4.heap.size+1≤w5.heap.size:=by have:=hg5.size;rw[World.size_alloc]at this;exact this
 have HK5:=qq hx5
 have HO5:=qq ((HO4.out.alloc _).kept' hg5 (fun g' e hv=>by cases e;have:=(HO4.out.lt _ hv).2;omega))
 have HD5:=qq (HD4.out.grown hg5 (by simp;omega))
 have HG5:=qq (show w.grownBy w5 (some g)from grownBy_trans HG4.out hg5 (fun g' e=>by cases e;exact .inr (by omega)))
 clear hx5 hg5 HK0 HO4 HD4 HG4
 have hgkg:g<w4.heap.size:=by omega
 go_frame
 go_loopw [4] (fun v wr=>∃(j:Nat) (A':Option Addr) (c':Nat),v= .slice A' (T-64*j) c'∧64*j≤T∧T-64*j≤c'∧(0<T-64*j→∃b,A3=some ⟨b,0,none⟩∧A'=some ⟨b,64*j,none⟩)∧(A'=none→T-64*j=0∧c'=0)∧
  Own b8 wr w.heap.size 5 (.slice A3 T c3) a∧Dig wr g (sha32.pieces j a S).list (.slice Ar nr cr) ((N:Int)+(n:Int))∧Arr w32 wr w4.heap.size 168 K32∧w.grownBy wr (some g)) (fun v _=>(lenIn v).toNat)
 case atStart=>
  refine⟨0,A3,c3,by simp,by omega,by omega,?_,fun e=>?_,HO5.out.less (by have:=HZ2.out;omega),HD5.out,HK5.out,HG5.out⟩
  ·intro hp
   obtain⟨g',cap,e,-⟩:=HO5.out.form' HT.out.symm (by omega)
   injection e with e1
   exact⟨g',e1,by rw[e1]⟩
  ·have h0:=HA3.out e
   omega
 case round=>
  obtain⟨j,A',c',rfl,hjT,hjc,hA',hAn,ho,hdg,hka,hgr⟩:=hrel
  clear HO5 HD5 HG5 HK5
  have HOa:=qq ho
  have HDa:=qq hdg
  have HKa:=qq hka
  have HGa:=qq hgr
  have HA':=qq hA'
  have HAn:=qq hAn
  have hgw:=hgr.size
  clear ho hdg hka hgr hA' hAn
  obtain⟨L,hL⟩:∃L,L=T-64*j:=⟨_,rfl⟩
  rw[←hL]at hjc ⊢
  have HL:=qq hL
  clear hL
  by_cases hlt:64≤L
  ·obtain⟨b,e3,rfl⟩:=HA'.out (by rw[←HL.out];omega)
   have hLT:64*j+L=T:=by have:=HL.out;omega
   have hc64:64≤c':=by omega
   have hge:¬((L:Int)<64):=by omega
   have hcell:∀i,i<64→wr.cell? ⟨b,64*j+i,none⟩=some (b8 (((a.drop (64*j)).take 64).getD i 0#8)):=fun i hi=>by
    have h1:=HOa.out
    rw[e3]at h1
    have h2:64*j+i<a.length:=by rw[←HT.out];omega
    rw[getD_drop_take _ _ _ _ hi h2]
    exact(h1.at_ h2).1
   have hpl:((a.drop (64*j)).take 64).length=64:=by rw[List.length_take,List.length_drop,←HT.out];omega
   have hbl:b<wr.heap.size∧w.heap.size≤b:=by
    have h1:=HOa.out
    rw[e3]at h1
    have:=h1.lt b rfl
    omega
   have hpc:=piece_any g w4.heap.size b (64*j) c' (sha32.pieces j a S) (.slice Ar nr cr) ((N:Int)+(n:Int)) ((a.drop (64*j)).take 64) wr HDa.out HKa.out hpl hbl.1 hcell
   rw[show sha32.piece (sha32.pieces j a S) ((a.drop (64*j)).take 64)=sha32.pieces (j+1) a S by rw[pieces_succ,show sha32.size=64 from rfl,Nat.mul_comm j 64]]at hpc
   have HPc:=qq hpc
   have HE3:=qq e3
   clear hcell hpl hpc e3
   go_wp2_with fail
   refine HPc.out.mono ?_
   rintro e w6 ⟨rfl,hd6,hg6⟩
   have hbg:b≠g:=by omega
   have HO6:=qq (HOa.out.kept' hg6 (fun g' e hv=>by cases e;rw[HE3.out]at hv;exact hbg (by simpa[Value.ownBlock]using hv)))
   have HK6:=qq (HKa.out.grown hg6 (by simp;omega))
   have HG6:=qq (show w.grownBy w6 (some g)from grownBy_trans HGa.out hg6 (fun g' e=> .inl e))
   have HD6:=qq hd6
   clear hd6 hg6
   have hL64:((L-64:Nat):Int)=(L:Int)-64:=by omega
   by_cases hcc:c'=64
   ·subst hcc
    obtain rfl:L=64:=by omega
    go_wp2_with fail
    go_roundw
    case rel=>exact⟨j+1,_,0,by congr 1;omega,by omega,by omega,fun h=>by omega,(fun e=>by cases e),HO6.out,HD6.out,HK6.out,HG6.out⟩
    case measure=>simp[lenIn]
   ·have hcn:¬(64=c'):=fun e=>hcc e.symm
    go_wp2_with fail
    go_roundw
    case rel=>exact⟨j+1,_,c'-64,by congr 1;omega,by omega,by omega,fun _=>⟨b,HE3.out,by rw[Nat.mul_succ]⟩,(fun e=>by cases e),HO6.out,HD6.out,HK6.out,HG6.out⟩
    case measure=>simp[lenIn];omega
  ·have hge:(L:Int)<64:=by omega
   have hjj:j=a.length/64:=by have:=HL.out;have:=HT.out;omega
   have hrd:Rd b8 wr wr.heap.size A' (a.drop (64*j)):=fun hp=>by
    rw[List.length_drop,←HT.out]at hp
    obtain⟨b,e3,e4⟩:=HA'.out (by omega)
    have h1:=HOa.out
    rw[e3]at h1
    refine⟨b,64*j,e4,(h1.lt b rfl).2,fun i u hu=>?_⟩
    rw[List.getElem?_drop]at hu
    have:=(h1.at_ (List.getElem?_eq_some_iff.1 hu).1).1
    rw[(List.getElem?_eq_some_iff.1 hu).2]at this
    exact this
   have hcl:=clone_any wr wr.heap.size A' c' L (a.drop (64*j)) hrd (Nat.le_refl _) (by rw[List.length_drop,←HT.out];exact HL.out) (fun e=>by have:=HAn.out e;have:=HL.out;omega) (by omega)
   have HCl:=qq hcl
   have HJ:=qq hjj
   clear hrd hcl hjj
   go_wp2_with fail
   refine HCl.out.mono ?_
   rintro e w6 ⟨v6,rfl,hown6,hb6⟩
   obtain⟨n6,hn6⟩:∃n6,n6=(a.drop (64*j)).length:=⟨_,rfl⟩
   obtain⟨A6,c6,rfl,-,-,-,-⟩:=hown6.shape' hn6.symm
   have HD6:=qq (HDa.out.below hb6 (by omega))
   have HO6:=qq hown6
   have HG6:=qq (below_grown HGa.out hb6)
   have c8':=HD6.out.rest
   have f8':=HD6.out.frozen 8
   clear hown6 hb6 hn6
   go_wp2_with fail
   go_end0
   have hset:=HD6.out.setRest (.slice A6 n6 c6)
   obtain⟨law1,law2⟩:=HLaw.out
   rw[←HA.out,←HJ.out]at law1 law2
   refine⟨rfl,⟨.slice A6 n6 c6,?_,?_⟩,grown_set HG6.out (.inl rfl) _⟩
   ·rw[←law1]
    have e:(((t++xs).length:Nat):Int)=(N:Int)+(n:Int):=by rw[List.length_append,HNN.out,HN.out];omega
    rw[e];exact hset
   ·rw[←law2]
    exact(HO6.out.kept (grown_set (World.grownBy.refl w6 (some g)) (.inl rfl) (.slice A6 n6 c6) (p:=⟨g,8,none⟩)) (.inr (fun e=>(HD6.out.not_row (by decide) HO6.out) e.symm))).less (by have:=HGa.out.size;omega)
attribute [local go_sem] Oper.semAt_some
theorem chunk_any(A:Option Addr)(n c q:Nat)(hq:1≤q)(hq2:q≤1000)(w:World):
 Calls Tryd.prog 64 #[.slice A n c,.int .i64 (q:Int)] w fun e w'=>e= .returned (.func (.func 73) #[] #[.pointer (some ⟨w.heap.size,0,none⟩),.pointer (some ⟨w.heap.size+1,0,none⟩)])∧
  w'=(w.alloc (.cells #[.slice A n c] 33)).alloc (.cells #[.int .i64 (q:Int)] 3):=by
 have h1:¬((q:Int)<1):=by omega
 go_enter Tryd.func64,Tryd.ntmps64
 go_wp2_with fail
 go_ret
 exact⟨rfl,rfl⟩
abbrev Ci(N:Nat):={i:Nat//i<N}
def encC(b q:Nat){N:Nat}(x:Ci N):Array Value:= #[.slice (some ⟨b,q*x.1,none⟩) q q]
def KpC(n₀ bs bn:Nat)(A B:World):Prop:=Below n₀ A B∧B.heap[bs]?=A.heap[bs]?∧B.heap[bn]?=A.heap[bn]?
theorem KpC.t{n₀ bs bn:Nat}{A B C:World}(h:KpC n₀ bs bn A B)(k:KpC n₀ bs bn B C):KpC n₀ bs bn A C:=⟨h.1.trans k.1,k.2.1.trans h.2.1,k.2.2.trans h.2.2⟩
theorem boxed_bl{w w':World}{B:Nat}{t:TypeId}{v:Value}(h:Boxed w B t v)(hb:Below w.heap.size w w'):Boxed w' B t v:=(hb.block B h.lt).trans h
theorem grown_none2{w w':World}(hb:Below w.heap.size w w'):w.grownBy w' none:=⟨hb.os,hb.tape,hb.output,hb.size,fun k hk _=>hb.block k hk⟩
set_option maxRecDepth 100000 in
set_option maxHeartbeats 1000000 in
theorem chunk1_in(m:Nat)(hm:3≤m)(b c q N l bs bn n₀:Nat)(hq:1≤q)(hq2:q≤1000)(hN:q*N≤1000000000)(hc:q*N≤c)(J Jx:List (Ci N)→World→Prop)(W:World)(hJ:AbidesFrom W.heap.size J)
 (hY:∀pre y W1,J pre W1→pre.length<N→YieldAt Fence.wide (m-1) Tryd.prog l (encC b q y) W1 fun e W'=>
  (e= .returned (.bool true)∧J (pre++ [y]) W'∧KpC n₀ bs bn W1 W')∨(e= .returned (.bool false)∧Jx (pre++ [y]) W'))
 (hbs:Boxed W bs 33 (.slice (some ⟨b,0,none⟩) (q*N) c))(hbn:Boxed W bn 3 (.int .i64 (q:Int)))(h0:J [] W):
 CallsIn Fence.wide m Tryd.prog 73 #[.func (.yield l) #[] #[],.pointer (some ⟨bs,0,none⟩),.pointer (some ⟨bn,0,none⟩)] W fun e W'=>(∃v,e= .returned v)∧
  ((∃ys:List (Ci N),ys.map Subtype.val=List.range N∧J ys W')∨(∃pre:List (Ci N),True∧Jx pre W')):=by
 refine callsIn_of_wp Tryd.func73 rfl trivial ?_ rfl
 simp only[Tryd.ntmps73,List.size_toArray,List.length_cons,List.length_nil,Nat.reduceAdd,Nat.reduceSub,Array.replicate_succ,Array.replicate_zero,List.push_toArray,List.append_toArray,List.nil_append,List.cons_append]
 obtain⟨L,hL⟩:∃L,L=q*N:=⟨_,rfl⟩
 rw[←hL]at hbs hN hc
 have HJ:=qq hJ
 have HY:=qq hY
 have H0:=qq h0
 have HBs:=qq hbs
 have HBn:=qq hbn
 have HL:=qq hL
 have hm1:1≤m:=by omega
 have hm2:1≤m-1:=by omega
 clear hJ hY h0 hbs hbn hL
 gi_wp2_with fail
 gi_loopw [4] (fun v wr=>∃(k p:Nat) (pre:List (Ci N)),p=q*k∧v= .int .i64 (p:Int)∧k≤N∧p≤L∧pre.map Subtype.val=List.range k∧J pre wr∧Boxed wr bs 33 (.slice (some ⟨b,0,none⟩) L c)∧Boxed wr bn 3 (.int .i64 (q:Int))) (fun v _=>(L-intOf v).toNat)
 case atStart=>exact⟨0,0,[],by simp,rfl,by omega,by omega,rfl,H0.out,HBs.out,HBn.out⟩
 case round=>
  obtain⟨k,p,pre,hp,rfl,hkN,hpL,hpre,hJs,hbs,hbn⟩:=hrel
  have cs:=hbs.cell
  have cn:=hbn.cell
  have HBs2:=qq hbs
  have HBn2:=qq hbn
  have HJs:=qq hJs
  have Hpre:=qq hpre
  have Hp:=qq hp
  clear hbs hbn hJs hpre hp
  by_cases hlt:k<N
  ·have hle:p+q≤L:=by
    rw[Hp.out,HL.out,←Nat.mul_succ];exact Nat.mul_le_mul_left q hlt
   have hmin:min (q:Int) ((L-p:Nat):Int)=(q:Int):=by omega
   have hpc:¬(c=p):=by omega
   gi_wp2_with fail
   refine wpIn_wide.2 ?_
   go_quiet (fail)
   have HJ2:=qq (HJ.out _ _ _ none HJs.out (show wr.grownBy (wr.drewN nq) none from⟨rfl,rfl,rfl,Nat.le_refl _,fun _ _ _=>rfl⟩) (fun r e=>by cases e))
   have HBs3:=qq (show Boxed (wr.drewN nq) bs 33 (.slice (some ⟨b,0,none⟩) L c)from HBs2.out)
   have HBn3:=qq (show Boxed (wr.drewN nq) bn 3 (.int .i64 (q:Int))from HBn2.out)
   clear HJs HBs2 HBn2 cs cn
   generalize wr.drewN nq=wv at HJ2 HBs3 HBn3 ⊢
   have cs:=HBs3.out.cell
   have cn:=HBn3.out.cell
   obtain⟨fn,tmps,assign,body,hy,hR⟩:=HY.out pre ⟨k,hlt⟩ wv HJ2.out (by have:=congrArg List.length Hpre.out;rw[List.length_map,List.length_range]at this;omega)
   dsimp only[encC]at hy
   rw[←Hp.out]at hy
   have HRn:=qq hR
   clear hR
   gi_wp2_with fail
   refine HRn.out.mono ?_
   rintro e w3 (⟨rfl,hJ3,hk3,hks,hkn⟩|⟨rfl,hJx3⟩)
   ·have hbs3:Boxed w3 bs 33 (.slice (some ⟨b,0,none⟩) L c):=hks.trans HBs3.out
    have hbn3:Boxed w3 bn 3 (.int .i64 (q:Int)):=hkn.trans HBn3.out
    have cn3:=hbn3.cell
    have HB1:=qq hbs3
    have HB2:=qq hbn3
    have HJ3:=qq hJ3
    clear hbs3 hbn3 hks hkn hJ3 hk3
    gi_wp2_with fail
    go_roundw
    case rel=>
     refine⟨k+1,p+q,pre++ [⟨k,hlt⟩],by rw[Hp.out,Nat.mul_succ],by go_num,hlt,hle,?_,HJ3.out,HB1.out,HB2.out⟩
     rw[List.map_append,Hpre.out,List.range_succ];rfl
    case measure=>simp[intOf];omega
   ·gi_wp2_with fail
    refine bodyPost_ret (results_none rfl _ _ _) rfl ?_
    exact⟨⟨_,rfl⟩,.inr ⟨_,trivial,hJx3⟩⟩
  ·obtain rfl:k=N:=by omega
   have hpL2:p=L:=by rw[Hp.out,HL.out]
   subst hpL2
   gi_wp2_with fail
   go_end0
   exact⟨⟨_,rfl⟩,.inl ⟨pre,Hpre.out,HJs.out⟩⟩
theorem chunk_stops(m:Nat)(hm:3≤m)(b c q N bs bn n₀:Nat)(hq:1≤q)(hq2:q≤1000)(hN:q*N≤1000000000)(hc:q*N≤c)(w:World)
 (hbs:Boxed w bs 33 (.slice (some ⟨b,0,none⟩) (q*N) c))(hbn:Boxed w bn 3 (.int .i64 (q:Int))):
 SeqStopsK Fence.wide m Tryd.prog 73 #[.pointer (some ⟨bs,0,none⟩),.pointer (some ⟨bn,0,none⟩)] (fun x:Ci N=>encC b q x) (KpC n₀ bs bn) (fun ys=>ys.map Subtype.val=List.range N) (fun _=>True) N w:=fun l J Jx W hW hJ _ hY h0=>
 chunk1_in m hm b c q N l bs bn n₀ hq hq2 hN hc J Jx W hJ hY (boxed_bl hbs hW) (boxed_bl hbn hW) h0
end Go.Proofs.YtelgjaiknaalkaaDoor
