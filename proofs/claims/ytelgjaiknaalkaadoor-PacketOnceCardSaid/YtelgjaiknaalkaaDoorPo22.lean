/- Lemmas, joined and made smaller by a program. -/
import Derived.Test.YtelgjaiknaalkaaDoorPo21
open Go.Lib renaming hid → qq
set_option linter.unusedVariables false
set_option linter.unusedSimpArgs false
namespace Go.Proofs.YtelgjaiknaalkaaDoor
open Go.RowKit
def outOf(n most:Int):Bool:=decide (n<0)||decide (most<n)
theorem numberO_in{w:World}{B g:Nat}{xs:List (BitVec 8)}{bad:Bool}(hP:Pen w B g xs bad)(n:Int)(s:Nat)(si:Int)(hsi:si=(s:Int))(most:Int)(hn1: -9223372036854775808≤n)(hn2:n<9223372036854775808)(hs:s≤8)(hx:xs.length≤1000000000):
 Calls Tryd.prog 32 #[.pointer (some ⟨g,0,none⟩),.int .i64 n,.int .i64 si,.int .i64 most] w fun e w'=>e= .returned (.tuple #[])∧Pen w' B g (xs++be n s) (bad||outOf n most)∧Below B w w'∧Oth w w':=by
 subst hsi
 exact numberO_any hP n s most hn1 hn2 hs hx
theorem number_in{w:World}{B g:Nat}{xs:List (BitVec 8)}{bad:Bool}(hP:Pen w B g xs bad)(n:Int)(s:Nat)(si:Int)(hsi:si=(s:Int))(most:Int)(hn1: -9223372036854775808≤n)(hn2:n<9223372036854775808)(hs:s≤8)(hx:xs.length≤1000000000):
 Calls Tryd.prog 32 #[.pointer (some ⟨g,0,none⟩),.int .i64 n,.int .i64 si,.int .i64 most] w fun e w'=>e= .returned (.tuple #[])∧Pen w' B g (xs++be n s) (bad||outOf n most)∧Below B w w':=
 (numberO_in hP n s si hsi most hn1 hn2 hs hx).mono fun _ _ h=>⟨h.1,h.2.1,h.2.2.1⟩
set_option maxRecDepth 100000 in
theorem seatO_any{w:World}{B g:Nat}{xs:List (BitVec 8)}{bad:Bool}(hP:Pen w B g xs bad)(n:Int)(hn1: -9223372036854775808≤n)(hn2:n<9223372036854775808)(hx:xs.length≤1000000000):
 Calls Tryd.prog 49 #[.pointer (some ⟨g,0,none⟩),.int .i64 n] w fun e w'=>e= .returned (.tuple #[])∧Pen w' B g (xs++be n 1) (bad||outOf n 31)∧Below B w w'∧Oth w w':=by
 have HP:=qq hP
 clear hP
 go_enter Tryd.func49,Tryd.ntmps49
 go_wp2_with fail
 refine(numberO_in HP.out n 1 1 rfl 31 hn1 hn2 (by omega) hx).mono ?_
 rintro e w1 ⟨rfl,hp1,hb1,ho1⟩
 have HO1:=qq ho1
 clear ho1
 go_wp2
 go_end0
 exact⟨rfl,hp1,hb1,HO1.out⟩
def rowB(ys:List (BitVec 8)):List (BitVec 8):=be (ys.length:Int) 2++ys
set_option maxRecDepth 100000 in
set_option maxHeartbeats 1000000 in
theorem rowO_any{w:World}{B g:Nat}{xs:List (BitVec 8)}{bad:Bool}(hP:Pen w B g xs bad){B':Nat}{A:Option Addr}{n c:Nat}{ys:List (BitVec 8)}(hr:Rd b8 w B' A ys)(hB':B'≤B)(hn:ys.length=n)(hx:xs.length≤100000000)(hy:n<9223372036854775808):
 Calls Tryd.prog 33 #[.pointer (some ⟨g,0,none⟩),.slice A n c] w fun e w'=>e= .returned (.tuple #[])∧(∃zs,Pen w' B g (xs++zs) (bad||outOf n 65535)∧((bad||outOf n 65535)=false→zs=rowB ys)∧zs.length≤2+n)∧Below B w w'∧Oth w w':=by
 have HP:=qq hP
 have HR:=qq hr
 have HN:=qq hn
 obtain⟨b',hb'⟩:∃b',b'=(bad||outOf n 65535):=⟨_,rfl⟩
 have hnum:=numberO_in hP (n:Int) 2 2 rfl 65535 (by omega) (by omega) (by omega) (by omega)
 rw[←hb']at hnum ⊢
 have HNum:=qq hnum
 have HBq:=qq (show b'=false→n≤65535 from fun h=>by
  rw[hb']at h
  have h2:=(Bool.or_eq_false_iff.1 h).2
  unfold outOf at h2
  simp at h2;omega)
 have hsz:=hP.size
 clear hP hr hn hb' hnum
 go_enter Tryd.func33,Tryd.ntmps33
 go_wp2_with fail
 refine HNum.out.mono ?_
 rintro e w1 ⟨rfl,hp1,hb1,ho1⟩
 have HO1:=qq ho1
 clear ho1
 have HP1:=qq hp1
 have HB1:=qq hb1
 obtain⟨v,h1,h2⟩:=hp1.at_
 have c1:=h1.cell 1 rfl
 clear h1 h2 hp1 hb1
 cases b' with
 |true=>
  go_wp2_with fail
  go_end0
  exact⟨rfl,⟨be n 2,HP1.out,(fun h=>(by cases h)),by rw[be_len];omega⟩,HB1.out,HO1.out⟩
 |false=>
  go_wp2_with fail
  refine(bytesO_any HP1.out (HR.out.below (HB1.out.mono hB')) (by have:=HB1.out.size;omega) HN.out (by rw[List.length_append,be_len];omega) (by first|(have:=HBq.out rfl;omega)|(have:=HBq.out trivial;omega)|(have:=HBq.out;omega))).mono ?_
  rintro e w2 ⟨rfl,hp2,hb2,ho2⟩
  have HO2:=qq ho2
  clear ho2
  go_wp2
  go_end0
  refine⟨rfl,⟨rowB ys,hp2.cast (by unfold rowB;rw[HN.out,List.append_assoc]) rfl,(by first|exact fun _=>rfl|rfl),by unfold rowB;rw[List.length_append,be_len,HN.out];omega⟩,HB1.out.trans hb2,HO1.out.trans HO2.out⟩
theorem row_any{w:World}{B g:Nat}{xs:List (BitVec 8)}{bad:Bool}(hP:Pen w B g xs bad){B':Nat}{A:Option Addr}{n c:Nat}{ys:List (BitVec 8)}(hr:Rd b8 w B' A ys)(hB':B'≤B)(hn:ys.length=n)(hx:xs.length≤100000000)(hy:n<9223372036854775808):
 Calls Tryd.prog 33 #[.pointer (some ⟨g,0,none⟩),.slice A n c] w fun e w'=>e= .returned (.tuple #[])∧(∃zs,Pen w' B g (xs++zs) (bad||outOf n 65535)∧((bad||outOf n 65535)=false→zs=rowB ys)∧zs.length≤2+n)∧Below B w w':=
 (rowO_any hP hr hB' hn hx hy).mono fun _ _ h=>⟨h.1,h.2.1,h.2.2.1⟩
def endBad(bad:Bool)(xs:List (BitVec 8)):Bool:=bad||decide (65536<xs.length)
set_option maxRecDepth 100000 in
theorem end_any{w:World}{B g:Nat}{xs:List (BitVec 8)}{bad:Bool}(hP:Pen w B g xs bad):
 Calls Tryd.prog 34 #[.pointer (some ⟨g,0,none⟩)] w fun e w'=>(∃v,e= .returned (.tuple #[v,errV (if endBad bad xs then 3 else 0)])∧Own b8 w' B 5 v (if endBad bad xs then[]else xs))∧w=w':=by
 obtain⟨v,h1,h2⟩:=hP.at_
 obtain⟨A,c,rfl,hr,-,-,-⟩:=h2.shape
 have H2:=qq h2
 have c0:=h1.cell 0 rfl
 have c1:=h1.cell 1 rfl
 clear hP h1 h2 hr
 cases bad with
 |true=>
  have e1:endBad true xs=true:=rfl
  rw[e1,if_pos rfl,if_pos rfl,errV_pos (by simp)]
  clear e1
  go_enter Tryd.func34,Tryd.ntmps34
  go_wp2
  go_ret2
  exact⟨⟨_,rfl,Own.nil_ _ _ _ _⟩,rfl⟩
 |false=>
  by_cases hl:65536<xs.length
  ·have e1:endBad false xs=true:=by simp[endBad,hl]
   have hl':(65536:Int)<(xs.length:Int):=by omega
   rw[e1,if_pos rfl,if_pos rfl,errV_pos (by simp)]
   clear e1 hl
   go_enter Tryd.func34,Tryd.ntmps34
   go_wp2
   go_ret2
   exact⟨⟨_,rfl,Own.nil_ _ _ _ _⟩,rfl⟩
  ·have e1:endBad false xs=false:=by simp[endBad,hl]
   have hl':((65536:Int)<(xs.length:Int))=False:=by simp;omega
   rw[e1,if_neg (by simp),if_neg (by simp),errV_zero]
   clear e1 hl
   go_enter Tryd.func34,Tryd.ntmps34
   go_wp2
   go_ret2
   exact⟨⟨_,rfl,H2.out⟩,rfl⟩
def groupB(sum:List (BitVec 8))(epoch frm:Int):List (BitVec 8):=sum++(be epoch 4++be frm 1)
set_option maxRecDepth 100000 in
set_option maxHeartbeats 1000000 in
theorem groupO_any{w:World}{B g:Nat}{xs:List (BitVec 8)}{bad:Bool}(hP:Pen w B g xs bad)(sum:List (BitVec 8))(epoch frm:Int)(hs:sum.length=32)(e1: -9223372036854775808≤epoch)(e2:epoch<9223372036854775808)(f1: -9223372036854775808≤frm)(f2:frm<9223372036854775808)(hx:xs.length≤100000000):
 Calls Tryd.prog 31 #[.pointer (some ⟨g,0,none⟩),arrV b8 sum,.int .i64 epoch,.int .i64 frm] w fun e w'=>e= .returned (.tuple #[])∧Pen w' B g (xs++groupB sum epoch frm) (bad||outOf epoch 4294967295||outOf frm 31)∧Below B w w'∧Oth w w':=by
 have HP:=qq (hP.alloc (.cells (sum.map b8).toArray 29))
 have HS:=qq hs
 have HA:=qq (Rd.new b8 w 29 sum)
 have HB:=qq ((Below.refl B w).alloc hP.size (.cells (sum.map b8).toArray 29))
 have HO0:=qq ((Oth.refl w).alloc (.cells (sum.map b8).toArray 29))
 clear hP hs
 rw[arrV_mk]
 go_enter Tryd.func31,Tryd.ntmps31
 go_wp2_with fail
 refine(bytesO_any HP.out HA.out (by simp) HS.out (by omega) (by omega)).mono ?_
 rintro e w1 ⟨rfl,hp1,hb1,ho1⟩
 have HO1:=qq ho1
 clear ho1
 have HP1:=qq hp1
 have HB1:=qq hb1
 clear hp1 hb1
 go_wp2_with fail
 refine(numberO_in HP1.out epoch 4 4 rfl 4294967295 e1 e2 (by omega) (by rw[List.length_append,HS.out];omega)).mono ?_
 rintro e w2 ⟨rfl,hp2,hb2,ho2⟩
 have HO2:=qq ho2
 clear ho2
 have HP2:=qq hp2
 have HB2:=qq hb2
 clear hp2 hb2
 go_wp2_with fail
 refine(seatO_any HP2.out frm f1 f2 (by rw[List.length_append,List.length_append,be_len,HS.out];omega)).mono ?_
 rintro e w3 ⟨rfl,hp3,hb3,ho3⟩
 have HO3:=qq ho3
 clear ho3
 go_wp2
 go_end0
 exact⟨rfl,hp3.cast (by unfold groupB;simp only[List.append_assoc]) rfl,((HB.out.trans HB1.out).trans HB2.out).trans hb3,((HO0.out.trans HO1.out).trans HO2.out).trans HO3.out⟩
theorem group_any{w:World}{B g:Nat}{xs:List (BitVec 8)}{bad:Bool}(hP:Pen w B g xs bad)(sum:List (BitVec 8))(epoch frm:Int)(hs:sum.length=32)(e1: -9223372036854775808≤epoch)(e2:epoch<9223372036854775808)(f1: -9223372036854775808≤frm)(f2:frm<9223372036854775808)(hx:xs.length≤100000000):
 Calls Tryd.prog 31 #[.pointer (some ⟨g,0,none⟩),arrV b8 sum,.int .i64 epoch,.int .i64 frm] w fun e w'=>e= .returned (.tuple #[])∧Pen w' B g (xs++groupB sum epoch frm) (bad||outOf epoch 4294967295||outOf frm 31)∧Below B w w':=
 (groupO_any hP sum epoch frm hs e1 e2 f1 f2 hx).mono fun _ _ h=>⟨h.1,h.2.1,h.2.2.1⟩
def packetC(sum:List (BitVec 8))(epoch frm number:Int)(A:Option Addr)(n c:Nat):List Value:=sum.map b8++ [.int .i64 epoch,.int .i64 frm,.int .i64 number,.slice A n c]
section
variable{w:World}{g:Nat}{sum:List (BitVec 8)}{epoch frm number:Int}{A:Option Addr}{n c:Nat}
def PkBox(w:World)(g:Nat)(sum:List (BitVec 8))(epoch frm number:Int)(A:Option Addr)(n c:Nat):Prop:=Blk w g 35 (packetC sum epoch frm number A n c)
theorem PkBox.below{w':World}{B:Nat}(h:PkBox w g sum epoch frm number A n c)(hb:Below B w w')(hg:g<B):PkBox w' g sum epoch frm number A n c:=Blk.below h hb hg
theorem PkBox.c32(h:PkBox w g sum epoch frm number A n c)(hs:sum.length=32):w.cell? ⟨g,32,none⟩=some (.int .i64 epoch):=Blk.cell h 32 (by simp[packetC,hs])
theorem PkBox.c33(h:PkBox w g sum epoch frm number A n c)(hs:sum.length=32):w.cell? ⟨g,33,none⟩=some (.int .i64 frm):=Blk.cell h 33 (by simp[packetC,hs])
theorem PkBox.c34(h:PkBox w g sum epoch frm number A n c)(hs:sum.length=32):w.cell? ⟨g,34,none⟩=some (.int .i64 number):=Blk.cell h 34 (by simp[packetC,hs])
theorem PkBox.c35(h:PkBox w g sum epoch frm number A n c)(hs:sum.length=32):w.cell? ⟨g,35,none⟩=some (.slice A n c):=Blk.cell h 35 (by simp[packetC,hs])
theorem PkBox.r0(h:PkBox w g sum epoch frm number A n c)(hs:sum.length=32):w.rangeAt g 0 (sum.map b8):=by
 have:=Blk.range h 0 32
 unfold packetC at this
 rw[List.drop_zero,List.take_append_of_le_length (by simp[hs]),List.take_of_length_le (by simp[hs])]at this
 exact this
theorem PkBox.all5(h:PkBox w g sum epoch frm number A n c)(hs:sum.length=32):w.cell? ⟨g,32,none⟩=some (.int .i64 epoch)∧w.cell? ⟨g,33,none⟩=some (.int .i64 frm)∧w.cell? ⟨g,34,none⟩=some (.int .i64 number)∧w.cell? ⟨g,35,none⟩=some (.slice A n c)∧w.rangeAt g 0 (sum.map b8):=
 ⟨h.c32 hs,h.c33 hs,h.c34 hs,h.c35 hs,h.r0 hs⟩
end
theorem infoSum:(Tryd.prog.info? 29).map (·.size)=some 32:=by kernel_rfl
def pkBad(epoch frm number:Int)(n:Nat):Bool:=outOf epoch 4294967295||outOf frm 31||outOf number 4294967295||outOf n 65535||decide (65536<43+n)
def pkBytes(sum:List (BitVec 8))(epoch frm number:Int)(text:List (BitVec 8)):List (BitVec 8):=groupB sum epoch frm++(be number 4++rowB text)
theorem rowB_len(ys:List (BitVec 8)):(rowB ys).length=2+ys.length:=by unfold rowB;rw[List.length_append,be_len]
theorem groupB_len(sum:List (BitVec 8))(epoch frm:Int):(groupB sum epoch frm).length=sum.length+5:=by unfold groupB;rw[List.length_append,List.length_append,be_len,be_len]
set_option maxRecDepth 100000 in
set_option maxHeartbeats 2000000 in
theorem putPacket_any(sum:List (BitVec 8))(epoch frm number:Int)(A:Option Addr)(n c B':Nat)(text:List (BitVec 8))(w:World)(hs:sum.length=32)(e1: -9223372036854775808≤epoch)(e2:epoch<9223372036854775808)(f1: -9223372036854775808≤frm)(f2:frm<9223372036854775808)(n1: -9223372036854775808≤number)(n2:number<9223372036854775808)
 (hr:Rd b8 w B' A text)(hB':B'≤w.heap.size)(hn:text.length=n)(hy:n<9223372036854775808):
 Calls Tryd.prog 17 #[.agg (packetC sum epoch frm number A n c).toArray] w fun e w'=>∃v,e= .returned (.tuple #[v,errV (if pkBad epoch frm number n then 3 else 0)])∧Own b8 w' w.heap.size 5 v (if pkBad epoch frm number n then[]else pkBytes sum epoch frm number text)∧Below w.heap.size w w':=by
 have HS:=qq hs
 have HR:=qq hr
 have HN:=qq hn
 have HBx:=qq (show PkBox (w.alloc (.cells (packetC sum epoch frm number A n c).toArray 35)) w.heap.size sum epoch frm number A n c from Blk.new w _ _)
 have HF:=qq (show∀W1,(w.alloc (.cells (packetC sum epoch frm number A n c).toArray 35)).alloc (.cells #[.slice none 0 0,.bool false] 83)=W1→
  PkBox W1 w.heap.size sum epoch frm number A n c∧Pen W1 (w.heap.size+1) (w.heap.size+1) [] false∧Below w.heap.size w W1∧W1.heap.size=w.heap.size+2 by
  rintro W1 rfl
  refine⟨Blk.alloc HBx.out _,pen_of (v:= .slice none 0 0) ?_ (Own.nil_ _ _ _ _) (Nat.le_refl _),((Below.refl _ _).alloc (Nat.le_refl _) _).alloc (by simp) _,by simp⟩
  exact Blk.at_size _ [.slice none 0 0,.bool false] (by simp))
 obtain⟨q,hq⟩:∃q,q=pkBad epoch frm number n:=⟨_,rfl⟩
 have HQ:=qq hq
 rw[←hq]
 clear hs hr hn hq
 go_enter Tryd.func17,Tryd.ntmps17
 go_wp2_with (generalize hW1:World.alloc (World.alloc w _) _=W1;obtain⟨hbx1,hp1,hb1,hz1⟩:=HF.out W1 hW1;clear hW1;have HBx1:=qq hbx1;have HP1:=qq hp1;have HB1:=qq hb1;obtain⟨c32,c33,c34,c35,-⟩:=hbx1.all5 HS.out;clear hbx1 hp1 hb1;refine wpList_load_mid rfl 29 (.tmp 8) rfl w.heap.size 0 rfl (sum.map b8) _ (HBx1.out.r0 HS.out) Tryd.underlying29 rfl (by rw[List.length_map,HS.out];exact infoSum) ?_)
 have hg:=group_any HP1.out sum epoch frm HS.out e1 e2 f1 f2 (by simp)
 rw[arrV_mk]at hg
 have HG:=qq hg
 clear hg
 refine HG.out.mono ?_
 rintro e w2 ⟨rfl,hp2,hb2⟩
 have hz2:W1.heap.size≤w2.heap.size:=hb2.size
 have W1w:=qq ((Below.refl (w.heap.size+1) W1))
 have W1b:=HBx1
 clear c32 c33 c34 c35
 have W2b:=qq (W1b.out.below hb2 (by omega))
 obtain⟨c32,c33,c34,c35,-⟩:=W2b.out.all5 HS.out
 have W2w:=qq (W1w.out.trans hb2)
 have HP2:=qq hp2
 clear hp2 hb2
 go_wp2_with fail
 refine(number_in HP2.out number 4 4 rfl 4294967295 n1 n2 (by omega) (by rw[List.length_append,groupB_len,HS.out];simp)).mono ?_
 rintro e w3 ⟨rfl,hp3,hb3⟩
 have hz3:w2.heap.size≤w3.heap.size:=hb3.size
 clear c32 c33 c34 c35
 have W3b:=qq (W2b.out.below hb3 (by omega))
 obtain⟨c32,c33,c34,c35,-⟩:=W3b.out.all5 HS.out
 have W3w:=qq (W2w.out.trans hb3)
 have HP3:=qq hp3
 clear hp3 hb3
 go_wp2_with fail
 refine(row_any HP3.out (HR.out.below ((HB1.out.trans (W3w.out.mono (by omega))).mono hB')) (by omega) HN.out (by rw[List.length_append,List.length_append,groupB_len,be_len,HS.out];simp) (by omega)).mono ?_
 rintro e w4 ⟨rfl,⟨zs,hp4,hzs,hzl⟩,hb4⟩
 have HP4:=qq hp4
 have HZ:=qq hzs
 have HBe:=qq (HB1.out.trans ((W3w.out.trans hb4).mono (by omega)))
 clear hp4 hb4 hzs c32 c33 c34 c35
 go_wp2_with fail
 have hq:=HQ.out
 have hend:=end_any HP4.out
 have hbd:∀b:Bool,b=(false||outOf epoch 4294967295||outOf frm 31||outOf number 4294967295||outOf n 65535)→pkBad epoch frm number n=(b||decide (65536<43+n)):=by rintro b rfl;unfold pkBad;simp
 have hkey:endBad (false||outOf epoch 4294967295||outOf frm 31||outOf number 4294967295||outOf n 65535) ([]++groupB sum epoch frm++be number 4++zs)=q∧(q=false→[]++groupB sum epoch frm++be number 4++zs=pkBytes sum epoch frm number text):=by
  have hzs:=HZ.out
  rw[hq,hbd _ rfl]
  generalize(false||outOf epoch 4294967295||outOf frm 31||outOf number 4294967295||outOf n 65535)=b at hzs ⊢
  cases b with
  |true=>exact⟨rfl,fun h=>by simp at h⟩
  |false=>
   have hz:=hzs rfl
   subst hz
   refine⟨?_,fun _=>by unfold pkBytes;simp only[List.nil_append,List.append_assoc]⟩
   unfold endBad
   rw[List.length_append,List.length_append,List.nil_append,groupB_len,be_len,rowB_len,HS.out,HN.out]
   simp only[Bool.false_or]
   congr 1
   apply propext;constructor<;>intro<;>omega
 rw[hkey.1]at hend
 have Hx:=qq hkey.2
 have HEnd:=qq hend
 clear hend hkey hbd hq
 cases q with
 |true=>
  refine HEnd.out.mono ?_
  rintro e w5 ⟨⟨v5,rfl,ho5⟩,rfl⟩
  rw[if_pos rfl]at ho5
  have HO5:=qq ho5
  clear ho5
  go_wp2_with fail
  go_ret2
  exact⟨_,rfl,HO5.out.less (by omega),HBe.out⟩
 |false=>
  refine HEnd.out.mono ?_
  rintro e w5 ⟨⟨v5,rfl,ho5⟩,rfl⟩
  rw[if_neg (by simp),Hx.out rfl]at ho5
  have HO5:=qq ho5
  clear ho5
  go_wp2_with fail
  go_ret2
  exact⟨_,rfl,HO5.out.less (by omega),HBe.out⟩
end Go.Proofs.YtelgjaiknaalkaaDoor
