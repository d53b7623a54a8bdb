/- Lemmas, joined and made smaller by a program. -/
import Derived.Test.YtelgjaiknaalkaaDoorPo02
import Derived.Test.YtelgjaiknaalkaaDoorPo09
import Derived.OwnWalk
import Derived.Test.YtelgjaiknaalkaaDoorPo20
open Go.Lib renaming hid → qq
open List renaming setIfInBounds_toArray → qj
open List renaming set_cons_zero → qz
open List renaming set_cons_succ → qv
set_option linter.unusedVariables false
set_option linter.unusedSimpArgs false
namespace Go.Proofs.YtelgjaiknaalkaaDoor
open Go.RowKit
def beAt(n:Int)(i:Nat):BitVec 8:=BitVec.ofInt 8 (n/(2:Int)^(8*i))
def be(n:Int):Nat→List (BitVec 8)
 |0=> []
 |s+1=>beAt n s::be n s
theorem be_len(n:Int):∀s,(be n s).length=s
 |0=>rfl
 |s+1=>by simp[be,be_len n s]
structure Pen(w:World)(B g:Nat)(xs:List (BitVec 8))(bad:Bool):Prop where
 at_:∃v,Blk w g 83 [v,.bool bad]∧Own b8 w B 5 v xs
 le:B≤g
section
variable{w w':World}{B g:Nat}{xs ys:List (BitVec 8)}{bad bad':Bool}
theorem Pen.lt(h:Pen w B g xs bad):g<w.heap.size:=by obtain⟨⟨v,h1,h2⟩,h3⟩:=h;exact h1.lt
theorem Pen.size(h:Pen w B g xs bad):B≤w.heap.size:=by have:=h.lt;have:=h.le;omega
theorem Pen.alloc(h:Pen w B g xs bad)(o:Obj):Pen (w.alloc o) B g xs bad:=by obtain⟨⟨v,h1,h2⟩,h3⟩:=h;exact⟨⟨v,h1.alloc o,h2.alloc o⟩,h3⟩
theorem Pen.cast(h:Pen w B g xs bad)(e:xs=ys)(e':bad=bad'):Pen w B g ys bad':=by subst e;subst e';exact h
theorem Pen.setBad(h:Pen w B g xs bad)(u:Bool):Pen (w.setCell ⟨g,1,none⟩ (.bool u)) B g xs u:=by
 obtain⟨⟨v,h1,h2⟩,h3⟩:=h
 exact⟨⟨v,h1.set_ 1 (.bool u),h2.kept (grownBy_set w g 1 _) (.inr (h1.not_row (by decide) h2).symm)⟩,h3⟩
def Oth(w w':World):Prop:=∀k T cs,T≠5→T≠83→Blk w k T cs→Blk w' k T cs
theorem Oth.refl(w:World):Oth w w:=fun _ _ _ _ _ h=>h
theorem Oth.trans{w1 w2 w3:World}(h:Oth w1 w2)(h':Oth w2 w3):Oth w1 w3:=fun k T cs a b c=>h' k T cs a b (h k T cs a b c)
theorem Oth.alloc(h:Oth w w')(o:Obj):Oth w (w'.alloc o):=fun k T cs a b c=>(h k T cs a b c).alloc o
theorem Oth.set_{g k0:Nat}{cs0:List Value}{u:Value}(hg:Blk w g 83 cs0):Oth w (w.setCell ⟨g,k0,none⟩ u):=fun k T cs a b c=>by
 refine c.far (p:=⟨g,k0,none⟩) ?_ u
 rintro rfl
 exact b (by have:=c.symm.trans hg;simp only[Option.some.injEq,Obj.cells.injEq]at this;exact this.2.1)
theorem Oth.own{B:Nat}{v:Value}{xs:List (BitVec 8)}(h:Own b8 w B 5 v xs)(hg:w.grownBy w' v.ownBlock):Oth w w':=fun k T cs a b c=>
 c.grown hg (c.not_row a h)
theorem pen_store{v v':Value}{tmp:Obj}(h1:Blk w g 83 [v,.bool bad])(h2:Own b8 w B 5 v xs)(hB:B≤g)(hg:(w.alloc tmp).grownBy w' v.ownBlock∨w.grownBy w' v.ownBlock)(h3:Own b8 w' B 5 v' ys):
 Blk w' g 83 [v,.bool bad]∧Pen (w'.setCell ⟨g,0,none⟩ v') B g ys bad∧Oth w (w'.setCell ⟨g,0,none⟩ v'):=by
 have hk:Blk w' g 83 [v,.bool bad]:=by
  rcases hg with hg|hg
  ·exact(h1.alloc tmp).grown hg (h1.not_row (by decide) h2)
  ·exact h1.grown hg (h1.not_row (by decide) h2)
 have ho:Oth w w':=by
  rcases hg with hg|hg
  ·exact fun k T cs a b c=>(c.alloc tmp).grown hg ((c.alloc tmp).not_row a (h2.alloc tmp))
  ·exact Oth.own h2 hg
 exact⟨hk,⟨⟨v',hk.set_ 0 v',h3.kept (grownBy_set w' g 0 _) (.inr (hk.not_row (by decide) h3).symm)⟩,hB⟩,ho.trans (Oth.set_ hk)⟩
end
theorem pen_of{w:World}{B g:Nat}{v:Value}{xs:List (BitVec 8)}{bad:Bool}(h1:Blk w g 83 [v,.bool bad])(h2:Own b8 w B 5 v xs)(h3:B≤g):Pen w B g xs bad:=⟨⟨v,h1,h2⟩,h3⟩
set_option maxRecDepth 100000 in
set_option maxHeartbeats 1000000 in
theorem bytesO_any{w:World}{B g:Nat}{xs:List (BitVec 8)}{bad:Bool}(hP:Pen w B g xs bad){B':Nat}{A:Option Addr}{n c:Nat}{ys:List (BitVec 8)}(hr:Rd b8 w B' A ys)(hB':B'≤w.heap.size)(hn:ys.length=n)(hx:xs.length≤1000000000)(hy:n≤1000000000):
 Calls Tryd.prog 48 #[.pointer (some ⟨g,0,none⟩),.slice A n c] w fun e w'=>e= .returned (.tuple #[])∧Pen w' B g (xs++ys) bad∧Below B w w'∧Oth w w':=by
 obtain⟨i0,hi0,hz0,hz1,hz2⟩:=info_parts infoU8
 obtain⟨⟨v,h1,h2⟩,h3⟩:=hP
 have H1:=qq h1
 have H2:=qq h2
 have HR:=qq hr
 have HN:=qq hn
 have c0:=h1.cell 0 rfl
 have f0:=h1.frozen 0
 have hlt:=h1.lt
 clear h1 h2 hr hn
 go_enter Tryd.func48,Tryd.ntmps48
 go_wp2_with (at_builtin;refine wpList_append_rd rfl (.tmp 8) (.tmp 9) 33 rfl b8_one B 5 i0 _ 1 Tryd.underlying33 hi0 hz0 hz1 hz2 rfl _ _ rfl H2.out B' A n c ys rfl HN.out.symm HR.out (by simp[maxLen];have:=HN.out;omega) (by have:=HN.out;simp;omega) (by omega) ?_;intro v2 w2 hown2 hg2 hb2;obtain⟨A2,c2,rfl,-,-,-,-⟩:=hown2.shape;have hst:=pen_store (tmp:= .cells #[] 0) H1.out H2.out h3 (.inr hg2.by_) hown2;have f2:=hst.1.frozen 0;have c2':=hst.1.cell 0 rfl;have HS2:=qq hst.2.1;have HO2:=qq hst.2.2;have HB2:=qq (hb2 B w (Nat.le_refl _) (Below.refl _ _));clear hown2 hg2 hb2 hst)
 go_end0
 exact⟨rfl,by simpa using HS2.out,HB2.out.setCell (p:=⟨g,0,none⟩) h3 _,by simpa using HO2.out⟩
theorem be_take(n:Int):∀(s k i:Nat),k+i+1=s→(be n s).take (k+1)=(be n s).take k++ [beAt n i]
 |0,k,i,h=>by omega
 |s+1,0,i,h=>by obtain rfl:i=s:=by omega
                simp[be]
 |s+1,k+1,i,h=>by simp only[be,List.take_succ_cons,List.cons_append];rw[be_take n s k i (by omega)]
theorem beAt_conv(n:Int)(i:Nat):IntKind.u8.wrap (n/2^(8*i))=bv (beAt n i):=by
 unfold beAt bv
 rw[BitVec.toNat_ofInt,wrap_u8v];omega
set_option maxRecDepth 100000 in
set_option maxHeartbeats 2000000 in
theorem numberO_any{w:World}{B g:Nat}{xs:List (BitVec 8)}{bad:Bool}(hP:Pen w B g xs bad)(n:Int)(s:Nat)(most:Int)(hn1: -9223372036854775808≤n)(hn2:n<9223372036854775808)(hs:s≤8)(hx:xs.length≤1000000000):
 Calls Tryd.prog 32 #[.pointer (some ⟨g,0,none⟩),.int .i64 n,.int .i64 s,.int .i64 most] w fun e w'=>e= .returned (.tuple #[])∧Pen w' B g (xs++be n s) (bad||(decide (n<0)||decide (most<n)))∧Below B w w'∧Oth w w':=by
 obtain⟨i0,hi0,hz0,hz1,hz2⟩:=info_parts infoU8
 have HP:=qq hP
 obtain⟨v,h1,h2⟩:=hP.at_
 have hle:=hP.le
 have c1:=h1.cell 1 rfl
 have f1:=h1.frozen 1
 have HH:=qq (show Oth w (w.setCell ⟨g,1,none⟩ (.bool true))from Oth.set_ h1)
 clear h1 h2 hP
 by_cases hlo:n<0
 ·obtain⟨bad',hbad'⟩:∃b,b=(bad||(decide (n<0)||decide (most<n))):=⟨_,rfl⟩
  have HP':=qq (show Pen (w.setCell ⟨g,1,none⟩ (.bool true)) B g xs bad' from(HP.out.setBad true).cast rfl (by rw[hbad'];simp[hlo]))
  have HB':=qq (show Below B w (w.setCell ⟨g,1,none⟩ (.bool true))from(Below.refl _ _).setCell (p:=⟨g,1,none⟩) hle _)
  have HO':=qq (show Oth w (w.setCell ⟨g,1,none⟩ (.bool true))from HH.out)
  rw[←hbad']
  clear hbad'
  go_enter Tryd.func32,Tryd.ntmps32
  go_wp2
  go_loopw [8] (fun iv wr=>∃(k j:Nat),k+j=s∧iv= .int .i64 ((j:Int)-1)∧Pen wr B g (xs++(be n s).take k) bad'∧Below B w wr∧Oth w wr) (fun iv _=>(intOf iv+1).toNat)
  case atStart=>exact⟨0,s,by omega,rfl,by simpa using HP'.out,HB'.out,HO'.out⟩
  case round=>
   obtain⟨k,j,hkj,rfl,hp,hb,ho⟩:=hrel
   have HOr:=qq ho
   clear ho
   by_cases hj:j=0
   ·subst hj
    rw[show(((0:Nat):Int)-1)= -1 by omega]
    go_wp2_with fail
    go_end0
    exact⟨rfl,hp.cast (by rw[List.take_of_length_le (by rw[be_len];omega)]) rfl,hb,HOr.out⟩
   ·obtain⟨i,rfl⟩:∃i,j=i+1:=⟨j-1,by omega⟩
    rw[show(((i+1:Nat):Int)-1)=(i:Int) by omega]
    have hi8:i<8:=by omega
    obtain⟨⟨vv,p1,p2⟩,p3⟩:=hp
    have hw8:IntKind.i64.wrap (8*(i:Int))=8*(i:Int):=IntWalk.i64_in _ (by omega)
    have hi0':(0:Int)≤8*(i:Int):=by omega
    have hi64:8*(i:Int)≤64:=by omega
    have hnat:(8*(i:Int)).toNat=8*i:=by omega
    have hcv:=beAt_conv n i
    have Hp1:=qq p1
    have p1':Blk wr.drew g 83 [vv,.bool bad']:=p1
    have Hb:=qq hb
    have c0:=p1.cell 0 rfl
    have hlt:=p1.lt
    have htk:(be n s).take (k+1)=(be n s).take k++ [beAt n i]:=be_take n s k i (by omega)
    have Htk:=qq htk
    have hlen:(xs++(be n s).take k).length≤1000000008:=by rw[List.length_append,List.length_take,be_len];omega
    obtain⟨ys,hys⟩:∃ys,ys=xs++(be n s).take k:=⟨_,rfl⟩
    rw[←hys]at hlen p2
    have Hp2:=qq p2
    have Hys:=qq hys
    clear p1 p2 hb htk hys
    go_wp2_with fail
    refine wp_region_Y (by kernel_rfl) (fun w':World=>w'.cell? ⟨g,0,none⟩=some vv) 14 ?_
    have hS:(fun w':World=>w'.cell? ⟨g,0,none⟩=some vv) wr.drew:=c0
    refine wpAnyY_pure (i:=0) (v:= .pointer (some ⟨g,0,none⟩)) rfl (by kernel_rfl) (by kernel_rfl) (by kernel_rfl) (by kernel_rfl) (fun _ _ _ h=>h) (Or.inl ⟨by rfl,?_⟩) hS ?_
    ·intro w' hw'
     go_simp
    try simp only[Act.put,qj,qz,qv]
    refine wpAnyY_pure (i:=1) (v:= .pointer (some ⟨g,0,none⟩)) rfl (by kernel_rfl) (by kernel_rfl) (by kernel_rfl) (by kernel_rfl) (fun _ _ _ h=>h) (Or.inl ⟨by rfl,?_⟩) hS ?_
    ·intro w' hw'
     go_simp
    try simp only[Act.put,qj,qz,qv]
    refine wpAnyY_pure (i:=2) (v:= .pointer (some ⟨g,0,none⟩)) rfl (by kernel_rfl) (by kernel_rfl) (by kernel_rfl) (by kernel_rfl) (fun _ _ _ h=>h) (Or.inl ⟨by rfl,?_⟩) hS ?_
    ·intro w' hw'
     go_simp
    try simp only[Act.put,qj,qz,qv]
    refine wpAnyY_pure (i:=3) (v:= .pointer (some ⟨g,0,none⟩)) rfl (by kernel_rfl) (by kernel_rfl) (by kernel_rfl) (by kernel_rfl) (fun _ _ _ h=>h) (Or.inl ⟨by rfl,?_⟩) hS ?_
    ·intro w' hw'
     go_simp
    try simp only[Act.put,qj,qz,qv]
    refine wpAnyY_take (i:=4) (v:=vv) rfl (by kernel_rfl) (by kernel_rfl) (by kernel_rfl) (by kernel_rfl) (by kernel_rfl) (fun _ _ _ h=>h) (Or.inl ⟨by rfl,?_⟩) hS ?_
    ·intro w' hw'
     go_simp
    try simp only[Act.put,qj,qz,qv]
    refine wpAnyY_pure (i:=5) (v:= .int .i64 n) rfl (by kernel_rfl) (by kernel_rfl) (by kernel_rfl) (by kernel_rfl) (fun _ _ _ h=>h) (Or.inl ⟨by rfl,?_⟩) hS ?_
    ·intro w' hw'
     go_simp
    try simp only[Act.put,qj,qz,qv]
    refine wpAnyY_pure (i:=6) (v:= .int .i64 i) rfl (by kernel_rfl) (by kernel_rfl) (by kernel_rfl) (by kernel_rfl) (fun _ _ _ h=>h) (Or.inl ⟨by rfl,?_⟩) hS ?_
    ·intro w' hw'
     go_simp
    try simp only[Act.put,qj,qz,qv]
    refine wpAnyY_pure (i:=7) (v:= .int .i64 (8*(i:Int))) rfl (by kernel_rfl) (by kernel_rfl) (by kernel_rfl) (by kernel_rfl) (fun _ _ _ h=>h) (Or.inl ⟨by rfl,?_⟩) hS ?_
    ·intro w' hw'
     go_simp
    try simp only[Act.put,qj,qz,qv]
    refine wpAnyY_pure (i:=8) (v:= .int .i64 (n/(2:Int)^(8*i))) rfl (by kernel_rfl) (by kernel_rfl) (by kernel_rfl) (by kernel_rfl) (fun _ _ _ h=>h) (Or.inl ⟨by rfl,?_⟩) hS ?_
    ·intro w' hw'
     go_simp
    try simp only[Act.put,qj,qz,qv]
    refine wpAnyY_pure (i:=9) (v:= .int .u8 (bv (beAt n i))) rfl (by kernel_rfl) (by kernel_rfl) (by kernel_rfl) (by kernel_rfl) (fun _ _ _ h=>h) (Or.inl ⟨by rfl,?_⟩) hS ?_
    ·intro w' hw'
     go_simp
    try simp only[Act.put,qj,qz,qv]
    refine wpAnyY_one (i:=10) (by kernel_rfl) rfl (fun K' hK=>?_)
    go_simp
    refine hK _ _ (fun _=>(p1'.alloc _).cell 0 rfl) ?_
    clear hK K'
    try simp only[Act.put,qj,qz,qv]
    refine wpAnyY_one (i:=11) (by kernel_rfl) rfl (fun K' hK=>?_)
    refine step_append_rd rfl (.tmp 29) (.tmp 35) 33 rfl b8_one B 5 i0 _ 1 Tryd.underlying33 hi0 hz0 hz1 hz2 rfl _ _ rfl (Hp2.out.drew.alloc _) (wr.heap.size+1) _ 1 1 [beAt n i] rfl rfl (Rd.new b8 wr.drew 5 [beAt n i]) (by simp[maxLen];omega) (by simp;omega) (by rw[show∀W:World,W.drew.heap.size=W.heap.size from fun _=>rfl,World.size_alloc];omega) ?_
    intro v7 w7 hown7 hg7 hbb7
    have hst:=pen_store (w:=wr.drew) p1' Hp2.out p3 (.inl hg7.by_) hown7
    have hb7:Below B wr w7:=hbb7 _ _ (Nat.le_refl _) (((Below.refl B wr).drew).alloc (by show B≤wr.heap.size;omega) _)
    obtain⟨A7,cv7,rfl,-,-,-,-⟩:=hown7.shape' (n:=ys.length+1) (by simp)
    have f7:=hst.1.frozen 0
    have c7:=hst.1.cell 0 rfl
    refine hK _ _ (fun _=>c7) ?_
    clear hK K'
    try simp only[Act.put,qj,qz,qv]
    refine wpAnyY_one (i:=12) (by kernel_rfl) rfl (fun K' hK=>?_)
    go_simp
    refine hK _ _ (fun _=>c7) ?_
    clear hK K'
    try simp only[Act.put,qj,qz,qv]
    refine wpAnyY_one (i:=13) (by kernel_rfl) rfl (fun K' hK=>?_)
    go_simp
    refine hK _ _ (fun _=>c7) ?_
    clear hK K'
    try simp only[Act.put,qj,qz,qv]
    refine wpAnyY_one (i:=14) (by kernel_rfl) rfl (fun K' hK=>?_)
    go_simp
    refine hK _ _ (fun h=>absurd rfl h) (wpAnyY_done (by kernel_rfl) ?_ _)
    clear hK K' hw8 hi0' hi64 hnat hcv
    have HS7:=qq hst.2.1
    have HO7:=qq hst.2.2
    have HB7:=qq hb7
    clear hst hb7 hown7 hg7 hbb7
    go_wp2_with fail
    refine⟨⟨k+1,i,by omega,rfl,HS7.out.cast (by rw[Htk.out,Hys.out,List.append_assoc]) rfl,(Hb.out.trans HB7.out).setCell (p:=⟨g,0,none⟩) p3 _,HOr.out.trans HO7.out⟩,by simp[intOf]⟩
 ·have hlo':(n<0)=False:=by simp;omega
  by_cases hhi:most<n
  ·obtain⟨bad',hbad'⟩:∃b,b=(bad||(decide (n<0)||decide (most<n))):=⟨_,rfl⟩
   have HP':=qq (show Pen (w.setCell ⟨g,1,none⟩ (.bool true)) B g xs bad' from(HP.out.setBad true).cast rfl (by rw[hbad'];simp[hhi]))
   have HB':=qq (show Below B w (w.setCell ⟨g,1,none⟩ (.bool true))from(Below.refl _ _).setCell (p:=⟨g,1,none⟩) hle _)
   have HO':=qq (show Oth w (w.setCell ⟨g,1,none⟩ (.bool true))from HH.out)
   rw[←hbad']
   clear hbad'
   go_enter Tryd.func32,Tryd.ntmps32
   go_wp2
   go_loopw [8] (fun iv wr=>∃(k j:Nat),k+j=s∧iv= .int .i64 ((j:Int)-1)∧Pen wr B g (xs++(be n s).take k) bad'∧Below B w wr∧Oth w wr) (fun iv _=>(intOf iv+1).toNat)
   case atStart=>exact⟨0,s,by omega,rfl,by simpa using HP'.out,HB'.out,HO'.out⟩
   case round=>
    obtain⟨k,j,hkj,rfl,hp,hb,ho⟩:=hrel
    have HOr:=qq ho
    clear ho
    by_cases hj:j=0
    ·subst hj
     rw[show(((0:Nat):Int)-1)= -1 by omega]
     go_wp2_with fail
     go_end0
     exact⟨rfl,hp.cast (by rw[List.take_of_length_le (by rw[be_len];omega)]) rfl,hb,HOr.out⟩
    ·obtain⟨i,rfl⟩:∃i,j=i+1:=⟨j-1,by omega⟩
     rw[show(((i+1:Nat):Int)-1)=(i:Int) by omega]
     have hi8:i<8:=by omega
     obtain⟨⟨vv,p1,p2⟩,p3⟩:=hp
     have hw8:IntKind.i64.wrap (8*(i:Int))=8*(i:Int):=IntWalk.i64_in _ (by omega)
     have hi0':(0:Int)≤8*(i:Int):=by omega
     have hi64:8*(i:Int)≤64:=by omega
     have hnat:(8*(i:Int)).toNat=8*i:=by omega
     have hcv:=beAt_conv n i
     have Hp1:=qq p1
     have p1':Blk wr.drew g 83 [vv,.bool bad']:=p1
     have Hb:=qq hb
     have c0:=p1.cell 0 rfl
     have hlt:=p1.lt
     have htk:(be n s).take (k+1)=(be n s).take k++ [beAt n i]:=be_take n s k i (by omega)
     have Htk:=qq htk
     have hlen:(xs++(be n s).take k).length≤1000000008:=by rw[List.length_append,List.length_take,be_len];omega
     obtain⟨ys,hys⟩:∃ys,ys=xs++(be n s).take k:=⟨_,rfl⟩
     rw[←hys]at hlen p2
     have Hp2:=qq p2
     have Hys:=qq hys
     clear p1 p2 hb htk hys
     go_wp2_with fail
     refine wp_region_Y (by kernel_rfl) (fun w':World=>w'.cell? ⟨g,0,none⟩=some vv) 14 ?_
     have hS:(fun w':World=>w'.cell? ⟨g,0,none⟩=some vv) wr.drew:=c0
     refine wpAnyY_pure (i:=0) (v:= .pointer (some ⟨g,0,none⟩)) rfl (by kernel_rfl) (by kernel_rfl) (by kernel_rfl) (by kernel_rfl) (fun _ _ _ h=>h) (Or.inl ⟨by rfl,?_⟩) hS ?_
     ·intro w' hw'
      go_simp
     try simp only[Act.put,qj,qz,qv]
     refine wpAnyY_pure (i:=1) (v:= .pointer (some ⟨g,0,none⟩)) rfl (by kernel_rfl) (by kernel_rfl) (by kernel_rfl) (by kernel_rfl) (fun _ _ _ h=>h) (Or.inl ⟨by rfl,?_⟩) hS ?_
     ·intro w' hw'
      go_simp
     try simp only[Act.put,qj,qz,qv]
     refine wpAnyY_pure (i:=2) (v:= .pointer (some ⟨g,0,none⟩)) rfl (by kernel_rfl) (by kernel_rfl) (by kernel_rfl) (by kernel_rfl) (fun _ _ _ h=>h) (Or.inl ⟨by rfl,?_⟩) hS ?_
     ·intro w' hw'
      go_simp
     try simp only[Act.put,qj,qz,qv]
     refine wpAnyY_pure (i:=3) (v:= .pointer (some ⟨g,0,none⟩)) rfl (by kernel_rfl) (by kernel_rfl) (by kernel_rfl) (by kernel_rfl) (fun _ _ _ h=>h) (Or.inl ⟨by rfl,?_⟩) hS ?_
     ·intro w' hw'
      go_simp
     try simp only[Act.put,qj,qz,qv]
     refine wpAnyY_take (i:=4) (v:=vv) rfl (by kernel_rfl) (by kernel_rfl) (by kernel_rfl) (by kernel_rfl) (by kernel_rfl) (fun _ _ _ h=>h) (Or.inl ⟨by rfl,?_⟩) hS ?_
     ·intro w' hw'
      go_simp
     try simp only[Act.put,qj,qz,qv]
     refine wpAnyY_pure (i:=5) (v:= .int .i64 n) rfl (by kernel_rfl) (by kernel_rfl) (by kernel_rfl) (by kernel_rfl) (fun _ _ _ h=>h) (Or.inl ⟨by rfl,?_⟩) hS ?_
     ·intro w' hw'
      go_simp
     try simp only[Act.put,qj,qz,qv]
     refine wpAnyY_pure (i:=6) (v:= .int .i64 i) rfl (by kernel_rfl) (by kernel_rfl) (by kernel_rfl) (by kernel_rfl) (fun _ _ _ h=>h) (Or.inl ⟨by rfl,?_⟩) hS ?_
     ·intro w' hw'
      go_simp
     try simp only[Act.put,qj,qz,qv]
     refine wpAnyY_pure (i:=7) (v:= .int .i64 (8*(i:Int))) rfl (by kernel_rfl) (by kernel_rfl) (by kernel_rfl) (by kernel_rfl) (fun _ _ _ h=>h) (Or.inl ⟨by rfl,?_⟩) hS ?_
     ·intro w' hw'
      go_simp
     try simp only[Act.put,qj,qz,qv]
     refine wpAnyY_pure (i:=8) (v:= .int .i64 (n/(2:Int)^(8*i))) rfl (by kernel_rfl) (by kernel_rfl) (by kernel_rfl) (by kernel_rfl) (fun _ _ _ h=>h) (Or.inl ⟨by rfl,?_⟩) hS ?_
     ·intro w' hw'
      go_simp
     try simp only[Act.put,qj,qz,qv]
     refine wpAnyY_pure (i:=9) (v:= .int .u8 (bv (beAt n i))) rfl (by kernel_rfl) (by kernel_rfl) (by kernel_rfl) (by kernel_rfl) (fun _ _ _ h=>h) (Or.inl ⟨by rfl,?_⟩) hS ?_
     ·intro w' hw'
      go_simp
     try simp only[Act.put,qj,qz,qv]
     refine wpAnyY_one (i:=10) (by kernel_rfl) rfl (fun K' hK=>?_)
     go_simp
     refine hK _ _ (fun _=>(p1'.alloc _).cell 0 rfl) ?_
     clear hK K'
     try simp only[Act.put,qj,qz,qv]
     refine wpAnyY_one (i:=11) (by kernel_rfl) rfl (fun K' hK=>?_)
     refine step_append_rd rfl (.tmp 29) (.tmp 35) 33 rfl b8_one B 5 i0 _ 1 Tryd.underlying33 hi0 hz0 hz1 hz2 rfl _ _ rfl (Hp2.out.drew.alloc _) (wr.heap.size+1) _ 1 1 [beAt n i] rfl rfl (Rd.new b8 wr.drew 5 [beAt n i]) (by simp[maxLen];omega) (by simp;omega) (by rw[show∀W:World,W.drew.heap.size=W.heap.size from fun _=>rfl,World.size_alloc];omega) ?_
     intro v7 w7 hown7 hg7 hbb7
     have hst:=pen_store (w:=wr.drew) p1' Hp2.out p3 (.inl hg7.by_) hown7
     have hb7:Below B wr w7:=hbb7 _ _ (Nat.le_refl _) (((Below.refl B wr).drew).alloc (by show B≤wr.heap.size;omega) _)
     obtain⟨A7,cv7,rfl,-,-,-,-⟩:=hown7.shape' (n:=ys.length+1) (by simp)
     have f7:=hst.1.frozen 0
     have c7:=hst.1.cell 0 rfl
     refine hK _ _ (fun _=>c7) ?_
     clear hK K'
     try simp only[Act.put,qj,qz,qv]
     refine wpAnyY_one (i:=12) (by kernel_rfl) rfl (fun K' hK=>?_)
     go_simp
     refine hK _ _ (fun _=>c7) ?_
     clear hK K'
     try simp only[Act.put,qj,qz,qv]
     refine wpAnyY_one (i:=13) (by kernel_rfl) rfl (fun K' hK=>?_)
     go_simp
     refine hK _ _ (fun _=>c7) ?_
     clear hK K'
     try simp only[Act.put,qj,qz,qv]
     refine wpAnyY_one (i:=14) (by kernel_rfl) rfl (fun K' hK=>?_)
     go_simp
     refine hK _ _ (fun h=>absurd rfl h) (wpAnyY_done (by kernel_rfl) ?_ _)
     clear hK K' hw8 hi0' hi64 hnat hcv
     have HS7:=qq hst.2.1
     have HO7:=qq hst.2.2
     have HB7:=qq hb7
     clear hst hb7 hown7 hg7 hbb7
     go_wp2_with fail
     refine⟨⟨k+1,i,by omega,rfl,HS7.out.cast (by rw[Htk.out,Hys.out,List.append_assoc]) rfl,(Hb.out.trans HB7.out).setCell (p:=⟨g,0,none⟩) p3 _,HOr.out.trans HO7.out⟩,by simp[intOf]⟩
  ·obtain⟨bad',hbad'⟩:∃b,b=(bad||(decide (n<0)||decide (most<n))):=⟨_,rfl⟩
   have HP':=qq (show Pen w B g xs bad' from HP.out.cast rfl (by rw[hbad'];simp[hlo,hhi]))
   have HB':=qq (Below.refl B w)
   have HO':=qq (Oth.refl w)
   have hhi':(most<n)=False:=by simp;omega
   rw[←hbad']
   clear hbad'
   go_enter Tryd.func32,Tryd.ntmps32
   go_wp2
   go_loopw [8] (fun iv wr=>∃(k j:Nat),k+j=s∧iv= .int .i64 ((j:Int)-1)∧Pen wr B g (xs++(be n s).take k) bad'∧Below B w wr∧Oth w wr) (fun iv _=>(intOf iv+1).toNat)
   case atStart=>exact⟨0,s,by omega,rfl,by simpa using HP'.out,HB'.out,HO'.out⟩
   case round=>
    obtain⟨k,j,hkj,rfl,hp,hb,ho⟩:=hrel
    have HOr:=qq ho
    clear ho
    by_cases hj:j=0
    ·subst hj
     rw[show(((0:Nat):Int)-1)= -1 by omega]
     go_wp2_with fail
     go_end0
     exact⟨rfl,hp.cast (by rw[List.take_of_length_le (by rw[be_len];omega)]) rfl,hb,HOr.out⟩
    ·obtain⟨i,rfl⟩:∃i,j=i+1:=⟨j-1,by omega⟩
     rw[show(((i+1:Nat):Int)-1)=(i:Int) by omega]
     have hi8:i<8:=by omega
     obtain⟨⟨vv,p1,p2⟩,p3⟩:=hp
     have hw8:IntKind.i64.wrap (8*(i:Int))=8*(i:Int):=IntWalk.i64_in _ (by omega)
     have hi0':(0:Int)≤8*(i:Int):=by omega
     have hi64:8*(i:Int)≤64:=by omega
     have hnat:(8*(i:Int)).toNat=8*i:=by omega
     have hcv:=beAt_conv n i
     have Hp1:=qq p1
     have p1':Blk wr.drew g 83 [vv,.bool bad']:=p1
     have Hb:=qq hb
     have c0:=p1.cell 0 rfl
     have hlt:=p1.lt
     have htk:(be n s).take (k+1)=(be n s).take k++ [beAt n i]:=be_take n s k i (by omega)
     have Htk:=qq htk
     have hlen:(xs++(be n s).take k).length≤1000000008:=by rw[List.length_append,List.length_take,be_len];omega
     obtain⟨ys,hys⟩:∃ys,ys=xs++(be n s).take k:=⟨_,rfl⟩
     rw[←hys]at hlen p2
     have Hp2:=qq p2
     have Hys:=qq hys
     clear p1 p2 hb htk hys
     go_wp2_with fail
     refine wp_region_Y (by kernel_rfl) (fun w':World=>w'.cell? ⟨g,0,none⟩=some vv) 14 ?_
     have hS:(fun w':World=>w'.cell? ⟨g,0,none⟩=some vv) wr.drew:=c0
     refine wpAnyY_pure (i:=0) (v:= .pointer (some ⟨g,0,none⟩)) rfl (by kernel_rfl) (by kernel_rfl) (by kernel_rfl) (by kernel_rfl) (fun _ _ _ h=>h) (Or.inl ⟨by rfl,?_⟩) hS ?_
     ·intro w' hw'
      go_simp
     try simp only[Act.put,qj,qz,qv]
     refine wpAnyY_pure (i:=1) (v:= .pointer (some ⟨g,0,none⟩)) rfl (by kernel_rfl) (by kernel_rfl) (by kernel_rfl) (by kernel_rfl) (fun _ _ _ h=>h) (Or.inl ⟨by rfl,?_⟩) hS ?_
     ·intro w' hw'
      go_simp
     try simp only[Act.put,qj,qz,qv]
     refine wpAnyY_pure (i:=2) (v:= .pointer (some ⟨g,0,none⟩)) rfl (by kernel_rfl) (by kernel_rfl) (by kernel_rfl) (by kernel_rfl) (fun _ _ _ h=>h) (Or.inl ⟨by rfl,?_⟩) hS ?_
     ·intro w' hw'
      go_simp
     try simp only[Act.put,qj,qz,qv]
     refine wpAnyY_pure (i:=3) (v:= .pointer (some ⟨g,0,none⟩)) rfl (by kernel_rfl) (by kernel_rfl) (by kernel_rfl) (by kernel_rfl) (fun _ _ _ h=>h) (Or.inl ⟨by rfl,?_⟩) hS ?_
     ·intro w' hw'
      go_simp
     try simp only[Act.put,qj,qz,qv]
     refine wpAnyY_take (i:=4) (v:=vv) rfl (by kernel_rfl) (by kernel_rfl) (by kernel_rfl) (by kernel_rfl) (by kernel_rfl) (fun _ _ _ h=>h) (Or.inl ⟨by rfl,?_⟩) hS ?_
     ·intro w' hw'
      go_simp
     try simp only[Act.put,qj,qz,qv]
     refine wpAnyY_pure (i:=5) (v:= .int .i64 n) rfl (by kernel_rfl) (by kernel_rfl) (by kernel_rfl) (by kernel_rfl) (fun _ _ _ h=>h) (Or.inl ⟨by rfl,?_⟩) hS ?_
     ·intro w' hw'
      go_simp
     try simp only[Act.put,qj,qz,qv]
     refine wpAnyY_pure (i:=6) (v:= .int .i64 i) rfl (by kernel_rfl) (by kernel_rfl) (by kernel_rfl) (by kernel_rfl) (fun _ _ _ h=>h) (Or.inl ⟨by rfl,?_⟩) hS ?_
     ·intro w' hw'
      go_simp
     try simp only[Act.put,qj,qz,qv]
     refine wpAnyY_pure (i:=7) (v:= .int .i64 (8*(i:Int))) rfl (by kernel_rfl) (by kernel_rfl) (by kernel_rfl) (by kernel_rfl) (fun _ _ _ h=>h) (Or.inl ⟨by rfl,?_⟩) hS ?_
     ·intro w' hw'
      go_simp
     try simp only[Act.put,qj,qz,qv]
     refine wpAnyY_pure (i:=8) (v:= .int .i64 (n/(2:Int)^(8*i))) rfl (by kernel_rfl) (by kernel_rfl) (by kernel_rfl) (by kernel_rfl) (fun _ _ _ h=>h) (Or.inl ⟨by rfl,?_⟩) hS ?_
     ·intro w' hw'
      go_simp
     try simp only[Act.put,qj,qz,qv]
     refine wpAnyY_pure (i:=9) (v:= .int .u8 (bv (beAt n i))) rfl (by kernel_rfl) (by kernel_rfl) (by kernel_rfl) (by kernel_rfl) (fun _ _ _ h=>h) (Or.inl ⟨by rfl,?_⟩) hS ?_
     ·intro w' hw'
      go_simp
     try simp only[Act.put,qj,qz,qv]
     refine wpAnyY_one (i:=10) (by kernel_rfl) rfl (fun K' hK=>?_)
     go_simp
     refine hK _ _ (fun _=>(p1'.alloc _).cell 0 rfl) ?_
     clear hK K'
     try simp only[Act.put,qj,qz,qv]
     refine wpAnyY_one (i:=11) (by kernel_rfl) rfl (fun K' hK=>?_)
     refine step_append_rd rfl (.tmp 29) (.tmp 35) 33 rfl b8_one B 5 i0 _ 1 Tryd.underlying33 hi0 hz0 hz1 hz2 rfl _ _ rfl (Hp2.out.drew.alloc _) (wr.heap.size+1) _ 1 1 [beAt n i] rfl rfl (Rd.new b8 wr.drew 5 [beAt n i]) (by simp[maxLen];omega) (by simp;omega) (by rw[show∀W:World,W.drew.heap.size=W.heap.size from fun _=>rfl,World.size_alloc];omega) ?_
     intro v7 w7 hown7 hg7 hbb7
     have hst:=pen_store (w:=wr.drew) p1' Hp2.out p3 (.inl hg7.by_) hown7
     have hb7:Below B wr w7:=hbb7 _ _ (Nat.le_refl _) (((Below.refl B wr).drew).alloc (by show B≤wr.heap.size;omega) _)
     obtain⟨A7,cv7,rfl,-,-,-,-⟩:=hown7.shape' (n:=ys.length+1) (by simp)
     have f7:=hst.1.frozen 0
     have c7:=hst.1.cell 0 rfl
     refine hK _ _ (fun _=>c7) ?_
     clear hK K'
     try simp only[Act.put,qj,qz,qv]
     refine wpAnyY_one (i:=12) (by kernel_rfl) rfl (fun K' hK=>?_)
     go_simp
     refine hK _ _ (fun _=>c7) ?_
     clear hK K'
     try simp only[Act.put,qj,qz,qv]
     refine wpAnyY_one (i:=13) (by kernel_rfl) rfl (fun K' hK=>?_)
     go_simp
     refine hK _ _ (fun _=>c7) ?_
     clear hK K'
     try simp only[Act.put,qj,qz,qv]
     refine wpAnyY_one (i:=14) (by kernel_rfl) rfl (fun K' hK=>?_)
     go_simp
     refine hK _ _ (fun h=>absurd rfl h) (wpAnyY_done (by kernel_rfl) ?_ _)
     clear hK K' hw8 hi0' hi64 hnat hcv
     have HS7:=qq hst.2.1
     have HO7:=qq hst.2.2
     have HB7:=qq hb7
     clear hst hb7 hown7 hg7 hbb7
     go_wp2_with fail
     refine⟨⟨k+1,i,by omega,rfl,HS7.out.cast (by rw[Htk.out,Hys.out,List.append_assoc]) rfl,(Hb.out.trans HB7.out).setCell (p:=⟨g,0,none⟩) p3 _,HOr.out.trans HO7.out⟩,by simp[intOf]⟩
end Go.Proofs.YtelgjaiknaalkaaDoor
