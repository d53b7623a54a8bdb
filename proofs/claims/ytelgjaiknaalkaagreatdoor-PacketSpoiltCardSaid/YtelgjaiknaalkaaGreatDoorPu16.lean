/- Lemmas. -/
import Derived.Test.YtelgjaiknaalkaaGreatDoorPu08
open Go.Proofs.Tryz
open Nat renaming le_refl → QI
set_option linter.unusedVariables false
set_option linter.unusedSimpArgs false
namespace Go.Proofs.YtelgjaiknaalkaaGreatDoor
section
open Go.RowKit
theorem qcP{z most:Int}(h:jk z most=false):∃N:Nat,z=(N:Int)∧(N:Int)≤most:=by
 unfold jk at h;simp at h;exact⟨z.toNat,by omega,by omega⟩
theorem qm8(A:Option Addr)(n c:Nat)(w:World)(h:65536<n):Calls prog 73 #[.slice A n c] w fun e w'=>e= .returned (.tuple #[.slice none 0 0,.bool false])∧w=w':=
 (qhm A n c w).mono fun e w' ⟨h1,h2⟩=>⟨by rw[h1,if_pos h];simp[h],h2⟩
theorem qn4(A:Option Addr)(n c:Nat)(w:World)(h:¬65536<n):Calls prog 73 #[.slice A n c] w fun e w'=>e= .returned (.tuple #[.slice A n c,.bool true])∧w=w':=
 (qhm A n c w).mono fun e w' ⟨h1,h2⟩=>⟨by rw[h1,if_neg h];simp[h],h2⟩
set_option maxRecDepth 100000 in
set_option maxHeartbeats 4000000 in
theorem qcQ(sum:qf)(epoch frm number:Int)(A:Option Addr)(n c B':Nat)(text:qf)(w:World)(hs:sum.length=32)
 (hr:Rd b8 w B' A text)(hB':B'≤w.heap.size)(hn:text.length=n)(hy:n<9223372036854775808):
 Calls prog 43 #[.agg (qq sum epoch frm number A n c).toArray] w fun e w'=>∃v,e= .returned (.tuple #[v,.bool (!zU epoch frm number n)])∧Own b8 w' w.heap.size 5 v (if zU epoch frm number n then[]else qcd sum epoch frm number text)∧Below w.heap.size w w':=by
 obtain⟨i0,hi0,hz0,hz1,hz2⟩:=info_parts jN;have HS:=qe hs;have HR:=qe hr;have HN:=qe hn;have HBx:=qe (show qZ (w.alloc (.cells (qq sum epoch frm number A n c).toArray 41)) w.heap.size sum epoch frm number A n c from Blk.new w _ _);have HB0:=qe ((Below.refl w.heap.size w).alloc (QI _) (.cells (qq sum epoch frm number A n c).toArray 41));have hz:=World.size_alloc w (.cells (qq sum epoch frm number A n c).toArray 41)
 clear hs hr hn;by_cases h1:(jk epoch 4294967295||jk frm 31)=true
 ·have e1:zU epoch frm number n=true:=by unfold zU;rw[h1];rfl
  have hh:=fun w=>qcc epoch frm w
  simp only[h1]at hh;have HH:=qe hh;rw[e1,if_pos rfl];clear e1 h1 hh;obtain⟨c32,c33,c34,c35,-⟩:=HBx.1.all5 HS.1;go_enter func43,ntmps43
  go_wp2_with fail
  refine(HH.1 _).mono ?_;rintro e w' ⟨rfl,rfl⟩;go_wp2_with fail
  go_ret2;exact⟨_,rfl,Own.nil_ _ _ _ _,HB0.1⟩
 ·rw[Bool.not_eq_true]at h1
  have hh:=fun w=>qcc epoch frm w
  simp only[h1]at hh;have HH:=qe hh;have H1:=qe h1;clear h1 hh;by_cases h2:jk number 4294967295=true
  ·have e1:zU epoch frm number n=true:=by unfold zU;rw[h2];simp
   have hh:=fun w=>qdp number 4294967295 w
   simp only[h2]at hh;have HI:=qe hh;rw[e1,if_pos rfl];clear e1 h2 hh;obtain⟨c32,c33,c34,c35,-⟩:=HBx.1.all5 HS.1;go_enter func43,ntmps43
   go_wp2_with fail
   refine(HH.1 _).mono ?_;rintro e w' ⟨rfl,rfl⟩;go_wp2_with fail
   refine(HI.1 _).mono ?_;rintro e w' ⟨rfl,rfl⟩;go_wp2_with fail
   go_ret2;exact⟨_,rfl,Own.nil_ _ _ _ _,HB0.1⟩
  ·rw[Bool.not_eq_true]at h2
   have hh:=fun w=>qdp number 4294967295 w
   simp only[h2]at hh;have HI:=qe hh;have H2:=qe h2;clear h2 hh;by_cases h3:65535<n
   ·have e1:zU epoch frm number n=true:=by
     have:jk (n:Int) 65535=true:=by unfold jk;simp;omega
     unfold zU;rw[this];simp
    have h3':(65535:Int)<(n:Int):=by omega
    rw[e1,if_pos rfl];clear e1 h3;obtain⟨c32,c33,c34,c35,-⟩:=HBx.1.all5 HS.1;go_enter func43,ntmps43
    go_wp2_with fail
    refine(HH.1 _).mono ?_;rintro e w' ⟨rfl,rfl⟩;go_wp2_with fail
    refine(HI.1 _).mono ?_;rintro e w' ⟨rfl,rfl⟩;go_wp2_with fail
    go_ret2;exact⟨_,rfl,Own.nil_ _ _ _ _,HB0.1⟩
   ·have h3':((65535:Int)<(n:Int))=False:=by simp;omega
    have e1:zU epoch frm number n=decide (65536<43+n):=by
     have h3o:jk (n:Int) 65535=false:=by unfold jk;simp;omega
     unfold zU;rw[H1.1,H2.1,h3o];rfl
    have hy2:n≤65535:=by omega
    obtain⟨E,rfl,hE⟩:=qcP (Bool.or_eq_false_iff.1 H1.1).1;obtain⟨F,rfl,hF⟩:=qcP (Bool.or_eq_false_iff.1 H1.1).2;obtain⟨N,rfl,hN⟩:=qcP H2.1;rw[e1];clear e1 h3;by_cases h4:65536<43+n
    ·rw[decide_eq_true h4,if_pos rfl]
     obtain⟨c32,c33,c34,c35,-⟩:=HBx.1.all5 HS.1;go_enter func43,ntmps43
     go_wp2_with fail
     generalize World.alloc w _=W0 at HBx HB0 hz c32 c33 c34 c35 ⊢;refine(HH.1 _).mono ?_;rintro e w' ⟨rfl,rfl⟩;go_wp2_with fail
     refine(HI.1 _).mono ?_;rintro e w' ⟨rfl,rfl⟩;go_wp2_with fail
     have hu:=underlying23;have hi:(prog.info? 23).map (·.size)=some (sum.map b8).length:=by rw[List.length_map,HS.1];exact jy
     have ck:=HBx.1.r0 HS.1;have hh:=qe8 sum E F HS.1 (by omega) (by omega) W0.drew;rw[qn]at hh;have HHd:=qe hh;clear hh;go_region_held3 (fun w'=>w'.cell? ⟨w.heap.size,32,none⟩=some (.int .i64 (E:Int))∧w'.cell? ⟨w.heap.size,33,none⟩=some (.int .i64 (F:Int))∧w'.cell? ⟨w.heap.size,34,none⟩=some (.int .i64 (N:Int))∧w'.cell? ⟨w.heap.size,35,none⟩=some (.slice A n c)∧w'.rangeAt w.heap.size 0 (sum.map b8))
      (first
       |exact(HBx.1.below HB5.1 (by omega)).all5 HS.1
       |exact(HBx.1.below HB4.1 (by omega)).all5 HS.1
       |exact(HBx.1.below HB3.1 (by omega)).all5 HS.1
       |exact(HBx.1.below HB2.1 (by omega)).all5 HS.1
       |exact(HBx.1.below HB1.1 (by omega)).all5 HS.1
       |go_keep)
      (first
       |(go_simp;go_at_call 74;refine HHd.1.mono ?_;rintro e w1 ⟨v1,rfl,ho1,hb1⟩;have HO1:=qe (show Own b8 w1 W0.heap.size 5 v1 _ from ho1);have HB1:=qe ((Below.refl W0.heap.size W0).drew.trans hb1);clear ho1 hb1)
       |(go_simp;go_at_call 75;refine(qcb N 4 4 rfl (by omega) (by omega) _).mono ?_;rintro e w2 ⟨v2,rfl,ho2,hb2⟩;obtain⟨A2,c2,rfl,hr2,-,-,-⟩:=ho2.shape' (qK _ _);have HR2:=qe hr2;have HO12:=qe (HO1.1.below hb2 (QI _));have HB2:=qe (HB1.1.trans (hb2.mono HB1.1.size));clear ho2 hb2 hr2)
       |(refine jc rfl (.tmp 28) (.tmp 31) 28 rfl qH W0.heap.size 5 i0 _ 1 underlying28 hi0 hz0 hz1 hz2 rfl _ _ rfl HO12.1 w2.heap.size A2 4 c2 (be N 4) rfl (qK _ _).symm HR2.1 (by have:=HS.1;simp[maxLen,qK,jF];omega) (by have:=HS.1;simp[qK,jF];omega) HB2.1.size ?_;intro v3 w3 hown3 hg3 hbb3;have HO3:=qe hown3;have HB3:=qe (hbb3 _ _ (QI _) HB2.1);clear hown3 hg3 hbb3)
       |(go_simp;go_at_call 76;refine(qhn (HR.1.below ((HB0.1.trans (HB3.1.mono (by omega))).mono hB')) (by have:=HB3.1.size;omega) HN.1 (by omega)).mono ?_;rintro e w4 ⟨v4,rfl,ho4,hb4⟩;obtain⟨A4,c4,rfl,hr4,-,-,-⟩:=ho4.shape' (n:=2+n) (by rw[zV,HN.1]);have HR4:=qe hr4;have HO34:=qe (HO3.1.below hb4 (QI _));have HB4:=qe (HB3.1.trans (hb4.mono HB3.1.size));clear ho4 hb4 hr4)
       |(refine jc rfl (.tmp 32) (.tmp 35) 28 rfl qH W0.heap.size 5 i0 _ 1 underlying28 hi0 hz0 hz1 hz2 rfl _ _ rfl HO34.1 w4.heap.size A4 (2+n) c4 (Qj text) rfl (by rw[zV,HN.1]) HR4.1 (by have:=HS.1;have:=HN.1;simp[maxLen,qK,jF,zV];omega) (by have:=HS.1;have:=HN.1;simp[qK,jF,zV];omega) HB4.1.size ?_;intro v5 w5 hown5 hg5 hbb5;obtain⟨A5,c5,rfl,-,-,-,-⟩:=hown5.shape' (n:=43+n) (by have:=HS.1;have:=HN.1;simp[qK,jF,zV];omega);have HO5:=qe hown5;have HB5:=qe (hbb5 _ _ (QI _) HB4.1);clear hown5 hg5 hbb5)
       |(go_simp;go_at_call 73;refine(qm8 _ _ _ _ h4).mono ?_;rintro e w6 ⟨rfl,rfl⟩))
     go_wp2_with fail
     go_ret2;exact⟨_,rfl,Own.nil_ _ _ _ _,HB0.1.trans (HB5.1.mono (by omega))⟩
    ·rw[decide_eq_false h4,if_neg (by simp)]
     obtain⟨c32,c33,c34,c35,-⟩:=HBx.1.all5 HS.1;go_enter func43,ntmps43
     go_wp2_with fail
     generalize World.alloc w _=W0 at HBx HB0 hz c32 c33 c34 c35 ⊢;refine(HH.1 _).mono ?_;rintro e w' ⟨rfl,rfl⟩;go_wp2_with fail
     refine(HI.1 _).mono ?_;rintro e w' ⟨rfl,rfl⟩;go_wp2_with fail
     have hu:=underlying23;have hi:(prog.info? 23).map (·.size)=some (sum.map b8).length:=by rw[List.length_map,HS.1];exact jy
     have ck:=HBx.1.r0 HS.1;have hh:=qe8 sum E F HS.1 (by omega) (by omega) W0.drew;rw[qn]at hh;have HHd:=qe hh;clear hh;go_region_held3 (fun w'=>w'.cell? ⟨w.heap.size,32,none⟩=some (.int .i64 (E:Int))∧w'.cell? ⟨w.heap.size,33,none⟩=some (.int .i64 (F:Int))∧w'.cell? ⟨w.heap.size,34,none⟩=some (.int .i64 (N:Int))∧w'.cell? ⟨w.heap.size,35,none⟩=some (.slice A n c)∧w'.rangeAt w.heap.size 0 (sum.map b8))
      (first
       |exact(HBx.1.below HB5.1 (by omega)).all5 HS.1
       |exact(HBx.1.below HB4.1 (by omega)).all5 HS.1
       |exact(HBx.1.below HB3.1 (by omega)).all5 HS.1
       |exact(HBx.1.below HB2.1 (by omega)).all5 HS.1
       |exact(HBx.1.below HB1.1 (by omega)).all5 HS.1
       |go_keep)
      (first
       |(go_simp;go_at_call 74;refine HHd.1.mono ?_;rintro e w1 ⟨v1,rfl,ho1,hb1⟩;have HO1:=qe (show Own b8 w1 W0.heap.size 5 v1 _ from ho1);have HB1:=qe ((Below.refl W0.heap.size W0).drew.trans hb1);clear ho1 hb1)
       |(go_simp;go_at_call 75;refine(qcb N 4 4 rfl (by omega) (by omega) _).mono ?_;rintro e w2 ⟨v2,rfl,ho2,hb2⟩;obtain⟨A2,c2,rfl,hr2,-,-,-⟩:=ho2.shape' (qK _ _);have HR2:=qe hr2;have HO12:=qe (HO1.1.below hb2 (QI _));have HB2:=qe (HB1.1.trans (hb2.mono HB1.1.size));clear ho2 hb2 hr2)
       |(refine jc rfl (.tmp 28) (.tmp 31) 28 rfl qH W0.heap.size 5 i0 _ 1 underlying28 hi0 hz0 hz1 hz2 rfl _ _ rfl HO12.1 w2.heap.size A2 4 c2 (be N 4) rfl (qK _ _).symm HR2.1 (by have:=HS.1;simp[maxLen,qK,jF];omega) (by have:=HS.1;simp[qK,jF];omega) HB2.1.size ?_;intro v3 w3 hown3 hg3 hbb3;have HO3:=qe hown3;have HB3:=qe (hbb3 _ _ (QI _) HB2.1);clear hown3 hg3 hbb3)
       |(go_simp;go_at_call 76;refine(qhn (HR.1.below ((HB0.1.trans (HB3.1.mono (by omega))).mono hB')) (by have:=HB3.1.size;omega) HN.1 (by omega)).mono ?_;rintro e w4 ⟨v4,rfl,ho4,hb4⟩;obtain⟨A4,c4,rfl,hr4,-,-,-⟩:=ho4.shape' (n:=2+n) (by rw[zV,HN.1]);have HR4:=qe hr4;have HO34:=qe (HO3.1.below hb4 (QI _));have HB4:=qe (HB3.1.trans (hb4.mono HB3.1.size));clear ho4 hb4 hr4)
       |(refine jc rfl (.tmp 32) (.tmp 35) 28 rfl qH W0.heap.size 5 i0 _ 1 underlying28 hi0 hz0 hz1 hz2 rfl _ _ rfl HO34.1 w4.heap.size A4 (2+n) c4 (Qj text) rfl (by rw[zV,HN.1]) HR4.1 (by have:=HS.1;have:=HN.1;simp[maxLen,qK,jF,zV];omega) (by have:=HS.1;have:=HN.1;simp[qK,jF,zV];omega) HB4.1.size ?_;intro v5 w5 hown5 hg5 hbb5;obtain⟨A5,c5,rfl,-,-,-,-⟩:=hown5.shape' (n:=43+n) (by have:=HS.1;have:=HN.1;simp[qK,jF,zV];omega);have HO5:=qe hown5;have HB5:=qe (hbb5 _ _ (QI _) HB4.1);clear hown5 hg5 hbb5)
       |(go_simp;go_at_call 73;refine(qn4 _ _ _ _ h4).mono ?_;rintro e w6 ⟨rfl,rfl⟩))
     go_wp2_with fail
     go_ret2;exact⟨_,rfl,(HO5.1.less (by omega)).cast (by unfold qcd;simp only[List.append_assoc]),HB0.1.trans (HB5.1.mono (by omega))⟩
end
end Go.Proofs.YtelgjaiknaalkaaGreatDoor
