/- Lemmas, joined and made smaller by a program. -/
import Derived.Test.YtelgjaiknaalkaaDoorPo24
import Derived.Test.YtelgjaiknaalkaaDoorPo32
import Derived.Deep.RegionHeld3
open Go.Lib renaming hid → qq
set_option linter.unusedVariables false
set_option linter.unusedSimpArgs false
namespace Go.Proofs.YtelgjaiknaalkaaDoor
open Go.RowKit
set_option maxRecDepth 100000 in
theorem equal_any{B C:Nat}{A D:Option Addr}{xs ys:List (BitVec 8)}{n m:Nat}(c d:Nat)(w:World)(h1:Rd b8 w B A xs)(h2:Rd b8 w C D ys)(hn:xs.length=n)(hm:ys.length=m)(hbn:n≤4000000):
 Calls Tryd.prog 38 #[.slice A n c,.slice D m d] w fun e w'=>e= .returned (.bool (xs==ys))∧∃q,w'=w.drewN q:=by
 have HN:=qq hn
 have HM:=qq hm
 have H1:=qq h1
 have H2:=qq h2
 clear hn hm h1 h2
 by_cases hnm:n=m
 ·subst hnm
  go_enter Tryd.func38,Tryd.ntmps38
  go_wp2_with fail
  go_loopw [13] (fun i wr=>∃k q:Nat,k≤n∧i= .int .i64 (k:Int)∧xs.take k=ys.take k∧wr=w.drewN q) (fun i _=>n-(intOf i).toNat)
  case atStart=>exact⟨0,0,by omega,rfl,by simp,rfl⟩
  case round=>
   obtain⟨k,q,hk,rfl,htk,rfl⟩:=hrel
   by_cases hlt:k<n
   ·obtain⟨b1,o1,rfl,-,hc1⟩:=(H1.out.drewN q).at_ (k:=k) (by rw[HN.out];exact hlt)
    obtain⟨b2,o2,rfl,-,hc2⟩:=(H2.out.drewN q).at_ (k:=k) (by rw[HM.out];exact hlt)
    obtain⟨x,hx⟩:∃x,xs[k]'(by rw[HN.out];exact hlt)=x:=⟨_,rfl⟩
    obtain⟨y,hy⟩:∃y,ys[k]'(by rw[HM.out];exact hlt)=y:=⟨_,rfl⟩
    rw[hx]at hc1
    rw[hy]at hc2
    simp only[b8]at hc1 hc2
    have HT:=qq htk
    have HX:=qq hx
    have HY:=qq hy
    clear htk hx hy
    generalize hwq:w.drewN q=wq at hc1 hc2 ⊢
    have HW:=qq hwq
    clear hwq
    by_cases hxy:x=y
    ·have hbn:(bv x !=bv y)=false:=by simp[hxy]
     have hyk:k<ys.length:=by rw[HM.out];exact hlt
     have hxk:k<xs.length:=by rw[HN.out];exact hlt
     have HT2:=qq (show xs.take (k+1)=ys.take (k+1) by
      rw[List.take_succ_eq_append_getElem hxk,List.take_succ_eq_append_getElem hyk,HT.out,HX.out,HY.out,hxy])
     clear hxk hyk
     go_wp2_with fail
     go_quiet (fail)
     go_wp2_with fail
     exact⟨⟨k+1,q+nq,by omega,by simp,HT2.out,by rw[←HW.out,World.drewN_drewN]⟩,by simp[intOf];omega⟩
    ·have hne:(xs==ys)=false:=by
      rw[beq_eq_false_iff_ne];intro e;subst e;exact hxy (HX.out.symm.trans HY.out)
     have hbn:(bv x !=bv y)=true:=by rw[bv_bne];simp[hxy]
     have HNe:=qq hne
     clear hne
     go_wp2_with fail
     go_quiet (fail)
     go_wp2_with fail
     go_ret
     exact⟨by rw[HNe.out];rfl,_,by rw[←HW.out,World.drewN_drewN]⟩
   ·obtain rfl:k=n:=by omega
    go_wp2_with fail
    go_ret
    have hxy:xs=ys:=by
     have h:=htk
     rwa[List.take_of_length_le (by rw[HN.out];exact Nat.le_refl _),List.take_of_length_le (by rw[HM.out];exact Nat.le_refl _)]at h
    exact⟨by simp[hxy],_,rfl⟩
 ·have hne:(xs==ys)=false:=by
   rw[beq_eq_false_iff_ne];intro e;rw[e,HM.out]at HN;exact hnm HN.out.symm
  have hni:¬((n:Int)=(m:Int)):=by omega
  rw[hne]
  go_enter Tryd.func38,Tryd.ntmps38
  go_wp2_with fail
  go_ret
  exact⟨rfl,0,rfl⟩
set_option maxRecDepth 100000 in
set_option maxHeartbeats 4000000 in
theorem open_any(w:World)(key:List (BitVec 8))(hk:key.length=32)(A C T:Option Addr)(n c l cc m d Bn Bc Bm:Nat)(nonce ctx text:List (BitVec 8))
 (hrn:Rd b8 w Bn A nonce)(hBn:Bn≤w.heap.size)(hn:nonce.length=n)(hnc:n≤c)
 (hrc:Rd b8 w Bc C ctx)(hBc:Bc≤w.heap.size)(hl:ctx.length=l)
 (hrm:Rd b8 w Bm T text)(hBm:Bm≤w.heap.size)(hm:text.length=m)(hmd:m≤d)(hmx:m≤maxLen):
 Calls Tryd.prog 21 #[arrV b8 key,.slice A n c,.slice C l cc,.slice T m d] w fun e w'=>∃v,e= .returned (.tuple #[v,errV (openBad key nonce ctx text)])∧Own b8 w' w.heap.size 5 v (openV key nonce ctx text)∧Below w.heap.size w w':=by
 have HK:=qq hk
 have HN:=qq hn
 have HL:=qq hl
 have HM:=qq hm
 have HRn:=qq (hrn.more hBn)
 have HRc:=qq (hrc.more hBc)
 have HRm:=qq (hrm.more hBm)
 have hob:openBad key nonce ctx text=if n≠12∨1048592<l∨1048592<m then 1 else if m<16 then 2 else if tagOf key nonce ctx (text.take (m-16))=text.drop (m-16)then 0 else 2:=by unfold openBad;rw[hn,hl,hm]
 have HOv:=qq (show openV key nonce ctx text=if openBad key nonce ctx text=0 then mixV key nonce 1 (text.take (m-16))else[] by unfold openV;rw[hm])
 clear hk hn hl hm hrn hrc hrm hBn hBc hBm
 rw[arrV_mk]
 have HK1:=qq (Arr.new b8 w 54 key)
 have HB1:=qq (show Below w.heap.size w (w.alloc (.cells (key.map b8).toArray 54))from(Below.refl _ w).alloc (Nat.le_refl _) _)
 simp only[maxLen]at hmx
 by_cases h1:n=12
 ·subst h1
  by_cases h2:l≤1048592
  ·by_cases h3:m≤1048592
   ·have h2i:¬((l:Int)>1048592):=by omega
    have h3i:¬((m:Int)>1048592):=by omega
    rw[if_neg (by omega)]at hob
    by_cases h4:m<16
    ·rw[if_pos h4]at hob
     have hov:openV key nonce ctx text=[]:=by rw[HOv.out,hob];exact if_neg (by decide)
     rw[hob,hov]
     have h4i:(m:Int)-16<0:=by omega
     clear hob hov
     go_enter Tryd.func21,Tryd.ntmps21
     go_wp2_with fail
     go_ret2
     exact⟨_,rfl,Own.nil_ _ _ _ _,HB1.out⟩
    ·rw[if_neg h4]at hob
     obtain⟨k,hkm⟩:∃k,m=k+16:=⟨m-16,by omega⟩
     have hmk0:m-16=k:=by omega
     rw[hmk0]at hob HOv
     obtain⟨b,off,rfl,hbl,-⟩:=HRm.out.at_ (k:=0) (by rw[HM.out,hkm];omega)
     obtain⟨t1,ht1⟩:∃t1,text.take k=t1:=⟨_,rfl⟩
     obtain⟨t2,ht2⟩:∃t2,text.drop k=t2:=⟨_,rfl⟩
     rw[ht1,ht2]at hob
     rw[ht1]at HOv
     have H1l:=qq (show t1.length=k by rw[←ht1,List.length_take,HM.out,hkm];omega)
     have H2l:=qq (show t2.length=16 by rw[←ht2,List.length_drop,HM.out,hkm];omega)
     have H1r:=qq (show Rd b8 w w.heap.size (some ⟨b,off,none⟩) t1 by rw[←ht1];exact HRm.out.take k)
     have H2r:=qq (show Rd b8 w w.heap.size (some ⟨b,off+k,none⟩) t2 by
      have h:=HRm.out.drop k
      rw[ht2,Option.map_some]at h
      have eA:(Addr.mk b off none).add k=⟨b,off+k,none⟩:=by by_cases h0:k=0<;>simp[Addr.add,h0]
      rwa[eA]at h)
     clear ht1 ht2
     have HOb:=qq hob
     have hsi:(m:Int)-16=(k:Int):=by omega
     have hmk:m-k=16:=by omega
     have hkm':k≤m:=by omega
     have hkb:k≤1048576:=by omega
     clear hmk0 hkm
     have hkd:¬(d=k):=by omega
     have hkd':k≤d:=by omega
     clear hob h4
     go_enter Tryd.func21,Tryd.ntmps21
     go_wp2_with fail
     have hz1:w.heap.size<(w.alloc (.cells (key.map b8).toArray 54)).heap.size:=by simp
     change Code.wp _ _ _ _ (w.alloc (.cells (key.map b8).toArray 54))
     generalize w.alloc (.cells (key.map b8).toArray 54)=w1 at HK1 HB1 hz1 ⊢
     obtain⟨G,hG⟩:∃G,tagOf key nonce ctx t1=G:=⟨_,rfl⟩
     have HGl:=qq (show G.length=16 by rw[←hG];exact tagOf_len _ _ _ _)
     obtain⟨Z,hZ⟩:∃Z,Z=key.map b8:=⟨_,rfl⟩
     have hZl:Z.length=32:=by rw[hZ,List.length_map,HK.out]
     have HR1:=qq (show∀W',Below w1.heap.size w1 W'→W'.rangeAt w.heap.size 0 Z from fun W' hb=>by
      rw[hZ];exact(HK1.out.below hb hz1).whole)
     have hk1:=HR1.out _ (Below.refl _ w1).drew
     have hu:=Tryd.underlying54
     have hi32:(Tryd.prog.info? 54).map (·.size)=some Z.length:=by rw[hZl];exact size32k
     have HMk:=qq (show∀W,Below w1.heap.size w1 W→Calls Tryd.prog 28 #[.agg Z.toArray,.slice A 12 c,.slice C l cc,.slice (some ⟨b,off,none⟩) k d] W fun e w'=>∃g,e= .returned (.tuple #[.slice (some ⟨g,0,none⟩) 16 16,.nilIface])∧W.heap.size≤g∧Arr b8 w' g 102 G∧Below W.heap.size W w' from fun W hb=>by
      have hbw:=HB1.out.trans (hb.mono HB1.out.size)
      have h:=amark_any W key HK.out A C (some ⟨b,off,none⟩) 12 c l cc k d w.heap.size w.heap.size w.heap.size nonce ctx t1 (HRn.out.below hbw) hbw.size HN.out rfl hnc (HRc.out.below hbw) hbw.size HL.out (by omega) (H1r.out.below hbw) hbw.size H1l.out (by omega)
      rw[arrV_mk,←hZ,hG]at h
      exact h)
     have hml:=mixV_len1 key nonce t1 HN.out (by rw[H1l.out];omega)
     rw[H1l.out]at hml
     have HMx:=qq (show∀W,Below w1.heap.size w1 W→Calls Tryd.prog 27 #[.agg Z.toArray,.slice A 12 c,.int .i64 1,.slice (some ⟨b,off,none⟩) k d] W fun e w'=>∃v,e= .returned (.tuple #[v,.nilIface])∧Own b8 w' W.heap.size 5 v (mixV key nonce 1 t1)∧Below W.heap.size W w' from fun W hb=>by
      have hbw:=HB1.out.trans (hb.mono HB1.out.size)
      have h:=mix_any key A 12 c w.heap.size nonce 1 (some ⟨b,off,none⟩) k d w.heap.size t1 W HK.out (HRn.out.below hbw) hbw.size HN.out hnc (H1r.out.below hbw) hbw.size H1l.out (by omega) (by omega) (by omega)
      rw[hml.1,errV_zero,arrV_mk,←hZ]at h
      exact h)
     have HGe:=qq hG
     have HXl:=qq hml.2
     clear hG hZ hZl hml
     go_region_held3 (fun w'=>w'.rangeAt w.heap.size 0 Z)
      (first
       |exact HR1.out _ HX2.out
       |go_keep)
      ((go_simp;go_at_call 28;refine(HMk.out _ (by(repeat(first|exact Below.refl _ _|refine bel_al ?_|refine bel_dr ?_)))).mono ?_;rintro e w2 ⟨g2,rfl,hg2,ha2,hb2⟩;have HX2:=qq (show Below w1.heap.size w1 w2 from below_step (by(repeat(first|exact Below.refl _ _|refine bel_al ?_|refine bel_dr ?_))) hb2);have HA2:=qq ha2;clear ha2 hb2))
     have hs2:=HX2.out.size
     have HB2:=qq (HB1.out.trans (HX2.out.mono HB1.out.size))
     go_wp2_with fail
     refine(equal_any (xs:=G) 16 (d-k) w2 (HA2.out.rd 0) (H2r.out.below HB2.out) HGl.out H2l.out (by omega)).mono ?_
     rintro e w3 ⟨rfl,q,rfl⟩
     have HX3:=qq (below_drewN HX2.out q)
     have HB3:=qq (below_drewN HB2.out q)
     clear HX2 HB2 HA2
     generalize w2.drewN q=w3 at HX3 HB3 ⊢
     by_cases heq:G=t2
     ·have hbe:(G==t2)=true:=by simp[heq]
      rw[hbe]
      have hob:=HOb.out
      rw[HGe.out,if_pos heq]at hob
      have HOb2:=qq hob
      clear hob hbe heq
      go_wp2_with fail
      have hk3:=HR1.out _ HX3.out.drew
      go_region_held3 (fun w'=>w'.rangeAt w.heap.size 0 Z)
       (first
        |exact HR1.out _ (HX3.out.trans (HX4.out.mono HX3.out.size))
        |go_keep)
       ((go_simp;go_at_call 27;refine(HMx.out _ HX3.out.drew).mono ?_;rintro e w4 ⟨v4,rfl,ho4,hb4⟩;have HX4:=qq (show Below w3.heap.size w3 w4 from below_step (by(repeat(first|exact Below.refl _ _|refine bel_al ?_|refine bel_dr ?_))) hb4);have HO4:=qq ho4;clear ho4 hb4))
      go_wp2_with fail
      go_ret2
      rw[HOb2.out,show openV key nonce ctx text=mixV key nonce 1 t1 by rw[HOv.out,HOb2.out];exact if_pos rfl]
      exact⟨_,rfl,HO4.out.less HB3.out.size,HB3.out.trans (HX4.out.mono HB3.out.size)⟩
     ·have hbe:(G==t2)=false:=by simp[heq]
      rw[hbe]
      have hob:=HOb.out
      rw[HGe.out,if_neg heq]at hob
      have HOb2:=qq hob
      clear hob hbe heq
      go_wp2_with fail
      go_ret2
      rw[HOb2.out,show openV key nonce ctx text=[] by rw[HOv.out,HOb2.out];exact if_neg (by decide)]
      exact⟨_,rfl,Own.nil_ _ _ _ _,HB3.out⟩
   ·have h2i:¬((l:Int)>1048592):=by omega
    have h3i:(m:Int)>1048592:=by omega
    rw[if_pos (by omega)]at hob
    have hov:openV key nonce ctx text=[]:=by rw[HOv.out,hob];exact if_neg (by decide)
    rw[hob,hov]
    clear hob hov
    go_enter Tryd.func21,Tryd.ntmps21
    go_wp2_with fail
    go_ret2
    exact⟨_,rfl,Own.nil_ _ _ _ _,HB1.out⟩
  ·have h2i:(l:Int)>1048592:=by omega
   rw[if_pos (by omega)]at hob
   have hov:openV key nonce ctx text=[]:=by rw[HOv.out,hob];exact if_neg (by decide)
   rw[hob,hov]
   clear hob hov
   go_enter Tryd.func21,Tryd.ntmps21
   go_wp2_with fail
   go_ret2
   exact⟨_,rfl,Own.nil_ _ _ _ _,HB1.out⟩
 ·have h1i:¬((n:Int)=12):=by omega
  rw[if_pos (by omega)]at hob
  have hov:openV key nonce ctx text=[]:=by rw[HOv.out,hob];exact if_neg (by decide)
  rw[hob,hov]
  clear hob hov
  go_enter Tryd.func21,Tryd.ntmps21
  go_wp2_with fail
  go_ret2
  exact⟨_,rfl,Own.nil_ _ _ _ _,HB1.out⟩
end Go.Proofs.YtelgjaiknaalkaaDoor
