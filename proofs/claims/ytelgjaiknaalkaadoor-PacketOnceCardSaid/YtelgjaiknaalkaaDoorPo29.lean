/- Lemmas, joined and made smaller by a program. -/
import Derived.Test.YtelgjaiknaalkaaDoorPo26
import Derived.Test.YtelgjaiknaalkaaDoorPo28
import Derived.Deep.RegionHeld3
import Derived.Laws.Cover3
open Go.Lib renaming hid → qq
open List renaming setIfInBounds_toArray → qj
open List renaming set_cons_zero → qz
open List renaming set_cons_succ → qv
set_option linter.unusedVariables false
set_option linter.unusedSimpArgs false
namespace Go.Proofs.YtelgjaiknaalkaaDoor
open Go.RowKit
theorem bel_sc{w w':World}{g o:Nat}{vs:List Value}(hb:Below w.heap.size w w')(hg:w.heap.size≤g):Below w.heap.size w (w'.setCells g o vs):=by
 induction vs generalizing w' o with
 |nil=>exact hb
 |cons v r ih=>exact ih (hb.setCell (p:=⟨g,o,none⟩) hg v)
def PZ(W:World)(g:Nat):Prop:=Arr b8 W g 102 (List.replicate 16 0#8)
theorem pz_new{w:World}{g:Nat}{cs:Array Value}(hg:g=w.heap.size)(hc:cs=((List.replicate 16 0#8).map b8).toArray):PZ (w.alloc (.cells cs 102)) g:=by subst hg hc;exact Arr.new b8 w _ _
theorem pz_al{w:World}{g:Nat}{o:Obj}(h:PZ w g):PZ (w.alloc o) g:=Arr.alloc h o
theorem pz_bel{w w':World}{g:Nat}(hb:Below w.heap.size w w')(h:PZ w g):PZ w' g:=Arr.below h hb (Arr.lt h)
theorem pz_there{w:World}{g:Nat}{Y:List Value}(h:PZ w g)(hY:Y.length=16):w.there g 0 Y.length:=Arr.there h (by rw[hY];simp)
theorem pz_mark{w:World}{g:Nat}{Y:List Value}{ts:List (BitVec 8)}(h:PZ w g)(hY:Y=ts.map b8)(hl:ts.length=16):Arr b8 (w.setCells g 0 Y) g 102 ts:=by
 subst hY
 exact(arr_setCells (f:=b8) ts [] (List.replicate 16 0#8) w (by rw[hl];rfl) h).1
theorem pz_newS{w:World}{g:Nat}(hg:g=w.heap.size):PZ (w.alloc (.cells #[.int .u8 0,.int .u8 0,.int .u8 0,.int .u8 0,.int .u8 0,.int .u8 0,.int .u8 0,.int .u8 0,.int .u8 0,.int .u8 0,.int .u8 0,.int .u8 0,.int .u8 0,.int .u8 0,.int .u8 0,.int .u8 0] 102)) g=True:=eq_true (pz_new hg rfl)
theorem pz_alS{w:World}{g:Nat}{o:Obj}(h:PZ w g):PZ (w.alloc o) g=True:=eq_true (pz_al h)
theorem pz_drS{w:World}{g:Nat}:PZ w.drew g=PZ w g:=rfl
theorem size64k:(Tryd.prog.info? 99).map (·.size)=some 64:=by kernel_rfl
set_option maxRecDepth 100000 in
set_option maxHeartbeats 4000000 in
theorem amark_any(w:World)(key:List (BitVec 8))(hk:key.length=32)(A C T:Option Addr)(n c l cc m d Bn Bc Bm:Nat)(nonce ctx mixed:List (BitVec 8))
 (hrn:Rd b8 w Bn A nonce)(hBn:Bn≤w.heap.size)(hn:nonce.length=n)(h12:n=12)(hnc:n≤c)
 (hrc:Rd b8 w Bc C ctx)(hBc:Bc≤w.heap.size)(hl:ctx.length=l)(hlb:l≤1100000)
 (hrm:Rd b8 w Bm T mixed)(hBm:Bm≤w.heap.size)(hm:mixed.length=m)(hmb:m≤1100000):
 Calls Tryd.prog 28 #[arrV b8 key,.slice A n c,.slice C l cc,.slice T m d] w fun e w'=>∃g,e= .returned (.tuple #[.slice (some ⟨g,0,none⟩) 16 16,.nilIface])∧w.heap.size≤g∧Arr b8 w' g 102 (tagOf key nonce ctx mixed)∧Below w.heap.size w w':=by
 subst h12
 have HK:=qq hk
 have HN:=qq hn
 have HL:=qq hl
 have HM:=qq hm
 have HRn:=qq (hrn.more hBn)
 have HRc:=qq (hrc.more hBc)
 have HRm:=qq (hrm.more hBm)
 clear hk hn hl hm hrn hrc hrm hBn hBc hBm
 rw[arrV_mk]
 go_enter Tryd.func28,Tryd.ntmps28
 have HK1:=qq (Arr.new b8 w 54 key)
 have HB1:=qq (show Below w.heap.size w (w.alloc (.cells (key.map b8).toArray 54))from(Below.refl _ w).alloc (Nat.le_refl _) _)
 have hz1:w.heap.size<(w.alloc (.cells (key.map b8).toArray 54)).heap.size:=by simp
 go_wp2_with (refine wpList_load_arr rfl 54 (.tmp 4) rfl w.heap.size rfl _ key HK1.out _ Tryd.underlying54 rfl (by rw[HK.out];exact size32k) ?_)
 have hpc:=cpiece_any key A 12 c w.heap.size nonce 0 (w.alloc (.cells (key.map b8).toArray 54)) HK.out (HRn.out.alloc (Nat.le_refl _) _) (by simp) HN.out hnc
 rw[show badP 12 0=0 from rfl,errV_zero,arrV_mk,arrV_mk]at hpc
 have HPc:=qq hpc
 have HBl:=qq (pieceV_len key nonce 0)
 have HZk:=qq (show aeadKey key nonce=(pieceV key nonce 0).take 32 from by unfold aeadKey;exact(Eq.refl ((pieceV key nonce 0).take 32)))
 generalize pieceV key nonce 0=BL at HPc HBl HZk
 clear hpc
 refine HPc.out.mono ?_
 rintro e w2 ⟨rfl,hb2⟩
 have hz2:=hb2.size
 have HB2:=qq (HB1.out.trans (hb2.mono (by omega)))
 have HT2:=qq (Arr.new b8 w2 99 (List.replicate 64 0#8))
 clear hb2 HPc HB1
 go_wp2_with (refine wpList_store_arr rfl 99 (.tmp 10) (.tmp 17) rfl w2.heap.size rfl BL rfl _ _ HT2.out (by rw[HBl.out];rfl) (by rw[HBl.out];exact size64k) b8_one' ?_;intro w3 hx3 hg3)
 have hsz3:w2.heap.size<w3.heap.size:=hx3.lt
 have hb23:Below w2.heap.size w2 w3:=(((Below.refl w2.heap.size w2).alloc (Nat.le_refl _) (.cells ((List.replicate 64 0#8).map b8).toArray 99)).grown hg3 (by simp) (fun k e=>by cases e;exact Nat.le_refl _))
 have HB3:=qq (HB2.out.trans (hb23.mono HB2.out.size))
 obtain⟨Z,hZ⟩:∃Z,Z=(aeadKey key nonce).map b8:=⟨_,rfl⟩
 have hZl:Z.length=32:=by rw[hZ,List.length_map,aeadKey_len]
 have HR3:=qq (show∀W',Below w3.heap.size w3 W'→W'.rangeAt w2.heap.size 0 Z from fun W' hb=>by
  have h:=(hx3.below hb hsz3).range 0 32
  rw[List.drop_zero,←List.map_take,←HZk.out,←hZ]at h
  exact h)
 have hk3:=HR3.out _ (Below.refl _ w3).drew
 have hu:=Tryd.underlying54
 have hi32:(Tryd.prog.info? 54).map (·.size)=some Z.length:=by rw[hZl];exact size32k
 obtain⟨Y,hY⟩:∃Y,Y=(tagOf key nonce ctx mixed).map b8:=⟨_,rfl⟩
 have hYl:Y.length=16:=by rw[hY,List.length_map,tagOf_len]
 have hYi:(Tryd.prog.info? 102).map (·.size)=some Y.length:=by rw[hYl];exact size16e
 have hYo:∀v∈Y,v.oneCell'=true:=by rw[hY];intro v hv;obtain⟨u,-,rfl⟩:=List.mem_map.1 hv;exact b8_one u
 obtain⟨F,hF⟩:∃F,F=fillN l:=⟨_,rfl⟩
 obtain⟨G,hG⟩:∃G,G=fillN m:=⟨_,rfl⟩
 have HF:=qq (show∀W:World,Calls Tryd.prog 45 #[.int .i64 (l:Int)] W fun e w'=>∃g,e= .returned (.slice (some ⟨g,0,none⟩) F F)∧Own b8 w' W.heap.size 5 (.slice (some ⟨g,0,none⟩) F F) (List.replicate F 0#8)∧Below W.heap.size W w' from fun W=>by rw[hF];exact fill_any l (by omega) W)
 have HG:=qq (show∀W:World,Calls Tryd.prog 45 #[.int .i64 (m:Int)] W fun e w'=>∃g,e= .returned (.slice (some ⟨g,0,none⟩) G G)∧Own b8 w' W.heap.size 5 (.slice (some ⟨g,0,none⟩) G G) (List.replicate G 0#8)∧Below W.heap.size W w' from fun W=>by rw[hG];exact fill_any m (by omega) W)
 obtain⟨N1,hN1⟩:∃N1,N1=BitVec.ofNat 64 l:=⟨_,rfl⟩
 obtain⟨N2,hN2⟩:∃N2,N2=BitVec.ofNat 64 m:=⟨_,rfl⟩
 have HMk:=qq (show∀(W8 W:World) (g g5 g6 c7 c8:Nat) (A7 A8:Option Addr),Below w3.heap.size w3 W8→Rd b8 W8 W8.heap.size (some ⟨g5,0,none⟩) (List.replicate F 0#8)→Rd b8 W8 W8.heap.size (some ⟨g6,0,none⟩) (List.replicate G 0#8)→Rd b8 W8 W8.heap.size A7 (le8 N1)→Rd b8 W8 W8.heap.size A8 (le8 N2)→Below W8.heap.size W8 W→PAs W g [(C,l,cc),(some ⟨g5,0,none⟩,F,F),(T,m,d),(some ⟨g6,0,none⟩,G,G),(A7,8,c7),(A8,8,c8)]→
  Calls Tryd.prog 44 #[.agg Z.toArray,.slice (some ⟨g,0,none⟩) 6 6] W fun e w'=>e= .returned (.agg Y.toArray)∧Below W.heap.size W w'∧Below w3.heap.size w3 w' from fun W8 W g g5 g6 c7 c8 A7 A8 hb3 h5 h6 h7 h8 hbw hp=>by
  have hbw':Below W8.heap.size W8 W:=hbw
  have hs:=hbw.size
  have hs3:=hb3.size
  have hs0:=HB3.out.size
  have rc:=(((HRc.out.below HB3.out).below (hb3.mono hs0)).below (hbw.mono (by omega))).more (show w.heap.size≤W.heap.size by omega)
  have rm:=(((HRm.out.below HB3.out).below (hb3.mono hs0)).below (hbw.mono (by omega))).more (show w.heap.size≤W.heap.size by omega)
  have hlen:∀n,(le8 n).length=8:=le8_len
  have ht:=aeadText_len ctx mixed
  have h:=mark_any W (aeadKey key nonce) (aeadKey_len _ _) W.heap.size g 0 6 6 _ (pts_pas (ps:=[((C,l,cc),ctx),((some ⟨g5,0,none⟩,F,F),List.replicate F 0#8),((T,m,d),mixed),((some ⟨g6,0,none⟩,G,G),List.replicate G 0#8),((A7,8,c7),le8 N1),((A8,8,c8),le8 N2)]) hp
   (by simpa using⟨rc,(h5.below hbw).more hs,rm,(h6.below hbw).more hs,(h7.below hbw).more hs,(h8.below hbw).more hs⟩) (by simpa[hlen]using⟨HL.out.symm,HM.out.symm⟩)) (Nat.le_refl _) rfl (by omega) (aeadText ctx mixed) (by
    unfold aeadText;rw[HL.out,HM.out,←hF,←hG,←hN1,←hN2];simp) (by rw[HL.out,HM.out]at ht;omega)
  rw[←hZ]at h
  refine h.mono ?_
  rintro e w' ⟨rfl,hbe⟩
  refine⟨?_,hbe,(hb3.trans (hbw.mono hs3)).trans (hbe.mono (by omega))⟩
  rw[hY]
  exact(Eq.refl (Ending.returned (.agg ((markV (aeadKey key nonce) (aeadText ctx mixed)).map b8).toArray))))
 have HY:=qq hY
 have HYl:=qq hYl
 clear hYl
 have HP1:=qq (show∀W:World,Calls Tryd.prog 46 #[.int .u64 (IntKind.u64.wrap (l:Int))] W fun e w'=>∃v,e= .returned v∧Own b8 w' W.heap.size 5 v (le8 N1)∧Below W.heap.size W w' from fun W=>by
  have h:=put_any N1 W
  rwa[show bv N1=IntKind.u64.wrap (l:Int) by rw[hN1,wrap_u64v];unfold bv;rw[BitVec.toNat_ofNat];omega]at h)
 have HP2:=qq (show∀W:World,Calls Tryd.prog 46 #[.int .u64 (IntKind.u64.wrap (m:Int))] W fun e w'=>∃v,e= .returned v∧Own b8 w' W.heap.size 5 v (le8 N2)∧Below W.heap.size W w' from fun W=>by
  have h:=put_any N2 W
  rwa[show bv N2=IntKind.u64.wrap (m:Int) by rw[hN2,wrap_u64v];unfold bv;rw[BitVec.toNat_ofNat];omega]at h)
 have hFb:F≤15:=by rw[hF];unfold fillN;omega
 have hGb:G≤15:=by rw[hG];unfold fillN;omega
 clear hx3 hg3 hb23 HT2 HB2 hZ hY hF hG hN1 hN2 hZl HRc HRm HRn HL HM HN HK HK1 HZk HBl
 have hsa:∀W:World,(Instr.arrayAt 54 (.slice (some ⟨w2.heap.size,0,none⟩) 32 64)).run Tryd.prog W= .ok (.pointer (some ⟨w2.heap.size,0,none⟩)) W:=fun W=>run_arrayAt W 54 5 32 (some ⟨w2.heap.size,0,none⟩) 32 64 Tryd.underlying54 (by omega)
 go_wp2_with fail
 refine wp_region_noPanic ?_
 refine wp_region_held_drew (S:=fun w'=>w'.rangeAt w2.heap.size 0 Z) (by kernel_rfl) hk3 (fun hS=>?_)
 refine wpAnyH_take (i:=0) (oi:={dst:=some 22,op:=_,type:=_,pos:=_,after:=_,guard:=_}) (v:= .slice (some ⟨w2.heap.size,0,none⟩) 32 64) rfl (by kernel_rfl) (by kernel_rfl) (by kernel_rfl) (fun _ _ _ h=>h) (Or.inl ⟨by rfl,?_⟩) hS ?_
 ·intro w' hw'
  go_simp
 try simp only[Act.put,qj,qz,qv]
 refine wpAnyH_take (i:=1) (oi:={dst:=some 23,op:=_,type:=_,pos:=_,after:=_,guard:=_}) (v:= .pointer (some ⟨w2.heap.size,0,none⟩)) rfl (by kernel_rfl) (by kernel_rfl) (by kernel_rfl) (fun _ _ _ h=>h) (Or.inl ⟨by rfl,?_⟩) hS ?_
 ·intro w' hw'
  go_simp
 try simp only[Act.put,qj,qz,qv]
 refine wpAnyH_take (i:=2) (oi:={dst:=some 24,op:=_,type:=_,pos:=_,after:=_,guard:=_}) (v:= .agg Z.toArray) rfl (by kernel_rfl) (by kernel_rfl) (by kernel_rfl) (fun _ _ _ h=>h) (yieldsIf_load_mid (by rfl) 54 (.tmp 23) rfl w2.heap.size 0 rfl Z _ (fun _ h=>h) hu rfl hi32) hS ?_
 try simp only[Act.put,qj,qz,qv]
 refine wpAnyH_take (i:=3) (oi:={dst:=some 25,op:=_,type:=_,pos:=_,after:=_,guard:=_}) (v:= .slice C l cc) rfl (by kernel_rfl) (by kernel_rfl) (by kernel_rfl) (fun _ _ _ h=>h) (Or.inl ⟨by rfl,?_⟩) hS ?_
 ·intro w' hw'
  go_simp
 try simp only[Act.put,qj,qz,qv]
 refine wpAnyH_take (i:=4) (oi:={dst:=some 26,op:=_,type:=_,pos:=_,after:=_,guard:=_}) (v:= .slice C l cc) rfl (by kernel_rfl) (by kernel_rfl) (by kernel_rfl) (fun _ _ _ h=>h) (Or.inl ⟨by rfl,?_⟩) hS ?_
 ·intro w' hw'
  go_simp
 try simp only[Act.put,qj,qz,qv]
 refine wpAnyH_take (i:=5) (oi:={dst:=some 27,op:=_,type:=_,pos:=_,after:=_,guard:=_}) (v:= .int .i64 (l:Int)) rfl (by kernel_rfl) (by kernel_rfl) (by kernel_rfl) (fun _ _ _ h=>h) (Or.inl ⟨by rfl,?_⟩) hS ?_
 ·intro w' hw'
  go_simp
 try simp only[Act.put,qj,qz,qv]
 refine wpAnyH_take (i:=7) (oi:={dst:=some 29,op:=_,type:=_,pos:=_,after:=_,guard:=_}) (v:= .slice T m d) rfl (by kernel_rfl) (by kernel_rfl) (by kernel_rfl) (fun _ _ _ h=>h) (Or.inl ⟨by rfl,?_⟩) hS ?_
 ·intro w' hw'
  go_simp
 try simp only[Act.put,qj,qz,qv]
 refine wpAnyH_take (i:=8) (oi:={dst:=some 30,op:=_,type:=_,pos:=_,after:=_,guard:=_}) (v:= .slice T m d) rfl (by kernel_rfl) (by kernel_rfl) (by kernel_rfl) (fun _ _ _ h=>h) (Or.inl ⟨by rfl,?_⟩) hS ?_
 ·intro w' hw'
  go_simp
 try simp only[Act.put,qj,qz,qv]
 refine wpAnyH_take (i:=9) (oi:={dst:=some 31,op:=_,type:=_,pos:=_,after:=_,guard:=_}) (v:= .int .i64 (m:Int)) rfl (by kernel_rfl) (by kernel_rfl) (by kernel_rfl) (fun _ _ _ h=>h) (Or.inl ⟨by rfl,?_⟩) hS ?_
 ·intro w' hw'
  go_simp
 try simp only[Act.put,qj,qz,qv]
 refine wpAnyH_take (i:=11) (oi:={dst:=some 33,op:=_,type:=_,pos:=_,after:=_,guard:=_}) (v:= .slice C l cc) rfl (by kernel_rfl) (by kernel_rfl) (by kernel_rfl) (fun _ _ _ h=>h) (Or.inl ⟨by rfl,?_⟩) hS ?_
 ·intro w' hw'
  go_simp
 try simp only[Act.put,qj,qz,qv]
 refine wpAnyH_take (i:=12) (oi:={dst:=some 34,op:=_,type:=_,pos:=_,after:=_,guard:=_}) (v:= .int .i64 (l:Int)) rfl (by kernel_rfl) (by kernel_rfl) (by kernel_rfl) (fun _ _ _ h=>h) (Or.inl ⟨by rfl,?_⟩) hS ?_
 ·intro w' hw'
  go_simp
 try simp only[Act.put,qj,qz,qv]
 refine wpAnyH_take (i:=13) (oi:={dst:=some 35,op:=_,type:=_,pos:=_,after:=_,guard:=_}) (v:= .int .u64 (IntKind.u64.wrap (l:Int))) rfl (by kernel_rfl) (by kernel_rfl) (by kernel_rfl) (fun _ _ _ h=>h) (Or.inl ⟨by rfl,?_⟩) hS ?_
 ·intro w' hw'
  go_simp
 try simp only[Act.put,qj,qz,qv]
 refine wpAnyH_take (i:=15) (oi:={dst:=some 37,op:=_,type:=_,pos:=_,after:=_,guard:=_}) (v:= .slice T m d) rfl (by kernel_rfl) (by kernel_rfl) (by kernel_rfl) (fun _ _ _ h=>h) (Or.inl ⟨by rfl,?_⟩) hS ?_
 ·intro w' hw'
  go_simp
 try simp only[Act.put,qj,qz,qv]
 refine wpAnyH_take (i:=16) (oi:={dst:=some 38,op:=_,type:=_,pos:=_,after:=_,guard:=_}) (v:= .int .i64 (m:Int)) rfl (by kernel_rfl) (by kernel_rfl) (by kernel_rfl) (fun _ _ _ h=>h) (Or.inl ⟨by rfl,?_⟩) hS ?_
 ·intro w' hw'
  go_simp
 try simp only[Act.put,qj,qz,qv]
 refine wpAnyH_take (i:=17) (oi:={dst:=some 39,op:=_,type:=_,pos:=_,after:=_,guard:=_}) (v:= .int .u64 (IntKind.u64.wrap (m:Int))) rfl (by kernel_rfl) (by kernel_rfl) (by kernel_rfl) (fun _ _ _ h=>h) (Or.inl ⟨by rfl,?_⟩) hS ?_
 ·intro w' hw'
  go_simp
 try simp only[Act.put,qj,qz,qv]
 refine wpAnyH_ready (rs:=[6,21]) (by kernel_rfl) (by simp) (AllReadyH.cons (o:={dst:=some 28,op:=_,type:=_,pos:=_,after:=_,guard:=_}) rfl (fun K' hK=>?_) (AllReadyH.cons (o:={dst:=some 12,op:=_,type:=_,pos:=_,after:=_,guard:=_}) rfl (fun K' hK=>?_) AllReadyH.nil))
 ·
  go_simp
  go_at_call 45
  refine(HF.out _).mono ?_
  rintro e w5 ⟨g5,rfl,ho5,hb5⟩
  have HX5:=qq (show Below w3.heap.size w3 w5 from below_step (by(repeat(first|(refine bel_sc ?_ (by omega))|exact Below.refl _ _|refine bel_al ?_|refine bel_dr ?_))) hb5)
  have hs5:=HX5.out.size
  have H55:=qq ho5.rd
  clear ho5 hb5
  refine hK.out _ _ (HR3.out _ (by(repeat(first|exact HX5.out|(refine bel_sc ?_ (by omega))|exact Below.refl _ _|refine bel_al ?_|refine bel_dr ?_)))) (fun hS=>?_)
  clear hK K'
  try simp only[Act.put,qj,qz,qv]
  refine wpAnyH_ready (rs:=[10,21]) (by kernel_rfl) (by simp) (AllReadyH.cons (o:={dst:=some 32,op:=_,type:=_,pos:=_,after:=_,guard:=_}) rfl (fun K' hK=>?_) (AllReadyH.cons (o:={dst:=some 12,op:=_,type:=_,pos:=_,after:=_,guard:=_}) rfl (fun K' hK=>?_) AllReadyH.nil))
  ·
   go_simp
   go_at_call 45
   refine(HG.out _).mono ?_
   rintro e w6 ⟨g6,rfl,ho6,hb6⟩
   have HY6:=qq (show Below w5.heap.size w5 w6 from below_step (by(repeat(first|(refine bel_sc ?_ (by omega))|exact Below.refl _ _|refine bel_al ?_|refine bel_dr ?_))) hb6)
   have HX6:=qq (HX5.out.trans (HY6.out.mono HX5.out.size))
   have hs6:=HY6.out.size
   have H56:=qq ((H55.out.below HY6.out).more HY6.out.size)
   have H66:=qq ho6.rd
   clear ho6 hb6
   refine hK.out _ _ (HR3.out _ (by(repeat(first|exact HX6.out|(refine bel_sc ?_ (by omega))|exact Below.refl _ _|refine bel_al ?_|refine bel_dr ?_)))) (fun hS=>?_)
   clear hK K'
   try simp only[Act.put,qj,qz,qv]
   refine wpAnyH_ready (rs:=[14,21]) (by kernel_rfl) (by simp) (AllReadyH.cons (o:={dst:=some 36,op:=_,type:=_,pos:=_,after:=_,guard:=_}) rfl (fun K' hK=>?_) (AllReadyH.cons (o:={dst:=some 12,op:=_,type:=_,pos:=_,after:=_,guard:=_}) rfl (fun K' hK=>?_) AllReadyH.nil))
   ·
    go_simp
    go_at_call 46
    refine(HP1.out _).mono ?_
    rintro e w7 ⟨v7,rfl,ho7,hb7⟩
    obtain⟨A7,c7,rfl,hr7,-,-,-⟩:=ho7.shape' (le8_len _)
    have HY7:=qq (show Below w6.heap.size w6 w7 from below_step (by(repeat(first|(refine bel_sc ?_ (by omega))|exact Below.refl _ _|refine bel_al ?_|refine bel_dr ?_))) hb7)
    have HX7:=qq (HX6.out.trans (HY7.out.mono HX6.out.size))
    have hs7:=HY7.out.size
    have H57:=qq ((H56.out.below HY7.out).more HY7.out.size)
    have H67:=qq ((H66.out.below HY7.out).more HY7.out.size)
    have H77:=qq hr7
    clear ho7 hb7 hr7
    refine hK.out _ _ (HR3.out _ (by(repeat(first|exact HX7.out|(refine bel_sc ?_ (by omega))|exact Below.refl _ _|refine bel_al ?_|refine bel_dr ?_)))) (fun hS=>?_)
    clear hK K'
    try simp only[Act.put,qj,qz,qv]
    refine wpAnyH_ready (rs:=[18,21]) (by kernel_rfl) (by simp) (AllReadyH.cons (o:={dst:=some 40,op:=_,type:=_,pos:=_,after:=_,guard:=_}) rfl (fun K' hK=>?_) (AllReadyH.cons (o:={dst:=some 12,op:=_,type:=_,pos:=_,after:=_,guard:=_}) rfl (fun K' hK=>?_) AllReadyH.nil))
    ·
     go_simp
     go_at_call 46
     refine(HP2.out _).mono ?_
     rintro e w8 ⟨v8,rfl,ho8,hb8⟩
     obtain⟨A8,c8,rfl,hr8,-,-,-⟩:=ho8.shape' (le8_len _)
     have HY8:=qq (show Below w7.heap.size w7 w8 from below_step (by(repeat(first|(refine bel_sc ?_ (by omega))|exact Below.refl _ _|refine bel_al ?_|refine bel_dr ?_))) hb8)
     have HX8:=qq (HX7.out.trans (HY8.out.mono HX7.out.size))
     have hs8:=HY8.out.size
     have H58:=qq ((H57.out.below HY8.out).more HY8.out.size)
     have H68:=qq ((H67.out.below HY8.out).more HY8.out.size)
     have H78:=qq ((H77.out.below HY8.out).more HY8.out.size)
     have H88:=qq hr8
     clear ho8 hb8 hr8
     refine hK.out _ _ (HR3.out _ (by(repeat(first|exact HX8.out|(refine bel_sc ?_ (by omega))|exact Below.refl _ _|refine bel_al ?_|refine bel_dr ?_)))) (fun hS=>?_)
     clear hK K'
     try simp only[Act.put,qj,qz,qv]
     refine wpAnyH_ready (rs:=[19,21]) (by kernel_rfl) (by simp) (AllReadyH.cons (o:={dst:=some 41,op:=_,type:=_,pos:=_,after:=_,guard:=_}) rfl (fun K' hK=>?_) (AllReadyH.cons (o:={dst:=some 12,op:=_,type:=_,pos:=_,after:=_,guard:=_}) rfl (fun K' hK=>?_) AllReadyH.nil))
     ·
      go_simp
      refine hK.out _ _ (HR3.out _ (by(repeat(first|exact HX8.out|(refine bel_sc ?_ (by omega))|exact Below.refl _ _|refine bel_al ?_|refine bel_dr ?_)))) (fun hS=>?_)
      clear hK K'
      try simp only[Act.put,qj,qz,qv]
      refine wpAnyH_ready (rs:=[20,21]) (by kernel_rfl) (by simp) (AllReadyH.cons (o:={dst:=some 42,op:=_,type:=_,pos:=_,after:=_,guard:=_}) rfl (fun K' hK=>?_) (AllReadyH.cons (o:={dst:=some 12,op:=_,type:=_,pos:=_,after:=_,guard:=_}) rfl (fun K' hK=>?_) AllReadyH.nil))
      ·
       go_simp
       go_at_call 44
       refine(HMk.out w8 _ _ g5 g6 c7 c8 A7 A8 HX8.out H58.out H68.out H78.out H88.out ?_ ?_).mono ?_
       focus((repeat(first|(refine bel_sc ?_ (by omega))|exact Below.refl _ _|refine bel_al ?_|refine bel_dr ?_)))
       focus(repeat(first|(refine pas_new ?_ ?_;(focus(first|rfl|(simp;done)));rfl)|refine pas_al ?_|refine pas_dr ?_))
       rintro e w9 ⟨rfl,hb9,hx9⟩
       have HX9:=qq hx9
       have HY9:=qq (show Below w8.heap.size w8 w9 from below_step (by(repeat(first|(refine bel_sc ?_ (by omega))|exact Below.refl _ _|refine bel_al ?_|refine bel_dr ?_))) hb9)
       have hs9:=HY9.out.size
       clear hb9 hx9
       refine hK.out _ _ (HR3.out _ (by(repeat(first|exact HX9.out|(refine bel_sc ?_ (by omega))|exact Below.refl _ _|refine bel_al ?_|refine bel_dr ?_)))) (fun hS=>?_)
       clear hK K'
       try simp only[Act.put,qj,qz,qv]
       refine wpAnyH_ready (rs:=[21]) (by kernel_rfl) (by simp) (AllReadyH.cons (o:={dst:=some 12,op:=_,type:=_,pos:=_,after:=_,guard:=_}) rfl (fun K' hK=>?_) AllReadyH.nil)
       go_simp
       refine hK.out _ _ (HR3.out _ (by(repeat(first|exact HX9.out|(refine bel_sc ?_ (by omega))|exact Below.refl _ _|refine bel_al ?_|refine bel_dr ?_)))) (fun hS=>?_)
       clear hK K'
       try simp only[Act.put,qj,qz,qv]
       have HZ:Hid (PZ (w9.alloc _) w9.heap.size):=qq (pz_new rfl rfl)
       refine wpAnyH_ready (rs:=[22]) (by kernel_rfl) (by simp) (AllReadyH.cons (o:={dst:=none,op:=_,type:=_,pos:=_,after:=_,guard:=_}) rfl (fun K' hK=>?_) AllReadyH.nil)
       have hth:=pz_there HZ.out HYl.out
       rw[if_pos (by rfl)]
       refine wp_store_mid _ _ _ rfl _ _ (List.toArray _) rfl rfl ?_ ?_ (all_oneCell_toArray (by assumption)) ?_
       ·first|assumption|(simp only[List.size_toArray, *]<;>assumption)
       ·first|assumption|(simp only[List.size_toArray]<;>assumption)|(simp only[List.size_toArray, *])
       simp only[Act.put,qj,qz,qv,List.toList_toArray]
       refine hK.out _ _ (HR3.out _ (by(repeat(first|exact HX9.out|(refine bel_sc ?_ (by omega))|exact Below.refl _ _|refine bel_al ?_|refine bel_dr ?_)))) (fun hS=>?_)
       clear hK K'
       try simp only[Act.put,qj,qz,qv]
       refine wpAnyH_done (by kernel_rfl) ?_ _
       refine NoPanic.normal ?_
       have HF9:=qq (pz_mark HZ.out HY.out (tagOf_len key nonce ctx mixed))
       have hs0:=HB3.out.size
       go_wp2_with fail
       go_ret2
       exact⟨_,rfl,by omega,HF9.out,HB3.out.trans (Below.mono (B:=w3.heap.size) (by(repeat(first|exact HX9.out|(refine bel_sc ?_ (by omega))|exact Below.refl _ _|refine bel_al ?_|refine bel_dr ?_))) HB3.out.size)⟩
      ·
       go_simp
       refine hK.out _ _ (HR3.out _ (by(repeat(first|exact HX8.out|(refine bel_sc ?_ (by omega))|exact Below.refl _ _|refine bel_al ?_|refine bel_dr ?_)))) (fun hS=>?_)
       clear hK K'
       try simp only[Act.put,qj,qz,qv]
       refine wpAnyH_ready (rs:=[20]) (by kernel_rfl) (by simp) (AllReadyH.cons (o:={dst:=some 42,op:=_,type:=_,pos:=_,after:=_,guard:=_}) rfl (fun K' hK=>?_) AllReadyH.nil)
       go_simp
       go_at_call 44
       refine(HMk.out w8 _ _ g5 g6 c7 c8 A7 A8 HX8.out H58.out H68.out H78.out H88.out ?_ ?_).mono ?_
       focus((repeat(first|(refine bel_sc ?_ (by omega))|exact Below.refl _ _|refine bel_al ?_|refine bel_dr ?_)))
       focus(repeat(first|(refine pas_new ?_ ?_;(focus(first|rfl|(simp;done)));rfl)|refine pas_al ?_|refine pas_dr ?_))
       rintro e w9 ⟨rfl,hb9,hx9⟩
       have HX9:=qq hx9
       have HY9:=qq (show Below w8.heap.size w8 w9 from below_step (by(repeat(first|(refine bel_sc ?_ (by omega))|exact Below.refl _ _|refine bel_al ?_|refine bel_dr ?_))) hb9)
       have hs9:=HY9.out.size
       have HZ:Hid (PZ w9 (w8.heap.size+1)):=by
        refine qq (pz_bel hb9 ?_)
        simp only[pz_newS,pz_alS,pz_drS,World.size_alloc]
       clear hb9 hx9
       refine hK.out _ _ (HR3.out _ (by(repeat(first|exact HX9.out|(refine bel_sc ?_ (by omega))|exact Below.refl _ _|refine bel_al ?_|refine bel_dr ?_)))) (fun hS=>?_)
       clear hK K'
       try simp only[Act.put,qj,qz,qv]
       refine wpAnyH_ready (rs:=[22]) (by kernel_rfl) (by simp) (AllReadyH.cons (o:={dst:=none,op:=_,type:=_,pos:=_,after:=_,guard:=_}) rfl (fun K' hK=>?_) AllReadyH.nil)
       have hth:=pz_there HZ.out HYl.out
       rw[if_pos (by rfl)]
       refine wp_store_mid _ _ _ rfl _ _ (List.toArray _) rfl rfl ?_ ?_ (all_oneCell_toArray (by assumption)) ?_
       ·first|assumption|(simp only[List.size_toArray, *]<;>assumption)
       ·first|assumption|(simp only[List.size_toArray]<;>assumption)|(simp only[List.size_toArray, *])
       simp only[Act.put,qj,qz,qv,List.toList_toArray]
       refine hK.out _ _ (HR3.out _ (by(repeat(first|exact HX9.out|(refine bel_sc ?_ (by omega))|exact Below.refl _ _|refine bel_al ?_|refine bel_dr ?_)))) (fun hS=>?_)
       clear hK K'
       try simp only[Act.put,qj,qz,qv]
       refine wpAnyH_done (by kernel_rfl) ?_ _
       refine NoPanic.normal ?_
       have HF9:=qq (pz_mark HZ.out HY.out (tagOf_len key nonce ctx mixed))
       have hs0:=HB3.out.size
       go_wp2_with fail
       go_ret2
       exact⟨_,rfl,by omega,HF9.out,HB3.out.trans (Below.mono (B:=w3.heap.size) (by(repeat(first|exact HX9.out|(refine bel_sc ?_ (by omega))|exact Below.refl _ _|refine bel_al ?_|refine bel_dr ?_))) HB3.out.size)⟩
     ·
      go_simp
      refine hK.out _ _ (HR3.out _ (by(repeat(first|exact HX8.out|(refine bel_sc ?_ (by omega))|exact Below.refl _ _|refine bel_al ?_|refine bel_dr ?_)))) (fun hS=>?_)
      clear hK K'
      try simp only[Act.put,qj,qz,qv]
      refine wpAnyH_ready (rs:=[19]) (by kernel_rfl) (by simp) (AllReadyH.cons (o:={dst:=some 41,op:=_,type:=_,pos:=_,after:=_,guard:=_}) rfl (fun K' hK=>?_) AllReadyH.nil)
      go_simp
      refine hK.out _ _ (HR3.out _ (by(repeat(first|exact HX8.out|(refine bel_sc ?_ (by omega))|exact Below.refl _ _|refine bel_al ?_|refine bel_dr ?_)))) (fun hS=>?_)
      clear hK K'
      try simp only[Act.put,qj,qz,qv]
      refine wpAnyH_ready (rs:=[20]) (by kernel_rfl) (by simp) (AllReadyH.cons (o:={dst:=some 42,op:=_,type:=_,pos:=_,after:=_,guard:=_}) rfl (fun K' hK=>?_) AllReadyH.nil)
      go_simp
      go_at_call 44
      refine(HMk.out w8 _ _ g5 g6 c7 c8 A7 A8 HX8.out H58.out H68.out H78.out H88.out ?_ ?_).mono ?_
      focus((repeat(first|(refine bel_sc ?_ (by omega))|exact Below.refl _ _|refine bel_al ?_|refine bel_dr ?_)))
      focus(repeat(first|(refine pas_new ?_ ?_;(focus(first|rfl|(simp;done)));rfl)|refine pas_al ?_|refine pas_dr ?_))
      rintro e w9 ⟨rfl,hb9,hx9⟩
      have HX9:=qq hx9
      have HY9:=qq (show Below w8.heap.size w8 w9 from below_step (by(repeat(first|(refine bel_sc ?_ (by omega))|exact Below.refl _ _|refine bel_al ?_|refine bel_dr ?_))) hb9)
      have hs9:=HY9.out.size
      have HZ:Hid (PZ w9 (w8.heap.size)):=by
       refine qq (pz_bel hb9 ?_)
       simp only[pz_newS,pz_alS,pz_drS,World.size_alloc]
      clear hb9 hx9
      refine hK.out _ _ (HR3.out _ (by(repeat(first|exact HX9.out|(refine bel_sc ?_ (by omega))|exact Below.refl _ _|refine bel_al ?_|refine bel_dr ?_)))) (fun hS=>?_)
      clear hK K'
      try simp only[Act.put,qj,qz,qv]
      refine wpAnyH_ready (rs:=[22]) (by kernel_rfl) (by simp) (AllReadyH.cons (o:={dst:=none,op:=_,type:=_,pos:=_,after:=_,guard:=_}) rfl (fun K' hK=>?_) AllReadyH.nil)
      have hth:=pz_there HZ.out HYl.out
      rw[if_pos (by rfl)]
      refine wp_store_mid _ _ _ rfl _ _ (List.toArray _) rfl rfl ?_ ?_ (all_oneCell_toArray (by assumption)) ?_
      ·first|assumption|(simp only[List.size_toArray, *]<;>assumption)
      ·first|assumption|(simp only[List.size_toArray]<;>assumption)|(simp only[List.size_toArray, *])
      simp only[Act.put,qj,qz,qv,List.toList_toArray]
      refine hK.out _ _ (HR3.out _ (by(repeat(first|exact HX9.out|(refine bel_sc ?_ (by omega))|exact Below.refl _ _|refine bel_al ?_|refine bel_dr ?_)))) (fun hS=>?_)
      clear hK K'
      try simp only[Act.put,qj,qz,qv]
      refine wpAnyH_done (by kernel_rfl) ?_ _
      refine NoPanic.normal ?_
      have HF9:=qq (pz_mark HZ.out HY.out (tagOf_len key nonce ctx mixed))
      have hs0:=HB3.out.size
      go_wp2_with fail
      go_ret2
      exact⟨_,rfl,by omega,HF9.out,HB3.out.trans (Below.mono (B:=w3.heap.size) (by(repeat(first|exact HX9.out|(refine bel_sc ?_ (by omega))|exact Below.refl _ _|refine bel_al ?_|refine bel_dr ?_))) HB3.out.size)⟩
    ·
     go_simp
     refine hK.out _ _ (HR3.out _ (by(repeat(first|exact HX7.out|(refine bel_sc ?_ (by omega))|exact Below.refl _ _|refine bel_al ?_|refine bel_dr ?_)))) (fun hS=>?_)
     clear hK K'
     try simp only[Act.put,qj,qz,qv]
     refine wpAnyH_ready (rs:=[18]) (by kernel_rfl) (by simp) (AllReadyH.cons (o:={dst:=some 40,op:=_,type:=_,pos:=_,after:=_,guard:=_}) rfl (fun K' hK=>?_) AllReadyH.nil)
     go_simp
     go_at_call 46
     refine(HP2.out _).mono ?_
     rintro e w8 ⟨v8,rfl,ho8,hb8⟩
     obtain⟨A8,c8,rfl,hr8,-,-,-⟩:=ho8.shape' (le8_len _)
     have HY8:=qq (show Below w7.heap.size w7 w8 from below_step (by(repeat(first|(refine bel_sc ?_ (by omega))|exact Below.refl _ _|refine bel_al ?_|refine bel_dr ?_))) hb8)
     have HX8:=qq (HX7.out.trans (HY8.out.mono HX7.out.size))
     have hs8:=HY8.out.size
     have H58:=qq ((H57.out.below HY8.out).more HY8.out.size)
     have H68:=qq ((H67.out.below HY8.out).more HY8.out.size)
     have H78:=qq ((H77.out.below HY8.out).more HY8.out.size)
     have H88:=qq hr8
     have HZ:Hid (PZ w8 (w7.heap.size)):=by
      refine qq (pz_bel hb8 ?_)
      simp only[pz_newS,pz_alS,pz_drS,World.size_alloc]
     clear ho8 hb8 hr8
     refine hK.out _ _ (HR3.out _ (by(repeat(first|exact HX8.out|(refine bel_sc ?_ (by omega))|exact Below.refl _ _|refine bel_al ?_|refine bel_dr ?_)))) (fun hS=>?_)
     clear hK K'
     try simp only[Act.put,qj,qz,qv]
     refine wpAnyH_ready (rs:=[19]) (by kernel_rfl) (by simp) (AllReadyH.cons (o:={dst:=some 41,op:=_,type:=_,pos:=_,after:=_,guard:=_}) rfl (fun K' hK=>?_) AllReadyH.nil)
     go_simp
     refine hK.out _ _ (HR3.out _ (by(repeat(first|exact HX8.out|(refine bel_sc ?_ (by omega))|exact Below.refl _ _|refine bel_al ?_|refine bel_dr ?_)))) (fun hS=>?_)
     clear hK K'
     try simp only[Act.put,qj,qz,qv]
     refine wpAnyH_ready (rs:=[20]) (by kernel_rfl) (by simp) (AllReadyH.cons (o:={dst:=some 42,op:=_,type:=_,pos:=_,after:=_,guard:=_}) rfl (fun K' hK=>?_) AllReadyH.nil)
     go_simp
     go_at_call 44
     refine(HMk.out w8 _ _ g5 g6 c7 c8 A7 A8 HX8.out H58.out H68.out H78.out H88.out ?_ ?_).mono ?_
     focus((repeat(first|(refine bel_sc ?_ (by omega))|exact Below.refl _ _|refine bel_al ?_|refine bel_dr ?_)))
     focus(repeat(first|(refine pas_new ?_ ?_;(focus(first|rfl|(simp;done)));rfl)|refine pas_al ?_|refine pas_dr ?_))
     rintro e w9 ⟨rfl,hb9,hx9⟩
     have HX9:=qq hx9
     have HY9:=qq (show Below w8.heap.size w8 w9 from below_step (by(repeat(first|(refine bel_sc ?_ (by omega))|exact Below.refl _ _|refine bel_al ?_|refine bel_dr ?_))) hb9)
     have hs9:=HY9.out.size
     have HZ:=qq (pz_bel HY9.out HZ.out)
     clear hb9 hx9
     refine hK.out _ _ (HR3.out _ (by(repeat(first|exact HX9.out|(refine bel_sc ?_ (by omega))|exact Below.refl _ _|refine bel_al ?_|refine bel_dr ?_)))) (fun hS=>?_)
     clear hK K'
     try simp only[Act.put,qj,qz,qv]
     refine wpAnyH_ready (rs:=[22]) (by kernel_rfl) (by simp) (AllReadyH.cons (o:={dst:=none,op:=_,type:=_,pos:=_,after:=_,guard:=_}) rfl (fun K' hK=>?_) AllReadyH.nil)
     have hth:=pz_there HZ.out HYl.out
     rw[if_pos (by rfl)]
     refine wp_store_mid _ _ _ rfl _ _ (List.toArray _) rfl rfl ?_ ?_ (all_oneCell_toArray (by assumption)) ?_
     ·first|assumption|(simp only[List.size_toArray, *]<;>assumption)
     ·first|assumption|(simp only[List.size_toArray]<;>assumption)|(simp only[List.size_toArray, *])
     simp only[Act.put,qj,qz,qv,List.toList_toArray]
     refine hK.out _ _ (HR3.out _ (by(repeat(first|exact HX9.out|(refine bel_sc ?_ (by omega))|exact Below.refl _ _|refine bel_al ?_|refine bel_dr ?_)))) (fun hS=>?_)
     clear hK K'
     try simp only[Act.put,qj,qz,qv]
     refine wpAnyH_done (by kernel_rfl) ?_ _
     refine NoPanic.normal ?_
     have HF9:=qq (pz_mark HZ.out HY.out (tagOf_len key nonce ctx mixed))
     have hs0:=HB3.out.size
     go_wp2_with fail
     go_ret2
     exact⟨_,rfl,by omega,HF9.out,HB3.out.trans (Below.mono (B:=w3.heap.size) (by(repeat(first|exact HX9.out|(refine bel_sc ?_ (by omega))|exact Below.refl _ _|refine bel_al ?_|refine bel_dr ?_))) HB3.out.size)⟩
   ·
    go_simp
    refine hK.out _ _ (HR3.out _ (by(repeat(first|exact HX6.out|(refine bel_sc ?_ (by omega))|exact Below.refl _ _|refine bel_al ?_|refine bel_dr ?_)))) (fun hS=>?_)
    clear hK K'
    try simp only[Act.put,qj,qz,qv]
    refine wpAnyH_ready (rs:=[14]) (by kernel_rfl) (by simp) (AllReadyH.cons (o:={dst:=some 36,op:=_,type:=_,pos:=_,after:=_,guard:=_}) rfl (fun K' hK=>?_) AllReadyH.nil)
    go_simp
    go_at_call 46
    refine(HP1.out _).mono ?_
    rintro e w7 ⟨v7,rfl,ho7,hb7⟩
    obtain⟨A7,c7,rfl,hr7,-,-,-⟩:=ho7.shape' (le8_len _)
    have HY7:=qq (show Below w6.heap.size w6 w7 from below_step (by(repeat(first|(refine bel_sc ?_ (by omega))|exact Below.refl _ _|refine bel_al ?_|refine bel_dr ?_))) hb7)
    have HX7:=qq (HX6.out.trans (HY7.out.mono HX6.out.size))
    have hs7:=HY7.out.size
    have H57:=qq ((H56.out.below HY7.out).more HY7.out.size)
    have H67:=qq ((H66.out.below HY7.out).more HY7.out.size)
    have H77:=qq hr7
    have HZ:Hid (PZ w7 (w6.heap.size)):=by
     refine qq (pz_bel hb7 ?_)
     simp only[pz_newS,pz_alS,pz_drS,World.size_alloc]
    clear ho7 hb7 hr7
    refine hK.out _ _ (HR3.out _ (by(repeat(first|exact HX7.out|(refine bel_sc ?_ (by omega))|exact Below.refl _ _|refine bel_al ?_|refine bel_dr ?_)))) (fun hS=>?_)
    clear hK K'
    try simp only[Act.put,qj,qz,qv]
    refine wpAnyH_ready (rs:=[18]) (by kernel_rfl) (by simp) (AllReadyH.cons (o:={dst:=some 40,op:=_,type:=_,pos:=_,after:=_,guard:=_}) rfl (fun K' hK=>?_) AllReadyH.nil)
    go_simp
    go_at_call 46
    refine(HP2.out _).mono ?_
    rintro e w8 ⟨v8,rfl,ho8,hb8⟩
    obtain⟨A8,c8,rfl,hr8,-,-,-⟩:=ho8.shape' (le8_len _)
    have HY8:=qq (show Below w7.heap.size w7 w8 from below_step (by(repeat(first|(refine bel_sc ?_ (by omega))|exact Below.refl _ _|refine bel_al ?_|refine bel_dr ?_))) hb8)
    have HX8:=qq (HX7.out.trans (HY8.out.mono HX7.out.size))
    have hs8:=HY8.out.size
    have H58:=qq ((H57.out.below HY8.out).more HY8.out.size)
    have H68:=qq ((H67.out.below HY8.out).more HY8.out.size)
    have H78:=qq ((H77.out.below HY8.out).more HY8.out.size)
    have H88:=qq hr8
    have HZ:=qq (pz_bel HY8.out HZ.out)
    clear ho8 hb8 hr8
    refine hK.out _ _ (HR3.out _ (by(repeat(first|exact HX8.out|(refine bel_sc ?_ (by omega))|exact Below.refl _ _|refine bel_al ?_|refine bel_dr ?_)))) (fun hS=>?_)
    clear hK K'
    try simp only[Act.put,qj,qz,qv]
    refine wpAnyH_ready (rs:=[19]) (by kernel_rfl) (by simp) (AllReadyH.cons (o:={dst:=some 41,op:=_,type:=_,pos:=_,after:=_,guard:=_}) rfl (fun K' hK=>?_) AllReadyH.nil)
    go_simp
    refine hK.out _ _ (HR3.out _ (by(repeat(first|exact HX8.out|(refine bel_sc ?_ (by omega))|exact Below.refl _ _|refine bel_al ?_|refine bel_dr ?_)))) (fun hS=>?_)
    clear hK K'
    try simp only[Act.put,qj,qz,qv]
    refine wpAnyH_ready (rs:=[20]) (by kernel_rfl) (by simp) (AllReadyH.cons (o:={dst:=some 42,op:=_,type:=_,pos:=_,after:=_,guard:=_}) rfl (fun K' hK=>?_) AllReadyH.nil)
    go_simp
    go_at_call 44
    refine(HMk.out w8 _ _ g5 g6 c7 c8 A7 A8 HX8.out H58.out H68.out H78.out H88.out ?_ ?_).mono ?_
    focus((repeat(first|(refine bel_sc ?_ (by omega))|exact Below.refl _ _|refine bel_al ?_|refine bel_dr ?_)))
    focus(repeat(first|(refine pas_new ?_ ?_;(focus(first|rfl|(simp;done)));rfl)|refine pas_al ?_|refine pas_dr ?_))
    rintro e w9 ⟨rfl,hb9,hx9⟩
    have HX9:=qq hx9
    have HY9:=qq (show Below w8.heap.size w8 w9 from below_step (by(repeat(first|(refine bel_sc ?_ (by omega))|exact Below.refl _ _|refine bel_al ?_|refine bel_dr ?_))) hb9)
    have hs9:=HY9.out.size
    have HZ:=qq (pz_bel HY9.out HZ.out)
    clear hb9 hx9
    refine hK.out _ _ (HR3.out _ (by(repeat(first|exact HX9.out|(refine bel_sc ?_ (by omega))|exact Below.refl _ _|refine bel_al ?_|refine bel_dr ?_)))) (fun hS=>?_)
    clear hK K'
    try simp only[Act.put,qj,qz,qv]
    refine wpAnyH_ready (rs:=[22]) (by kernel_rfl) (by simp) (AllReadyH.cons (o:={dst:=none,op:=_,type:=_,pos:=_,after:=_,guard:=_}) rfl (fun K' hK=>?_) AllReadyH.nil)
    have hth:=pz_there HZ.out HYl.out
    rw[if_pos (by rfl)]
    refine wp_store_mid _ _ _ rfl _ _ (List.toArray _) rfl rfl ?_ ?_ (all_oneCell_toArray (by assumption)) ?_
    ·first|assumption|(simp only[List.size_toArray, *]<;>assumption)
    ·first|assumption|(simp only[List.size_toArray]<;>assumption)|(simp only[List.size_toArray, *])
    simp only[Act.put,qj,qz,qv,List.toList_toArray]
    refine hK.out _ _ (HR3.out _ (by(repeat(first|exact HX9.out|(refine bel_sc ?_ (by omega))|exact Below.refl _ _|refine bel_al ?_|refine bel_dr ?_)))) (fun hS=>?_)
    clear hK K'
    try simp only[Act.put,qj,qz,qv]
    refine wpAnyH_done (by kernel_rfl) ?_ _
    refine NoPanic.normal ?_
    have HF9:=qq (pz_mark HZ.out HY.out (tagOf_len key nonce ctx mixed))
    have hs0:=HB3.out.size
    go_wp2_with fail
    go_ret2
    exact⟨_,rfl,by omega,HF9.out,HB3.out.trans (Below.mono (B:=w3.heap.size) (by(repeat(first|exact HX9.out|(refine bel_sc ?_ (by omega))|exact Below.refl _ _|refine bel_al ?_|refine bel_dr ?_))) HB3.out.size)⟩
  ·
   go_simp
   refine hK.out _ _ (HR3.out _ (by(repeat(first|exact HX5.out|(refine bel_sc ?_ (by omega))|exact Below.refl _ _|refine bel_al ?_|refine bel_dr ?_)))) (fun hS=>?_)
   clear hK K'
   try simp only[Act.put,qj,qz,qv]
   refine wpAnyH_ready (rs:=[10]) (by kernel_rfl) (by simp) (AllReadyH.cons (o:={dst:=some 32,op:=_,type:=_,pos:=_,after:=_,guard:=_}) rfl (fun K' hK=>?_) AllReadyH.nil)
   go_simp
   go_at_call 45
   refine(HG.out _).mono ?_
   rintro e w6 ⟨g6,rfl,ho6,hb6⟩
   have HY6:=qq (show Below w5.heap.size w5 w6 from below_step (by(repeat(first|(refine bel_sc ?_ (by omega))|exact Below.refl _ _|refine bel_al ?_|refine bel_dr ?_))) hb6)
   have HX6:=qq (HX5.out.trans (HY6.out.mono HX5.out.size))
   have hs6:=HY6.out.size
   have H56:=qq ((H55.out.below HY6.out).more HY6.out.size)
   have H66:=qq ho6.rd
   have HZ:Hid (PZ w6 (w5.heap.size)):=by
    refine qq (pz_bel hb6 ?_)
    simp only[pz_newS,pz_alS,pz_drS,World.size_alloc]
   clear ho6 hb6
   refine hK.out _ _ (HR3.out _ (by(repeat(first|exact HX6.out|(refine bel_sc ?_ (by omega))|exact Below.refl _ _|refine bel_al ?_|refine bel_dr ?_)))) (fun hS=>?_)
   clear hK K'
   try simp only[Act.put,qj,qz,qv]
   refine wpAnyH_ready (rs:=[14]) (by kernel_rfl) (by simp) (AllReadyH.cons (o:={dst:=some 36,op:=_,type:=_,pos:=_,after:=_,guard:=_}) rfl (fun K' hK=>?_) AllReadyH.nil)
   go_simp
   go_at_call 46
   refine(HP1.out _).mono ?_
   rintro e w7 ⟨v7,rfl,ho7,hb7⟩
   obtain⟨A7,c7,rfl,hr7,-,-,-⟩:=ho7.shape' (le8_len _)
   have HY7:=qq (show Below w6.heap.size w6 w7 from below_step (by(repeat(first|(refine bel_sc ?_ (by omega))|exact Below.refl _ _|refine bel_al ?_|refine bel_dr ?_))) hb7)
   have HX7:=qq (HX6.out.trans (HY7.out.mono HX6.out.size))
   have hs7:=HY7.out.size
   have H57:=qq ((H56.out.below HY7.out).more HY7.out.size)
   have H67:=qq ((H66.out.below HY7.out).more HY7.out.size)
   have H77:=qq hr7
   have HZ:=qq (pz_bel HY7.out HZ.out)
   clear ho7 hb7 hr7
   refine hK.out _ _ (HR3.out _ (by(repeat(first|exact HX7.out|(refine bel_sc ?_ (by omega))|exact Below.refl _ _|refine bel_al ?_|refine bel_dr ?_)))) (fun hS=>?_)
   clear hK K'
   try simp only[Act.put,qj,qz,qv]
   refine wpAnyH_ready (rs:=[18]) (by kernel_rfl) (by simp) (AllReadyH.cons (o:={dst:=some 40,op:=_,type:=_,pos:=_,after:=_,guard:=_}) rfl (fun K' hK=>?_) AllReadyH.nil)
   go_simp
   go_at_call 46
   refine(HP2.out _).mono ?_
   rintro e w8 ⟨v8,rfl,ho8,hb8⟩
   obtain⟨A8,c8,rfl,hr8,-,-,-⟩:=ho8.shape' (le8_len _)
   have HY8:=qq (show Below w7.heap.size w7 w8 from below_step (by(repeat(first|(refine bel_sc ?_ (by omega))|exact Below.refl _ _|refine bel_al ?_|refine bel_dr ?_))) hb8)
   have HX8:=qq (HX7.out.trans (HY8.out.mono HX7.out.size))
   have hs8:=HY8.out.size
   have H58:=qq ((H57.out.below HY8.out).more HY8.out.size)
   have H68:=qq ((H67.out.below HY8.out).more HY8.out.size)
   have H78:=qq ((H77.out.below HY8.out).more HY8.out.size)
   have H88:=qq hr8
   have HZ:=qq (pz_bel HY8.out HZ.out)
   clear ho8 hb8 hr8
   refine hK.out _ _ (HR3.out _ (by(repeat(first|exact HX8.out|(refine bel_sc ?_ (by omega))|exact Below.refl _ _|refine bel_al ?_|refine bel_dr ?_)))) (fun hS=>?_)
   clear hK K'
   try simp only[Act.put,qj,qz,qv]
   refine wpAnyH_ready (rs:=[19]) (by kernel_rfl) (by simp) (AllReadyH.cons (o:={dst:=some 41,op:=_,type:=_,pos:=_,after:=_,guard:=_}) rfl (fun K' hK=>?_) AllReadyH.nil)
   go_simp
   refine hK.out _ _ (HR3.out _ (by(repeat(first|exact HX8.out|(refine bel_sc ?_ (by omega))|exact Below.refl _ _|refine bel_al ?_|refine bel_dr ?_)))) (fun hS=>?_)
   clear hK K'
   try simp only[Act.put,qj,qz,qv]
   refine wpAnyH_ready (rs:=[20]) (by kernel_rfl) (by simp) (AllReadyH.cons (o:={dst:=some 42,op:=_,type:=_,pos:=_,after:=_,guard:=_}) rfl (fun K' hK=>?_) AllReadyH.nil)
   go_simp
   go_at_call 44
   refine(HMk.out w8 _ _ g5 g6 c7 c8 A7 A8 HX8.out H58.out H68.out H78.out H88.out ?_ ?_).mono ?_
   focus((repeat(first|(refine bel_sc ?_ (by omega))|exact Below.refl _ _|refine bel_al ?_|refine bel_dr ?_)))
   focus(repeat(first|(refine pas_new ?_ ?_;(focus(first|rfl|(simp;done)));rfl)|refine pas_al ?_|refine pas_dr ?_))
   rintro e w9 ⟨rfl,hb9,hx9⟩
   have HX9:=qq hx9
   have HY9:=qq (show Below w8.heap.size w8 w9 from below_step (by(repeat(first|(refine bel_sc ?_ (by omega))|exact Below.refl _ _|refine bel_al ?_|refine bel_dr ?_))) hb9)
   have hs9:=HY9.out.size
   have HZ:=qq (pz_bel HY9.out HZ.out)
   clear hb9 hx9
   refine hK.out _ _ (HR3.out _ (by(repeat(first|exact HX9.out|(refine bel_sc ?_ (by omega))|exact Below.refl _ _|refine bel_al ?_|refine bel_dr ?_)))) (fun hS=>?_)
   clear hK K'
   try simp only[Act.put,qj,qz,qv]
   refine wpAnyH_ready (rs:=[22]) (by kernel_rfl) (by simp) (AllReadyH.cons (o:={dst:=none,op:=_,type:=_,pos:=_,after:=_,guard:=_}) rfl (fun K' hK=>?_) AllReadyH.nil)
   have hth:=pz_there HZ.out HYl.out
   rw[if_pos (by rfl)]
   refine wp_store_mid _ _ _ rfl _ _ (List.toArray _) rfl rfl ?_ ?_ (all_oneCell_toArray (by assumption)) ?_
   ·first|assumption|(simp only[List.size_toArray, *]<;>assumption)
   ·first|assumption|(simp only[List.size_toArray]<;>assumption)|(simp only[List.size_toArray, *])
   simp only[Act.put,qj,qz,qv,List.toList_toArray]
   refine hK.out _ _ (HR3.out _ (by(repeat(first|exact HX9.out|(refine bel_sc ?_ (by omega))|exact Below.refl _ _|refine bel_al ?_|refine bel_dr ?_)))) (fun hS=>?_)
   clear hK K'
   try simp only[Act.put,qj,qz,qv]
   refine wpAnyH_done (by kernel_rfl) ?_ _
   refine NoPanic.normal ?_
   have HF9:=qq (pz_mark HZ.out HY.out (tagOf_len key nonce ctx mixed))
   have hs0:=HB3.out.size
   go_wp2_with fail
   go_ret2
   exact⟨_,rfl,by omega,HF9.out,HB3.out.trans (Below.mono (B:=w3.heap.size) (by(repeat(first|exact HX9.out|(refine bel_sc ?_ (by omega))|exact Below.refl _ _|refine bel_al ?_|refine bel_dr ?_))) HB3.out.size)⟩
 ·
  go_simp
  refine hK.out _ _ (HR3.out _ (by(repeat(first|exact Below.refl _ _|(refine bel_sc ?_ (by omega))|exact Below.refl _ _|refine bel_al ?_|refine bel_dr ?_)))) (fun hS=>?_)
  clear hK K'
  try simp only[Act.put,qj,qz,qv]
  refine wpAnyH_ready (rs:=[6]) (by kernel_rfl) (by simp) (AllReadyH.cons (o:={dst:=some 28,op:=_,type:=_,pos:=_,after:=_,guard:=_}) rfl (fun K' hK=>?_) AllReadyH.nil)
  go_simp
  go_at_call 45
  refine(HF.out _).mono ?_
  rintro e w5 ⟨g5,rfl,ho5,hb5⟩
  have HX5:=qq (show Below w3.heap.size w3 w5 from below_step (by(repeat(first|(refine bel_sc ?_ (by omega))|exact Below.refl _ _|refine bel_al ?_|refine bel_dr ?_))) hb5)
  have hs5:=HX5.out.size
  have H55:=qq ho5.rd
  have HZ:Hid (PZ w5 (w3.heap.size)):=by
   refine qq (pz_bel hb5 ?_)
   simp only[pz_newS,pz_alS,pz_drS,World.size_alloc]
  clear ho5 hb5
  refine hK.out _ _ (HR3.out _ (by(repeat(first|exact HX5.out|(refine bel_sc ?_ (by omega))|exact Below.refl _ _|refine bel_al ?_|refine bel_dr ?_)))) (fun hS=>?_)
  clear hK K'
  try simp only[Act.put,qj,qz,qv]
  refine wpAnyH_ready (rs:=[10]) (by kernel_rfl) (by simp) (AllReadyH.cons (o:={dst:=some 32,op:=_,type:=_,pos:=_,after:=_,guard:=_}) rfl (fun K' hK=>?_) AllReadyH.nil)
  go_simp
  go_at_call 45
  refine(HG.out _).mono ?_
  rintro e w6 ⟨g6,rfl,ho6,hb6⟩
  have HY6:=qq (show Below w5.heap.size w5 w6 from below_step (by(repeat(first|(refine bel_sc ?_ (by omega))|exact Below.refl _ _|refine bel_al ?_|refine bel_dr ?_))) hb6)
  have HX6:=qq (HX5.out.trans (HY6.out.mono HX5.out.size))
  have hs6:=HY6.out.size
  have H56:=qq ((H55.out.below HY6.out).more HY6.out.size)
  have H66:=qq ho6.rd
  have HZ:=qq (pz_bel HY6.out HZ.out)
  clear ho6 hb6
  refine hK.out _ _ (HR3.out _ (by(repeat(first|exact HX6.out|(refine bel_sc ?_ (by omega))|exact Below.refl _ _|refine bel_al ?_|refine bel_dr ?_)))) (fun hS=>?_)
  clear hK K'
  try simp only[Act.put,qj,qz,qv]
  refine wpAnyH_ready (rs:=[14]) (by kernel_rfl) (by simp) (AllReadyH.cons (o:={dst:=some 36,op:=_,type:=_,pos:=_,after:=_,guard:=_}) rfl (fun K' hK=>?_) AllReadyH.nil)
  go_simp
  go_at_call 46
  refine(HP1.out _).mono ?_
  rintro e w7 ⟨v7,rfl,ho7,hb7⟩
  obtain⟨A7,c7,rfl,hr7,-,-,-⟩:=ho7.shape' (le8_len _)
  have HY7:=qq (show Below w6.heap.size w6 w7 from below_step (by(repeat(first|(refine bel_sc ?_ (by omega))|exact Below.refl _ _|refine bel_al ?_|refine bel_dr ?_))) hb7)
  have HX7:=qq (HX6.out.trans (HY7.out.mono HX6.out.size))
  have hs7:=HY7.out.size
  have H57:=qq ((H56.out.below HY7.out).more HY7.out.size)
  have H67:=qq ((H66.out.below HY7.out).more HY7.out.size)
  have H77:=qq hr7
  have HZ:=qq (pz_bel HY7.out HZ.out)
  clear ho7 hb7 hr7
  refine hK.out _ _ (HR3.out _ (by(repeat(first|exact HX7.out|(refine bel_sc ?_ (by omega))|exact Below.refl _ _|refine bel_al ?_|refine bel_dr ?_)))) (fun hS=>?_)
  clear hK K'
  try simp only[Act.put,qj,qz,qv]
  refine wpAnyH_ready (rs:=[18]) (by kernel_rfl) (by simp) (AllReadyH.cons (o:={dst:=some 40,op:=_,type:=_,pos:=_,after:=_,guard:=_}) rfl (fun K' hK=>?_) AllReadyH.nil)
  go_simp
  go_at_call 46
  refine(HP2.out _).mono ?_
  rintro e w8 ⟨v8,rfl,ho8,hb8⟩
  obtain⟨A8,c8,rfl,hr8,-,-,-⟩:=ho8.shape' (le8_len _)
  have HY8:=qq (show Below w7.heap.size w7 w8 from below_step (by(repeat(first|(refine bel_sc ?_ (by omega))|exact Below.refl _ _|refine bel_al ?_|refine bel_dr ?_))) hb8)
  have HX8:=qq (HX7.out.trans (HY8.out.mono HX7.out.size))
  have hs8:=HY8.out.size
  have H58:=qq ((H57.out.below HY8.out).more HY8.out.size)
  have H68:=qq ((H67.out.below HY8.out).more HY8.out.size)
  have H78:=qq ((H77.out.below HY8.out).more HY8.out.size)
  have H88:=qq hr8
  have HZ:=qq (pz_bel HY8.out HZ.out)
  clear ho8 hb8 hr8
  refine hK.out _ _ (HR3.out _ (by(repeat(first|exact HX8.out|(refine bel_sc ?_ (by omega))|exact Below.refl _ _|refine bel_al ?_|refine bel_dr ?_)))) (fun hS=>?_)
  clear hK K'
  try simp only[Act.put,qj,qz,qv]
  refine wpAnyH_ready (rs:=[19]) (by kernel_rfl) (by simp) (AllReadyH.cons (o:={dst:=some 41,op:=_,type:=_,pos:=_,after:=_,guard:=_}) rfl (fun K' hK=>?_) AllReadyH.nil)
  go_simp
  refine hK.out _ _ (HR3.out _ (by(repeat(first|exact HX8.out|(refine bel_sc ?_ (by omega))|exact Below.refl _ _|refine bel_al ?_|refine bel_dr ?_)))) (fun hS=>?_)
  clear hK K'
  try simp only[Act.put,qj,qz,qv]
  refine wpAnyH_ready (rs:=[20]) (by kernel_rfl) (by simp) (AllReadyH.cons (o:={dst:=some 42,op:=_,type:=_,pos:=_,after:=_,guard:=_}) rfl (fun K' hK=>?_) AllReadyH.nil)
  go_simp
  go_at_call 44
  refine(HMk.out w8 _ _ g5 g6 c7 c8 A7 A8 HX8.out H58.out H68.out H78.out H88.out ?_ ?_).mono ?_
  focus((repeat(first|(refine bel_sc ?_ (by omega))|exact Below.refl _ _|refine bel_al ?_|refine bel_dr ?_)))
  focus(repeat(first|(refine pas_new ?_ ?_;(focus(first|rfl|(simp;done)));rfl)|refine pas_al ?_|refine pas_dr ?_))
  rintro e w9 ⟨rfl,hb9,hx9⟩
  have HX9:=qq hx9
  have HY9:=qq (show Below w8.heap.size w8 w9 from below_step (by(repeat(first|(refine bel_sc ?_ (by omega))|exact Below.refl _ _|refine bel_al ?_|refine bel_dr ?_))) hb9)
  have hs9:=HY9.out.size
  have HZ:=qq (pz_bel HY9.out HZ.out)
  clear hb9 hx9
  refine hK.out _ _ (HR3.out _ (by(repeat(first|exact HX9.out|(refine bel_sc ?_ (by omega))|exact Below.refl _ _|refine bel_al ?_|refine bel_dr ?_)))) (fun hS=>?_)
  clear hK K'
  try simp only[Act.put,qj,qz,qv]
  refine wpAnyH_ready (rs:=[22]) (by kernel_rfl) (by simp) (AllReadyH.cons (o:={dst:=none,op:=_,type:=_,pos:=_,after:=_,guard:=_}) rfl (fun K' hK=>?_) AllReadyH.nil)
  have hth:=pz_there HZ.out HYl.out
  rw[if_pos (by rfl)]
  refine wp_store_mid _ _ _ rfl _ _ (List.toArray _) rfl rfl ?_ ?_ (all_oneCell_toArray (by assumption)) ?_
  ·first|assumption|(simp only[List.size_toArray, *]<;>assumption)
  ·first|assumption|(simp only[List.size_toArray]<;>assumption)|(simp only[List.size_toArray, *])
  simp only[Act.put,qj,qz,qv,List.toList_toArray]
  refine hK.out _ _ (HR3.out _ (by(repeat(first|exact HX9.out|(refine bel_sc ?_ (by omega))|exact Below.refl _ _|refine bel_al ?_|refine bel_dr ?_)))) (fun hS=>?_)
  clear hK K'
  try simp only[Act.put,qj,qz,qv]
  refine wpAnyH_done (by kernel_rfl) ?_ _
  refine NoPanic.normal ?_
  have HF9:=qq (pz_mark HZ.out HY.out (tagOf_len key nonce ctx mixed))
  have hs0:=HB3.out.size
  go_wp2_with fail
  go_ret2
  exact⟨_,rfl,by omega,HF9.out,HB3.out.trans (Below.mono (B:=w3.heap.size) (by(repeat(first|exact HX9.out|(refine bel_sc ?_ (by omega))|exact Below.refl _ _|refine bel_al ?_|refine bel_dr ?_))) HB3.out.size)⟩
end Go.Proofs.YtelgjaiknaalkaaDoor
