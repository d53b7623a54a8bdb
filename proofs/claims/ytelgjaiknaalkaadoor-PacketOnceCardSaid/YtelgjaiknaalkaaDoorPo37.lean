/- Lemmas, joined and made smaller by a program. -/
import Derived.Test.YtelgjaiknaalkaaDoorPo20
import Derived.Test.YtelgjaiknaalkaaDoorPo36
import Derived.Test.YtelgjaiknaalkaaDoorPo22
open Go.Lib renaming hid → qq
open List renaming setIfInBounds_toArray → qj
open List renaming set_cons_zero → qz
open List renaming set_cons_succ → qv
set_option linter.unusedVariables false
set_option linter.unusedSimpArgs false
namespace Go.Proofs.YtelgjaiknaalkaaDoor
open Go.RowKit
set_option maxRecDepth 100000
theorem lastNo_some{b:BX}{n:Nat}(hn:b.es.length=n+1):lastNo b.m.es=(b.es[n]'(by omega)).no:=by
 unfold lastNo BX.m
 simp only[List.getLast?_eq_getElem?,List.length_map,hn,Nat.add_sub_cancel,List.getElem?_map,List.getElem?_eq_getElem (show n<b.es.length by omega),Option.map_some,EP.m]
theorem enterM_bad{b:BM}{grp:List (BitVec 8)}{no leaves leaf:Int}{s:List (BitVec 8)}(h:enterE b grp no leaves leaf≠0):enterM b grp no leaves leaf s=b:=by unfold enterM;rw[if_neg h]
set_option maxHeartbeats 8000000 in
theorem enter_any{w:World}{base gB:Nat}{b:BX}(h:BoxAt w base gB b)(h4:b.es.length≤4)(hT:Tab w)(hb1:1<base)(grp s:List (BitVec 8))(hgl:grp.length=32)(hsl:s.length=32)(no leaves leaf:Int)
 (l0: -9223372036854775808≤leaves)(l1:leaves<9223372036854775808):
 Calls Tryd.prog 6 #[.pointer (some ⟨gB,0,none⟩),arrV b8 grp,.int .i64 no,arrV b8 s,.int .i64 leaves,.int .i64 leaf] w fun e w'=>e= .returned (errV (enterE b.m grp no leaves leaf))∧
  ∃b',b'.m=enterM b.m grp no leaves leaf s∧BoxAt w' base gB b'∧Frm w w' (BX.foot gB b)∧∀k∈BX.foot gB b',k∈BX.foot gB b∨w.heap.size≤k:=by
 obtain⟨w2,hw2⟩:∃w2,w2=(w.alloc (.cells (grp.map b8).toArray 29)).alloc (.cells (s.map b8).toArray 29):=⟨_,rfl⟩
 have HA1:=qq (show Arr b8 w2 w.heap.size 29 grp by rw[hw2];exact(Arr.new b8 w _ grp).alloc _)
 have HA3:=qq (show Arr b8 w2 (w.heap.size+1) 29 s by rw[hw2];have h1:=Arr.new b8 (w.alloc (.cells (grp.map b8).toArray 29)) 29 s;rw[World.size_alloc]at h1;exact h1)
 have HK2:=qq (show Below w.heap.size w w2 by rw[hw2];exact((Below.refl _ w).alloc (Nat.le_refl _) _).alloc (by simp) _)
 have hz2:w2.heap.size=w.heap.size+2:=by rw[hw2];simp
 have HB2:=qq (h.below HK2.out)
 have HW2:=qq hw2
 have c33:=HB2.out.cell33
 have HR:=qq (root_any leaves l0 l1 w2)
 have HGl:=qq hgl
 have HSl:=qq hsl
 have HH:=qq h
 obtain⟨E,hE⟩:∃E,E=enterE b.m grp no leaves leaf:=⟨_,rfl⟩
 have hm1:b.m.clr=b.clr:=rfl
 have hE0:=hE
 unfold enterE at hE0
 rw[hm1]at hE0
 rw[←hE,arrV_mk,arrV_mk]
 have hbnd:=h.bnd
 clear h hw2 hgl hsl hm1
 cases hclr:b.clr with
 |true=>
  rw[hclr]at hE0 c33
  rw[if_pos rfl]at hE0
  subst hE0
  have HE:=qq hE.symm
  clear hE hclr hbnd
  go_enter Tryd.func6,Tryd.ntmps6
  go_upto_region 1 with fail
  rw[←HW2.out]
  go_wp2_with fail
  go_ret
  exact⟨rfl,b,(enterM_bad (by rw[HE.out];decide)).symm,HB2.out,(Frm.refl w _).below HK2.out (Nat.le_refl _),fun k hk=> .inl hk⟩
 |false=>
  rw[hclr]at hE0 c33
  rw[if_neg (by decide)]at hE0
  cases hsd:soundB leaves with
  |false=>
   rw[if_pos (.inl hsd)]at hE0
   subst hE0
   have HE:=qq hE.symm
   have hrt:rootV leaves= -1:=by unfold rootV;rw[if_neg (by rw[hsd];decide)]
   clear hE hclr hbnd hsd
   go_enter Tryd.func6,Tryd.ntmps6
   go_upto_region 1 with fail
   rw[←HW2.out]
   go_wp2_with fail
   refine HR.out.mono ?_
   rintro e w3 ⟨rfl,rfl⟩
   rw[hrt]
   go_wp2_with fail
   go_ret
   exact⟨rfl,b,(enterM_bad (by rw[HE.out];decide)).symm,HB2.out,(Frm.refl w _).below HK2.out (Nat.le_refl _),fun k hk=> .inl hk⟩
  |true=>
   obtain⟨k,hk,hlv⟩:=sound_two hsd
   have hl1:1≤leaves:=by have:1≤2^k:=Nat.one_le_two_pow;rw[hlv];omega
   have hl32:leaves≤32:=by have:2^k≤2^5:=Nat.pow_le_pow_right (by decide) hk;rw[hlv];omega
   have HLv:=qq hlv
   have HSd:=qq hsd
   clear hlv
   have hrt:rootV leaves=leaves-1:=by unfold rootV;rw[if_pos hsd]
   have hr0:¬(leaves-1<0):=by omega
   by_cases hf0:leaf<0
   ·rw[if_pos (.inr (.inl hf0))]at hE0
    subst hE0
    have HE:=qq hE.symm
    clear hE hclr hbnd hsd
    go_enter Tryd.func6,Tryd.ntmps6
    go_upto_region 1 with fail
    rw[←HW2.out]
    go_wp2_with fail
    refine HR.out.mono ?_
    rintro e w3 ⟨rfl,rfl⟩
    rw[hrt]
    go_wp2_with fail
    go_ret
    exact⟨rfl,b,(enterM_bad (by rw[HE.out];decide)).symm,HB2.out,(Frm.refl w _).below HK2.out (Nat.le_refl _),fun k hk=> .inl hk⟩
   ·by_cases hf1:leaves≤leaf
    ·rw[if_pos (.inr (.inr hf1))]at hE0
     subst hE0
     have HE:=qq hE.symm
     have hf2:leaf≥leaves:=hf1
     clear hE hclr hbnd hsd
     go_enter Tryd.func6,Tryd.ntmps6
     go_upto_region 1 with fail
     rw[←HW2.out]
     go_wp2_with fail
     refine HR.out.mono ?_
     rintro e w3 ⟨rfl,rfl⟩
     rw[hrt]
     go_wp2_with fail
     go_ret
     exact⟨rfl,b,(enterM_bad (by rw[HE.out];decide)).symm,HB2.out,(Frm.refl w _).below HK2.out (Nat.le_refl _),fun k hk=> .inl hk⟩
    ·rw[if_neg (by rw[hsd];simp;omega)]at hE0
     have hf2:¬(leaf≥leaves):=by omega
     by_cases hn0:no<0
     ·rw[if_pos (.inl hn0)]at hE0
      subst hE0
      have HE:=qq hE.symm
      clear hE hclr hbnd hsd
      go_enter Tryd.func6,Tryd.ntmps6
      go_upto_region 1 with fail
      rw[←HW2.out]
      go_wp2_with fail
      refine HR.out.mono ?_
      rintro e w3 ⟨rfl,rfl⟩
      rw[hrt]
      go_wp2_with fail
      go_ret
      exact⟨rfl,b,(enterM_bad (by rw[HE.out];decide)).symm,HB2.out,(Frm.refl w _).below HK2.out (Nat.le_refl _),fun k hk=> .inl hk⟩
     ·by_cases hn1:4294967295<no
      ·rw[if_pos (.inr hn1)]at hE0
       subst hE0
       have HE:=qq hE.symm
       have hn2:no>4294967295:=hn1
       clear hE hclr hbnd hsd
       go_enter Tryd.func6,Tryd.ntmps6
       go_upto_region 1 with fail
       rw[←HW2.out]
       go_wp2_with fail
       refine HR.out.mono ?_
       rintro e w3 ⟨rfl,rfl⟩
       rw[hrt]
       go_wp2_with fail
       go_ret
       exact⟨rfl,b,(enterM_bad (by rw[HE.out];decide)).symm,HB2.out,(Frm.refl w _).below HK2.out (Nat.le_refl _),fun k hk=> .inl hk⟩
      ·rw[if_neg (by omega)]at hE0
       have hn2:¬(no>4294967295):=hn1
       rcases Nat.eq_zero_or_pos b.es.length with he|he
       ·have hes:b.es=[]:=List.eq_nil_of_length_eq_zero he
        rw[if_neg (by rw[Ne,m_es_nil,hes];simp)]at hE0
        subst hE0
        have HE:=qq hE.symm
        have c32:=HB2.out.cell32
        obtain⟨A0,c0,hv0,-⟩:=rowS_shape HB2.out.row
        rw[hv0,he]at c32
        have HHe:=qq hes
        have HT2:=qq (hT.below HK2.out)
        clear hE hbnd hsd he hes hv0 hT
        go_enter Tryd.func6,Tryd.ntmps6
        go_upto_region 1 with fail
        rw[←HW2.out]
        go_wp2_with fail
        refine HR.out.mono ?_
        rintro e w3 ⟨rfl,rfl⟩
        rw[hrt]
        go_upto_region 8 with fail
        go_quiet (fail)
        have hlast:∀x∈b.es,x.no<no:=fun x hx=>by rw[HHe.out]at hx;cases hx
        have HLast:=qq hlast
        clear hlast c32
        have HB3:=qq (show BoxAt (w2.drewN nq) base gB b from HB2.out.of_same (fun k hk=>rfl))
        have HA13:=qq (show Arr b8 (w2.drewN nq) w.heap.size 29 grp from HA1.out)
        have HA33:=qq (show Arr b8 (w2.drewN nq) (w.heap.size+1) 29 s from HA3.out)
        have HK3:=qq (show Below w.heap.size w (w2.drewN nq)from below_drewN HK2.out nq)
        have HT3:=qq (show Tab (w2.drewN nq)from HT2.out)
        have hz3:(w2.drewN nq).heap.size=w.heap.size+2:=hz2
        generalize w2.drewN nq=w3 at HB3 HA13 HA33 HK3 HT3 hz3 ⊢
        clear HB2 HA1 HA3 HK2 HT2 HW2 c33 HR
        go_upto_region 11 with(first
         |(refine wpList_load_arr rfl 29 (.tmp 7) rfl w.heap.size rfl _ grp HA13.out _ Tryd.underlying29 rfl (by rw[HGl.out];exact infoSum) ?_)
         |(refine wpList_store_piece rfl 29 (.tmp 78) (.tmp 76) rfl gB 0 rfl (grp.map b8) rfl 45 _ [] (b.grp.map b8) [b.v,.bool b.clr] HB3.out.blk rfl rfl (by rw[List.length_map,List.length_map,HGl.out,HB3.out.glen]) (by rw[List.length_map,HGl.out];exact infoSum) (fun u hu=>by obtain⟨x,-,rfl⟩:=List.mem_map.1 hu;exact b8_one x) ?_;intro w4 hx4 hg4))
        have HB4:=qq (HB3.out.regroup grp HGl.out hx4 hg4)
        have hz4:w3.heap.size≤w4.heap.size:=hg4.size
        have HF4:=qq ((Frm.refl w (BX.foot gB b)).below HK3.out (Nat.le_refl _)|>.grown hg4 (by simp[BX.foot]))
        have HA4:=qq (show Arr b8 w4 (w.heap.size+1) 29 s from HA33.out.grown hg4 (fun e=>by injection e with e;have:=HH.out.gB_lt;omega))
        have hgBb:base≤gB:=HH.out.low.1
        have HT4:=qq (show Tab w4 from HT3.out.grown hg4 (by omega))
        have c32:=HB4.out.cell32
        dsimp only at c32
        obtain⟨m,hm⟩:∃m,m=b.es.length:=⟨_,rfl⟩
        obtain⟨A,c,hv,-⟩:=rowS_shape HB4.out.row
        have hv:b.v= .slice A m c:=by rw[hm];exact hv
        rw[hv]at c32
        have HMl:=qq hm
        have HV:=qq hv
        clear hm hv
        have hcz:(s.map b8).length=32:=by rw[List.length_map,HSl.out]
        have hr32:=HA4.out.whole
        obtain⟨Z,hZ⟩:∃Z,Z=s.map b8:=⟨_,rfl⟩
        rw[←hZ]at hcz hr32
        have HZ:=qq hZ
        have hu:=Tryd.underlying29
        have hi32:(Tryd.prog.info? 29).map (·.size)=some Z.length:=by rw[hcz];exact infoSum
        have HN:=qq (show Calls Tryd.prog 11 #[.agg Z.toArray,.int .i64 leaves] w4.drew fun e w'=>∃gC gl xs,e= .returned (.pointer (some ⟨gC,0,none⟩))∧ChX w' gC gl xs∧xs.length=linesN leaves∧(∀(i:Nat) (h:i<xs.length),xs[i].l=startL (leafS (linesN leaves) i s))∧(∀x∈xs,LP.hp x=[])∧
         (∀x∈xs,w4.drew.heap.size≤LP.gm x)∧w4.drew.heap.size≤gC∧gC<w'.heap.size∧w4.drew.heap.size≤gl∧gl<w'.heap.size∧linesN leaves≤32∧Below w4.drew.heap.size w4.drew w' by
         have h:=new_all w4.drew (show Tab w4.drew from HT4.out) s HSl.out leaves l0 l1
         rw[arrV_mk,←hZ]at h
         exact h)
        have hbu:∀gC:Nat,Tryd.prog.built 49 [(0,.pointer (some ⟨gC,0,none⟩)),(1,.int .i64 no),(2,.int .i64 leaf)]=some #[.pointer (some ⟨gC,0,none⟩),.int .i64 no,.int .i64 leaf]:=fun _=>by kernel_rfl
        obtain⟨i0,hi0,hz0,hs0,hb0⟩:=info_parts infoEpoch
        clear hx4 hg4 hZ
        have hS:w4.drew.rangeAt (w.heap.size+1) 0 Z∧w4.drew.cell? ⟨gB,32,none⟩=some (.slice A m c):=⟨hr32,c32⟩
        refine wp_region_Y (by kernel_rfl) (fun w'=>w'.rangeAt (w.heap.size+1) 0 Z∧w'.cell? ⟨gB,32,none⟩=some (.slice A m c)) 15 ?_
        refine wpAnyY_pure (i:=0) (oi:={dst:=some 79,op:=_,type:=_,pos:=_,after:=_,guard:=_}) (v:= .pointer (some ⟨gB,0,none⟩)) rfl (by kernel_rfl) (by kernel_rfl) (by kernel_rfl) (by kernel_rfl) (fun _ _ _ h=>h) (Or.inl ⟨by rfl,?_⟩) hS ?_
        ·intro w' hw'
         go_simp
        try simp only[Act.put,qj,qz,qv]
        refine wpAnyY_pure (i:=1) (oi:={dst:=some 80,op:=_,type:=_,pos:=_,after:=_,guard:=_}) (v:= .pointer (some ⟨gB,0,none⟩)) rfl (by kernel_rfl) (by kernel_rfl) (by kernel_rfl) (by kernel_rfl) (fun _ _ _ h=>h) (Or.inl ⟨by rfl,?_⟩) hS ?_
        ·intro w' hw'
         go_simp
        try simp only[Act.put,qj,qz,qv]
        refine wpAnyY_pure (i:=2) (oi:={dst:=some 81,op:=_,type:=_,pos:=_,after:=_,guard:=_}) (v:= .pointer (some ⟨gB,0,none⟩)) rfl (by kernel_rfl) (by kernel_rfl) (by kernel_rfl) (by kernel_rfl) (fun _ _ _ h=>h) (Or.inl ⟨by rfl,?_⟩) hS ?_
        ·intro w' hw'
         go_simp
        try simp only[Act.put,qj,qz,qv]
        refine wpAnyY_pure (i:=3) (oi:={dst:=some 82,op:=_,type:=_,pos:=_,after:=_,guard:=_}) (v:= .pointer (some ⟨gB,32,none⟩)) rfl (by kernel_rfl) (by kernel_rfl) (by kernel_rfl) (by kernel_rfl) (fun _ _ _ h=>h) (Or.inl ⟨by rfl,?_⟩) hS ?_
        ·intro w' hw'
         go_simp
        try simp only[Act.put,qj,qz,qv]
        refine wpAnyY_take (i:=4) (oi:={dst:=some 83,op:=_,type:=_,pos:=_,after:=_,guard:=_}) (v:= .slice A m c) rfl (by kernel_rfl) (by kernel_rfl) (by kernel_rfl) (by kernel_rfl) (by kernel_rfl) (fun _ _ _ h=>h) (Or.inl ⟨by rfl,?_⟩) hS ?_
        ·intro w' hw'
         obtain⟨-,s1⟩:=hw'
         go_simp
        try simp only[Act.put,qj,qz,qv]
        refine wpAnyY_take (i:=5) (oi:={dst:=some 84,op:=_,type:=_,pos:=_,after:=_,guard:=_}) (v:= .agg Z.toArray) rfl (by kernel_rfl) (by kernel_rfl) (by kernel_rfl) (by kernel_rfl) (by kernel_rfl) (fun _ _ _ h=>h) (yieldsIf_load_mid (by rfl) 29 (.tmp 9) rfl (w.heap.size+1) 0 rfl Z _ (fun _ h=>h.1) hu rfl hi32) hS ?_
        try simp only[Act.put,qj,qz,qv]
        refine wpAnyY_pure (i:=6) (oi:={dst:=some 85,op:=_,type:=_,pos:=_,after:=_,guard:=_}) (v:= .int .i64 leaves) rfl (by kernel_rfl) (by kernel_rfl) (by kernel_rfl) (by kernel_rfl) (fun _ _ _ h=>h) (Or.inl ⟨by rfl,?_⟩) hS ?_
        ·intro w' hw'
         go_simp
        try simp only[Act.put,qj,qz,qv]
        refine wpAnyY_pure (i:=8) (oi:={dst:=some 87,op:=_,type:=_,pos:=_,after:=_,guard:=_}) (v:= .int .i64 no) rfl (by kernel_rfl) (by kernel_rfl) (by kernel_rfl) (by kernel_rfl) (fun _ _ _ h=>h) (Or.inl ⟨by rfl,?_⟩) hS ?_
        ·intro w' hw'
         go_simp
        try simp only[Act.put,qj,qz,qv]
        refine wpAnyY_pure (i:=9) (oi:={dst:=some 88,op:=_,type:=_,pos:=_,after:=_,guard:=_}) (v:= .int .i64 leaf) rfl (by kernel_rfl) (by kernel_rfl) (by kernel_rfl) (by kernel_rfl) (fun _ _ _ h=>h) (Or.inl ⟨by rfl,?_⟩) hS ?_
        ·intro w' hw'
         go_simp
        try simp only[Act.put,qj,qz,qv]
        refine wpAnyY_one (i:=7) (o:={dst:=some 86,op:=_,type:=_,pos:=_,after:=_,guard:=_}) (by kernel_rfl) rfl (fun K' hK=>?_)
        go_simp
        go_at_call 11
        refine HN.out.mono ?_
        rintro e w5 ⟨gC,gl,xs,rfl,hcx,hxl,hxe,hxh,hxg,hgC,hgCl,hgl5,hgll,hl32,hb5⟩
        have hB5:Below w4.heap.size w4 w5:=(Below.refl w4.heap.size w4).drew.trans hb5
        have HB5:=qq (HB4.out.below hB5)
        have hz5:=hB5.size
        have hS5:w5.rangeAt (w.heap.size+1) 0 Z∧w5.cell? ⟨gB,32,none⟩=some (.slice A m c):=by
         refine⟨?_,?_⟩
         ·have h:=(HA4.out.below hB5 HA4.out.lt).whole
          rw[←HZ.out]at h;exact h
         ·have h:=HB5.out.cell32
          dsimp only at h
          rw[←HV.out];exact h
        have HCx:=qq hcx
        have HXl:=qq hxl
        have HXe:=qq hxe
        have HXh:=qq hxh
        have HXg:=qq (show∀x∈xs,w4.heap.size≤LP.gm x from hxg)
        have HgC:=qq (show w4.heap.size≤gC from hgC)
        have Hgl5:=qq (show w4.heap.size≤gl from hgl5)
        have HBel5:=qq hB5
        clear hcx hxl hxe hxh hxg hgC hgl5 hb5 hS hr32 c32 HN hB5
        refine hK _ _ (fun _=>hS5) ?_
        clear hK K'
        try simp only[Act.put,qj,qz,qv]
        have hS:=hS5
        clear hS5
        refine wpAnyY_pure (i:=10) (oi:={dst:=some 89,op:=_,type:=_,pos:=_,after:=_,guard:=_}) (v:= .agg #[.pointer (some ⟨gC,0,none⟩),.int .i64 no,.int .i64 leaf]) rfl (by kernel_rfl) (by kernel_rfl) (by kernel_rfl) (by kernel_rfl) (fun _ _ _ h=>h) (Or.inl ⟨by rfl,?_⟩) hS ?_
        ·intro w' hw'
         have hbg:=hbu gC
         go_simp
        try simp only[Act.put,qj,qz,qv]
        refine wpAnyY_one (i:=11) (o:={dst:=some 90,op:=_,type:=_,pos:=_,after:=_,guard:=_}) (by kernel_rfl) rfl (fun K' hK=>?_)
        refine step_box_slice rfl 43 49 (.tmp 89) rfl i0 (.agg zeroEp.toArray) 3 #[.pointer (some ⟨gC,0,none⟩),.int .i64 no,.int .i64 leaf] rfl rfl (by omega) (by omega) Tryd.underlying43 hi0 hz0 hs0 rfl ?_
        have hS6:(w5.alloc (.cells #[.pointer (some ⟨gC,0,none⟩),.int .i64 no,.int .i64 leaf] 49)).rangeAt (w.heap.size+1) 0 Z∧(w5.alloc (.cells #[.pointer (some ⟨gC,0,none⟩),.int .i64 no,.int .i64 leaf] 49)).cell? ⟨gB,32,none⟩=some (.slice A m c):=by
         refine⟨?_,?_⟩
         ·have h:=((HA4.out.below HBel5.out HA4.out.lt).alloc (.cells #[.pointer (some ⟨gC,0,none⟩),.int .i64 no,.int .i64 leaf] 49)).whole
          rw[←HZ.out]at h;exact h
         ·have h:=(HB5.out.alloc (.cells #[.pointer (some ⟨gC,0,none⟩),.int .i64 no,.int .i64 leaf] 49)).cell32
          dsimp only at h
          rw[←HV.out];exact h
        refine hK _ _ (fun _=>hS6) ?_
        clear hK K'
        try simp only[Act.put,qj,qz,qv]
        refine wpAnyY_one (i:=12) (o:={dst:=some 91,op:=_,type:=_,pos:=_,after:=_,guard:=_}) (by kernel_rfl) rfl (fun K' hK=>?_)
        have HB6:=qq (HB5.out.alloc (.cells #[.pointer (some ⟨gC,0,none⟩),.int .i64 no,.int .i64 leaf] 49))
        have hrow6:=HB6.out.row
        dsimp only at hrow6
        rw[←HMl.out,HV.out]at hrow6
        have hbl:base≤w5.heap.size:=by have:=HB5.out.gB_lt;omega
        have hm4:m≤4:=by rw[HMl.out];exact h4
        refine step_append_row rfl (.tmp 83) (.tmp 90) 43 rfl 3 (by omega) base 49 i0 (.agg zeroEp.toArray) 24 Tryd.underlying43 hi0 hz0 hs0 hb0 rfl _ m _ rfl hrow6 (w5.heap.size+1) (some ⟨w5.heap.size,0,none⟩) 1 1 [.pointer (some ⟨gC,0,none⟩),.int .i64 no,.int .i64 leaf] rfl rfl (by omega) (rdV_new w5 49 [.pointer (some ⟨gC,0,none⟩),.int .i64 no,.int .i64 leaf]) (by intro u hu;simp only[List.mem_cons,List.not_mem_nil,or_false]at hu;rcases hu with rfl|rfl|rfl<;>rfl) (by simp only[maxLen];omega) (by omega) (by rw[World.size_alloc];omega) ?_
        intro v7 w7 hown7 hg7 hbb7
        obtain⟨A7,c7,rfl,-⟩:=rowS_shape hown7
        have c32d:=(HB6.out.blk.grown hg7.by_ (fun e=>HB6.out.row_ne (by dsimp only;rw[HV.out];exact e.symm))).cell 32 (BX.c32 HB6.out.glen)
        dsimp only at c32d
        rw[HV.out]at c32d
        have f32:=(HB6.out.blk.grown hg7.by_ (fun e=>HB6.out.row_ne (by dsimp only;rw[HV.out];exact e.symm))).frozen 32
        have hS7:w7.rangeAt (w.heap.size+1) 0 Z∧w7.cell? ⟨gB,32,none⟩=some (.slice A m c):=by
         refine⟨?_,c32d⟩
         have h:=((HA4.out.below HBel5.out HA4.out.lt).alloc (.cells #[.pointer (some ⟨gC,0,none⟩),.int .i64 no,.int .i64 leaf] 49)).grown hg7.by_ (fun e=>by
          obtain⟨-,-,cs,h3⟩:=row_in hrow6 e.symm
          have h5:=(HA4.out.below HBel5.out HA4.out.lt).alloc (.cells #[.pointer (some ⟨gC,0,none⟩),.int .i64 no,.int .i64 leaf] 49)
          unfold Arr at h5
          rw[h5]at h3;injection h3 with h3;injection h3 with _ hT _;exact absurd hT (by decide))
         have h:=h.whole
         rw[←HZ.out]at h;exact h
        have Hrow7:=qq hown7
        have Hg7:=qq hg7
        clear hown7 hg7 hbb7 hrow6 hS hS6
        refine hK _ _ (fun _=>hS7) ?_
        clear hK K'
        try simp only[Act.put,qj,qz,qv]
        have hS:=hS7
        refine wpAnyY_pure (i:=13) (oi:={dst:=some 92,op:=_,type:=_,pos:=_,after:=_,guard:=_}) (v:= .pointer (some ⟨gB,0,none⟩)) rfl (by kernel_rfl) (by kernel_rfl) (by kernel_rfl) (by kernel_rfl) (fun _ _ _ h=>h) (Or.inl ⟨by rfl,?_⟩) hS ?_
        ·intro w' hw'
         go_simp
        try simp only[Act.put,qj,qz,qv]
        refine wpAnyY_pure (i:=14) (oi:={dst:=some 93,op:=_,type:=_,pos:=_,after:=_,guard:=_}) (v:= .pointer (some ⟨gB,32,none⟩)) rfl (by kernel_rfl) (by kernel_rfl) (by kernel_rfl) (by kernel_rfl) (fun _ _ _ h=>h) (Or.inl ⟨by rfl,?_⟩) hS ?_
        ·intro w' hw'
         go_simp
        try simp only[Act.put,qj,qz,qv]
        refine wpAnyY_one (i:=15) (o:={dst:=none,op:=_,type:=_,pos:=_,after:=_,guard:=_}) (by kernel_rfl) rfl (fun K' hK=>?_)
        go_simp
        refine hK _ _ (fun h=>absurd rfl h) (wpAnyY_done (by kernel_rfl) ?_ _)
        clear hK K'
        have hlf:((leaf.toNat:Nat):Int)=leaf:=by omega
        have hsd':soundB leaves=true:=HSd.out
        have hln:linesN leaves=leaves.toNat:=by unfold linesN;rw[if_pos hsd']
        have hxl:=HXl.out
        have hlx:leaf.toNat<xs.length:=by rw[hxl,hln];omega
        have hcx:=(HCx.out.at_ hlx).below ((Below.refl _ w5).alloc (Nat.le_refl _) (.cells #[.pointer (some ⟨gC,0,none⟩),.int .i64 no,.int .i64 leaf] 49))
        obtain⟨e,he⟩:∃e:EP,e=⟨gC,gl,xs,no,leaf.toNat⟩:=⟨_,rfl⟩
        have hec:e.cells=[.pointer (some ⟨gC,0,none⟩),.int .i64 no,.int .i64 leaf]:=by rw[he];unfold EP.cells;rw[hlf]
        have hem:e.m=⟨no,leaf.toNat,newLs leaves.toNat s⟩:=by
         rw[he]
         unfold EP.m
         congr 1
         refine List.ext_getElem (by rw[List.length_map,hxl,hln];unfold newLs;simp) (fun i h1 h2=>?_)
         rw[List.getElem_map,HXe.out i (by rw[List.length_map]at h1;exact h1),hln]
         simp[newLs]
        obtain⟨hP1,hP2,hP3⟩:=HB6.out.pushed (w6:=w7) (by show b.es.length≤4;exact h4) e w4.heap.size (by rw[he];exact hcx) (fun k hk=>by
         rw[he]at hk
         simp only[EP.foot,chFoot,List.mem_cons,List.mem_append]at hk
         rcases hk with rfl|rfl|hk|hk
         ·exact HgC.out
         ·exact Hgl5.out
         ·obtain⟨x,hx,rfl⟩:=List.mem_map.1 hk
          exact HXg.out x hx
         ·obtain⟨x,hx,hk⟩:=List.mem_flatMap.1 hk
          rw[HXh.out x hx]at hk;cases hk) (fun k hk=>(HB4.out.foot_lt k hk).2) (by rw[World.size_alloc];omega)
         (by rw[he];exact⟨hlx,by show xs.length≤32;rw[hxl];exact hl32,by show 0≤no;omega,by show no≤4294967295;omega⟩)
         (fun x hx=>by rw[he];exact HLast.out x hx) (v':=(.slice A7 (m+1) c7)) (by show w7.ownsRow base _ 3 (.slice A7 (m+1) c7) (b.es.length+1) (b.es.flatMap EP.cells++e.cells);rw[hec,←HMl.out];exact Hrow7.out) (by show Grew _ w7 b.v (.slice A7 (m+1) c7);rw[HV.out];exact Hg7.out)
        dsimp only at hP1 hP2 hP3
        obtain⟨w8,hw8⟩:∃w8,w8=w7.setCell ⟨gB,32,none⟩ (.slice A7 (m+1) c7):=⟨_,rfl⟩
        rw[←hw8]at hP1 hP2
        have HB8:=qq hP1
        have HF8:=qq (show Frm w w8 (BX.foot gB b)from
         let f6:=(HF4.out.below HBel5.out (Nat.le_refl _)).below ((Below.refl _ w5).alloc (Nat.le_refl _) (.cells #[.pointer (some ⟨gC,0,none⟩),.int .i64 no,.int .i64 leaf] 49)) (Nat.le_refl _)
         ⟨hP2.os.trans f6.os,hP2.tape.trans f6.tape,hP2.output.trans f6.output,Nat.le_trans f6.size hP2.size,fun k hk hn=>(hP2.block k (Nat.lt_of_lt_of_le hk f6.size) hn).trans (f6.block k hk hn)⟩)
        have hzz:w.heap.size≤w4.heap.size:=by omega
        have HFt:=qq (show∀k∈BX.foot gB ⟨grp,(.slice A7 (m+1) c7),b.es++ [e],b.clr⟩,k∈BX.foot gB b∨w.heap.size≤k from fun k hk=>(hP3 k hk).imp (fun h=>h) (fun h=>Nat.le_trans hzz h))
        have c328:=HB8.out.cell32
        dsimp only at c328
        have f328:=HB8.out.blk.frozen 32
        have HHm:=qq (show enterM b.m grp no leaves leaf s=⟨grp,pushE b.m.es ⟨no,leaf.toNat,newLs leaves.toNat s⟩,false⟩ by unfold enterM;rw[if_pos HE.out])
        have HEm:=qq hem
        have HCl:=qq hclr
        have hmm:b.m.es.length=m:=by rw[HMl.out];unfold BX.m;simp
        have HMm:=qq hmm
        rw[←hw8]
        clear hw8 hP1 hP2 hP3 hec hem hcx hxl hlx hln hmm hS7 c32d f32 HCx HXl HXe HXh HXg HgC Hgl5 HBel5 Hrow7 Hg7 HB6 HB5 HB4 HF4 HA4 HT4 hrt hclr hbu hi32 hu hcz
        by_cases hm5:m=4
        ·subst hm5
         have hl5:(b.es++ [e]).length=5:=by rw[List.length_append,←HMl.out];rfl
         obtain⟨g,c9,hv9,-⟩:=HB8.out.v_some (by dsimp only;omega)
         dsimp only at hv9
         injection hv9 with e1 e2 e3
         subst e1
         have HL5:=qq hl5
         have HD:=qq (delete_any (w:=w8) (base:=base) (g:=g) (c:=c7) (us:=(b.es++ [e]).flatMap EP.cells) (by have h:=HB8.out.row;dsimp only at h;rw[hl5]at h;exact h) (fun u hu=>by
          obtain⟨x,-,hx⟩:=List.mem_flatMap.1 hu
          exact x.cells_one u hx))
         clear e2 e3 hl5
         go_wp2_with (go_at_call 12;refine HD.out.mono ?_;rintro e9 w9 ⟨rfl,hr9,hg9⟩;have HR9:=qq hr9;have HG9:=qq hg9;have c329:=(HB8.out.blk.grown hg9 (fun e2=>HB8.out.row_ne e2.symm)).cell 32 (BX.c32 HB8.out.glen);have f329:=(HB8.out.blk.grown hg9 (fun e2=>HB8.out.row_ne e2.symm)).frozen 32;clear hr9 hg9)
         go_ret
         obtain⟨hD1,hD2,hD3⟩:=HB8.out.deleted (g:=g) (c:=c7) rfl HL5.out HR9.out HG9.out
         refine⟨rfl,_,?_,hD1,?_,fun k hk=>HFt.out k (hD3 k hk)⟩
         ·rw[HHm.out]
          unfold pushE
          rw[if_pos (by rw[HMm.out];omega)]
          show(⟨grp,(b.es++ [e]).tail.map EP.m,b.clr⟩:BM)=⟨grp,(b.es.map EP.m++ [_]).tail,false⟩
          rw[List.map_tail,List.map_append,List.map_singleton,HEm.out,HCl.out]
         ·have f8:=HF8.out
          refine⟨hD2.os.trans f8.os,hD2.tape.trans f8.tape,hD2.output.trans f8.output,Nat.le_trans f8.size hD2.size,fun k hk hn=>(hD2.block k (Nat.lt_of_lt_of_le hk f8.size) (fun hm=>?_)).trans (f8.block k hk hn)⟩
          rcases HFt.out k hm with h|h
          ·exact hn h
          ·omega
        ·have hgt:((m:Int)+1>4)=False:=by simp;omega
         go_wp2_with fail
         go_ret
         refine⟨rfl,_,?_,HB8.out,HF8.out,HFt.out⟩
         rw[HHm.out]
         unfold pushE
         rw[if_neg (by rw[HMm.out];omega)]
         show(⟨grp,(b.es++ [e]).map EP.m,b.clr⟩:BM)=⟨grp,b.es.map EP.m++ [_],false⟩
         rw[List.map_append,List.map_singleton,HEm.out,HCl.out]
       ·obtain⟨n,hn⟩:∃n,b.es.length=n+1:=⟨b.es.length-1,by omega⟩
        obtain⟨g,c,hv,hbg,hgl',hcc⟩:=HB2.out.v_some he
        obtain⟨c0,c1,c2⟩:=HB2.out.at_row hv (i:=n) (by omega)
        have c32:=HB2.out.cell32
        rw[hv]at c32
        have hlno:=lastNo_some hn
        have hne0:b.es≠ []:=fun e=>by rw[e]at he;simp at he
        obtain⟨q1,hq1⟩:∃q1,q1=!(grp==b.grp):=⟨_,rfl⟩
        obtain⟨last,hlast0⟩:∃last,last=(b.es[n]'(by omega)).no:=⟨_,rfl⟩
        rw[←hlast0]at c1 hlno
        have hgr2:b.m.grp=b.grp:=rfl
        rw[hlno,hgr2]at hE0
        have hneq:∀w,(binOp .neq 29 (.agg (grp.map b8).toArray) (.agg (b.grp.map b8).toArray)).run Tryd.prog w= .ok (.bool q1) w:=fun w=>by
         rw[hq1];exact run_neq_b8 w 29 5 32 Tryd.underlying29 Tryd.underlying5 (fun _=>by kernel_rfl) _ _ HGl.out HB2.out.glen
        obtain⟨m0,hm0⟩:∃m0,m0=b.es.length:=⟨_,rfl⟩
        rw[←hm0]at c32
        have hsi:(m0:Int)-1=(n:Int):=by omega
        have hi1:(0:Int)≤(n:Int):=by omega
        have hi2:(n:Int)<(m0:Int):=by omega
        have hi3:n<m0:=by omega
        have hi4:0<m0:=by omega
        have hiw:IntKind.i64.wrap (n:Int)=(n:Int):=IntWalk.i64_in _ (by omega)
        have hr1:w2.drew.rangeAt w.heap.size 0 (grp.map b8):=HA1.out.whole
        have hr2:w2.drew.rangeAt gB 0 (b.grp.map b8):=by
         have h:=(HB2.out.blk).range 0 32
         rwa[List.drop_zero,show b.cells.take 32=b.grp.map b8 by unfold BX.cells;rw[List.take_left' (by rw[List.length_map,HB2.out.glen])]]at h
        have hi32:(Tryd.prog.info? 29).map (·.size)=some (grp.map b8).length:=by rw[List.length_map,HGl.out];exact infoSum
        have hi33:(Tryd.prog.info? 29).map (·.size)=some (b.grp.map b8).length:=by rw[List.length_map,HB2.out.glen];exact infoSum
        have hu:=Tryd.underlying29
        have HT2:=qq (hT.below HK2.out)
        have HE0:=qq hE0
        have HEe:=qq hE
        have HLr:=qq (show∀x∈b.es,x.no≤last from fun x hx=>by
         obtain⟨j,hj,rfl⟩:=List.getElem_of_mem hx
         have hri:=(List.pairwise_iff_getElem.1 HB2.out.rise)
         rcases Nat.lt_or_ge j n with h5|h5
         ·have:=hri j n hj (by omega) h5
          rw[hlast0];omega
         ·have:j=n:=by omega
          subst this;rw[hlast0];exact Int.le_refl _)
        have HN:=qq hn
        have HQ1:=qq hq1
        have HNe:=qq hne0
        have hS:w2.drew.rangeAt w.heap.size 0 (grp.map b8)∧w2.drew.rangeAt gB 0 (b.grp.map b8)∧w2.drew.cell? ⟨gB,32,none⟩=some (.slice (some ⟨g,0,none⟩) m0 c)∧w2.drew.cell? ⟨g,n*3+1,none⟩=some (.int .i64 last):=⟨hr1,hr2,c32,c1⟩
        clear hE hE0 hsd he hv hT hbnd hm0 hn hlast0 hlno hq1 hne0 hgr2 c0 c1 c2 hbg hgl' hcc hr1 hr2
        cases q1 with
        |true=>
         have hgn:grp≠b.grp:=fun e=>by have h5:=HQ1.out;rw[e]at h5;simp at h5
         have HE1:=qq HE0.out
         have hE6:E=6:=by have h5:=HE0.out;rw[if_pos ⟨by rw[Ne,m_es_nil];exact HNe.out,.inl hgn⟩]at h5;exact h5
         subst hE6
         have HE:=qq HEe.out.symm
         clear hgn
         go_enter Tryd.func6,Tryd.ntmps6
         go_upto_region 1 with fail
         rw[←HW2.out]
         go_wp2_with fail
         refine HR.out.mono ?_
         rintro e w3 ⟨rfl,rfl⟩
         rw[hrt]
         go_upto_region 8 with fail
         refine wp_region_noPanic ?_
         refine wp_region_held_drew (S:=fun w'=>w'.rangeAt w.heap.size 0 (grp.map b8)∧w'.rangeAt gB 0 (b.grp.map b8)∧w'.cell? ⟨gB,32,none⟩=some (.slice (some ⟨g,0,none⟩) m0 c)∧w'.cell? ⟨g,n*3+1,none⟩=some (.int .i64 last)) (by kernel_rfl) hS (fun hS=>?_)
         refine wpAnyH_take (i:=0) (oi:={dst:=some 51,op:=_,type:=_,pos:=_,after:=_,guard:=_}) (v:= .int .i64 (m0:Int)) rfl (by kernel_rfl) (by kernel_rfl) (by kernel_rfl) (fun _ _ _ h=>h) (Or.inl ⟨by rfl,?_⟩) hS ?_
         ·intro w' hw'
          obtain⟨s0,s1,s2,s3⟩:=hw'
          go_simp
         try simp only[Act.put,qj,qz,qv]
         refine wpAnyH_take (i:=1) (oi:={dst:=some 52,op:=_,type:=_,pos:=_,after:=_,guard:=_}) (v:= .bool true) rfl (by kernel_rfl) (by kernel_rfl) (by kernel_rfl) (fun _ _ _ h=>h) (Or.inl ⟨by rfl,?_⟩) hS ?_
         ·intro w' hw'
          obtain⟨s0,s1,s2,s3⟩:=hw'
          go_simp
         try simp only[Act.put,qj,qz,qv]
         refine wpAnyH_take (i:=2) (oi:={dst:=some 53,op:=_,type:=_,pos:=_,after:=_,guard:=_}) (v:= .bool true) rfl (by kernel_rfl) (by kernel_rfl) (by kernel_rfl) (fun _ _ _ h=>h) (Or.inl ⟨by rfl,?_⟩) hS ?_
         ·intro w' hw'
          obtain⟨s0,s1,s2,s3⟩:=hw'
          go_simp
         try simp only[Act.put,qj,qz,qv]
         refine wpAnyH_take (i:=3) (oi:={dst:=some 54,op:=_,type:=_,pos:=_,after:=_,guard:=_}) (v:= .agg (grp.map b8).toArray) rfl (by kernel_rfl) (by kernel_rfl) (by kernel_rfl) (fun _ _ _ h=>h) (yieldsIf_load_mid (by rfl) 29 (.tmp 7) rfl w.heap.size 0 rfl (grp.map b8) _ (fun _ h=>h.1) hu rfl hi32) hS ?_
         try simp only[Act.put,qj,qz,qv]
         refine wpAnyH_take (i:=4) (oi:={dst:=some 55,op:=_,type:=_,pos:=_,after:=_,guard:=_}) (v:= .pointer (some ⟨gB,0,none⟩)) rfl (by kernel_rfl) (by kernel_rfl) (by kernel_rfl) (fun _ _ _ h=>h) (Or.inl ⟨by rfl,?_⟩) hS ?_
         ·intro w' hw'
          obtain⟨s0,s1,s2,s3⟩:=hw'
          go_simp
         try simp only[Act.put,qj,qz,qv]
         refine wpAnyH_take (i:=5) (oi:={dst:=some 56,op:=_,type:=_,pos:=_,after:=_,guard:=_}) (v:= .pointer (some ⟨gB,0,none⟩)) rfl (by kernel_rfl) (by kernel_rfl) (by kernel_rfl) (fun _ _ _ h=>h) (Or.inl ⟨by rfl,?_⟩) hS ?_
         ·intro w' hw'
          obtain⟨s0,s1,s2,s3⟩:=hw'
          go_simp
         try simp only[Act.put,qj,qz,qv]
         refine wpAnyH_take (i:=6) (oi:={dst:=some 57,op:=_,type:=_,pos:=_,after:=_,guard:=_}) (v:= .pointer (some ⟨gB,0,none⟩)) rfl (by kernel_rfl) (by kernel_rfl) (by kernel_rfl) (fun _ _ _ h=>h) (Or.inl ⟨by rfl,?_⟩) hS ?_
         ·intro w' hw'
          obtain⟨s0,s1,s2,s3⟩:=hw'
          go_simp
         try simp only[Act.put,qj,qz,qv]
         refine wpAnyH_take (i:=7) (oi:={dst:=some 58,op:=_,type:=_,pos:=_,after:=_,guard:=_}) (v:= .agg (b.grp.map b8).toArray) rfl (by kernel_rfl) (by kernel_rfl) (by kernel_rfl) (fun _ _ _ h=>h) (yieldsIf_load_mid (by rfl) 29 (.tmp 57) rfl gB 0 rfl (b.grp.map b8) _ (fun _ h=>h.2.1) hu rfl hi33) hS ?_
         try simp only[Act.put,qj,qz,qv]
         refine wpAnyH_take (i:=8) (oi:={dst:=some 59,op:=_,type:=_,pos:=_,after:=_,guard:=_}) (v:= .bool true) rfl (by kernel_rfl) (by kernel_rfl) (by kernel_rfl) (fun _ _ _ h=>h) (Or.inl ⟨by rfl,?_⟩) hS ?_
         ·intro w' hw'
          obtain⟨s0,s1,s2,s3⟩:=hw'
          go_simp
         try simp only[Act.put,qj,qz,qv]
         refine wpAnyH_take (i:=9) (oi:={dst:=some 60,op:=_,type:=_,pos:=_,after:=_,guard:=_}) (v:= .bool true) rfl (by kernel_rfl) (by kernel_rfl) (by kernel_rfl) (fun _ _ _ h=>h) (Or.inl ⟨by rfl,?_⟩) hS ?_
         ·intro w' hw'
          obtain⟨s0,s1,s2,s3⟩:=hw'
          go_simp
         try simp only[Act.put,qj,qz,qv]
         refine wpAnyH_take (i:=10) (oi:={dst:=some 61,op:=_,type:=_,pos:=_,after:=_,guard:=_}) (v:=undef) rfl (by kernel_rfl) (by kernel_rfl) (by kernel_rfl) (fun _ _ _ h=>h) (Or.inr ⟨by rfl,rfl⟩) hS ?_
         try simp only[Act.put,qj,qz,qv]
         refine wpAnyH_take (i:=11) (oi:={dst:=some 62,op:=_,type:=_,pos:=_,after:=_,guard:=_}) (v:=undef) rfl (by kernel_rfl) (by kernel_rfl) (by kernel_rfl) (fun _ _ _ h=>h) (Or.inr ⟨by rfl,rfl⟩) hS ?_
         try simp only[Act.put,qj,qz,qv]
         refine wpAnyH_take (i:=12) (oi:={dst:=some 63,op:=_,type:=_,pos:=_,after:=_,guard:=_}) (v:=undef) rfl (by kernel_rfl) (by kernel_rfl) (by kernel_rfl) (fun _ _ _ h=>h) (Or.inr ⟨by rfl,rfl⟩) hS ?_
         try simp only[Act.put,qj,qz,qv]
         refine wpAnyH_take (i:=13) (oi:={dst:=some 64,op:=_,type:=_,pos:=_,after:=_,guard:=_}) (v:=undef) rfl (by kernel_rfl) (by kernel_rfl) (by kernel_rfl) (fun _ _ _ h=>h) (Or.inr ⟨by rfl,rfl⟩) hS ?_
         try simp only[Act.put,qj,qz,qv]
         refine wpAnyH_take (i:=14) (oi:={dst:=some 65,op:=_,type:=_,pos:=_,after:=_,guard:=_}) (v:=undef) rfl (by kernel_rfl) (by kernel_rfl) (by kernel_rfl) (fun _ _ _ h=>h) (Or.inr ⟨by rfl,rfl⟩) hS ?_
         try simp only[Act.put,qj,qz,qv]
         refine wpAnyH_take (i:=15) (oi:={dst:=some 66,op:=_,type:=_,pos:=_,after:=_,guard:=_}) (v:=undef) rfl (by kernel_rfl) (by kernel_rfl) (by kernel_rfl) (fun _ _ _ h=>h) (Or.inr ⟨by rfl,rfl⟩) hS ?_
         try simp only[Act.put,qj,qz,qv]
         refine wpAnyH_take (i:=16) (oi:={dst:=some 67,op:=_,type:=_,pos:=_,after:=_,guard:=_}) (v:=undef) rfl (by kernel_rfl) (by kernel_rfl) (by kernel_rfl) (fun _ _ _ h=>h) (Or.inr ⟨by rfl,rfl⟩) hS ?_
         try simp only[Act.put,qj,qz,qv]
         refine wpAnyH_take (i:=17) (oi:={dst:=some 68,op:=_,type:=_,pos:=_,after:=_,guard:=_}) (v:=undef) rfl (by kernel_rfl) (by kernel_rfl) (by kernel_rfl) (fun _ _ _ h=>h) (Or.inr ⟨by rfl,rfl⟩) hS ?_
         try simp only[Act.put,qj,qz,qv]
         refine wpAnyH_take (i:=18) (oi:={dst:=some 69,op:=_,type:=_,pos:=_,after:=_,guard:=_}) (v:=undef) rfl (by kernel_rfl) (by kernel_rfl) (by kernel_rfl) (fun _ _ _ h=>h) (Or.inr ⟨by rfl,rfl⟩) hS ?_
         try simp only[Act.put,qj,qz,qv]
         refine wpAnyH_take (i:=19) (oi:={dst:=some 70,op:=_,type:=_,pos:=_,after:=_,guard:=_}) (v:=undef) rfl (by kernel_rfl) (by kernel_rfl) (by kernel_rfl) (fun _ _ _ h=>h) (Or.inr ⟨by rfl,rfl⟩) hS ?_
         try simp only[Act.put,qj,qz,qv]
         refine wpAnyH_take (i:=20) (oi:={dst:=some 71,op:=_,type:=_,pos:=_,after:=_,guard:=_}) (v:=undef) rfl (by kernel_rfl) (by kernel_rfl) (by kernel_rfl) (fun _ _ _ h=>h) (Or.inr ⟨by rfl,rfl⟩) hS ?_
         try simp only[Act.put,qj,qz,qv]
         refine wpAnyH_take (i:=21) (oi:={dst:=some 72,op:=_,type:=_,pos:=_,after:=_,guard:=_}) (v:= .bool true) rfl (by kernel_rfl) (by kernel_rfl) (by kernel_rfl) (fun _ _ _ h=>h) (Or.inl ⟨by rfl,?_⟩) hS ?_
         ·intro w' hw'
          obtain⟨s0,s1,s2,s3⟩:=hw'
          go_simp
         try simp only[Act.put,qj,qz,qv]
         refine wpAnyH_take (i:=22) (oi:={dst:=some 73,op:=_,type:=_,pos:=_,after:=_,guard:=_}) (v:= .bool true) rfl (by kernel_rfl) (by kernel_rfl) (by kernel_rfl) (fun _ _ _ h=>h) (Or.inl ⟨by rfl,?_⟩) hS ?_
         ·intro w' hw'
          obtain⟨s0,s1,s2,s3⟩:=hw'
          go_simp
         try simp only[Act.put,qj,qz,qv]
         refine wpAnyH_done (by kernel_rfl) ?_ _
         refine NoPanic.normal ?_
         go_wp2_with fail
         go_ret
         exact⟨rfl,b,(enterM_bad (by rw[HE.out];decide)).symm,HB2.out.drew,(Frm.refl w _).below HK2.out.drew (Nat.le_refl _),fun k hk=> .inl hk⟩
        |false=>
         have hge:grp=b.grp:=by have h5:=HQ1.out;simpa using h5
         by_cases hle:no≤last
         ·have hE6:E=6:=by have h5:=HE0.out;rw[if_pos ⟨by rw[Ne,m_es_nil];exact HNe.out,.inr hle⟩]at h5;exact h5
          subst hE6
          have HE:=qq HEe.out.symm
          have HGe:=qq hge
          clear hge
          go_enter Tryd.func6,Tryd.ntmps6
          go_upto_region 1 with fail
          rw[←HW2.out]
          go_wp2_with fail
          refine HR.out.mono ?_
          rintro e w3 ⟨rfl,rfl⟩
          rw[hrt]
          go_upto_region 8 with fail
          refine wp_region_noPanic ?_
          refine wp_region_held_drew (S:=fun w'=>w'.rangeAt w.heap.size 0 (grp.map b8)∧w'.rangeAt gB 0 (b.grp.map b8)∧w'.cell? ⟨gB,32,none⟩=some (.slice (some ⟨g,0,none⟩) m0 c)∧w'.cell? ⟨g,n*3+1,none⟩=some (.int .i64 last)) (by kernel_rfl) hS (fun hS=>?_)
          refine wpAnyH_take (i:=0) (oi:={dst:=some 51,op:=_,type:=_,pos:=_,after:=_,guard:=_}) (v:= .int .i64 (m0:Int)) rfl (by kernel_rfl) (by kernel_rfl) (by kernel_rfl) (fun _ _ _ h=>h) (Or.inl ⟨by rfl,?_⟩) hS ?_
          ·intro w' hw'
           obtain⟨s0,s1,s2,s3⟩:=hw'
           go_simp
          try simp only[Act.put,qj,qz,qv]
          refine wpAnyH_take (i:=1) (oi:={dst:=some 52,op:=_,type:=_,pos:=_,after:=_,guard:=_}) (v:= .bool true) rfl (by kernel_rfl) (by kernel_rfl) (by kernel_rfl) (fun _ _ _ h=>h) (Or.inl ⟨by rfl,?_⟩) hS ?_
          ·intro w' hw'
           obtain⟨s0,s1,s2,s3⟩:=hw'
           go_simp
          try simp only[Act.put,qj,qz,qv]
          refine wpAnyH_take (i:=2) (oi:={dst:=some 53,op:=_,type:=_,pos:=_,after:=_,guard:=_}) (v:= .bool true) rfl (by kernel_rfl) (by kernel_rfl) (by kernel_rfl) (fun _ _ _ h=>h) (Or.inl ⟨by rfl,?_⟩) hS ?_
          ·intro w' hw'
           obtain⟨s0,s1,s2,s3⟩:=hw'
           go_simp
          try simp only[Act.put,qj,qz,qv]
          refine wpAnyH_take (i:=3) (oi:={dst:=some 54,op:=_,type:=_,pos:=_,after:=_,guard:=_}) (v:= .agg (grp.map b8).toArray) rfl (by kernel_rfl) (by kernel_rfl) (by kernel_rfl) (fun _ _ _ h=>h) (yieldsIf_load_mid (by rfl) 29 (.tmp 7) rfl w.heap.size 0 rfl (grp.map b8) _ (fun _ h=>h.1) hu rfl hi32) hS ?_
          try simp only[Act.put,qj,qz,qv]
          refine wpAnyH_take (i:=4) (oi:={dst:=some 55,op:=_,type:=_,pos:=_,after:=_,guard:=_}) (v:= .pointer (some ⟨gB,0,none⟩)) rfl (by kernel_rfl) (by kernel_rfl) (by kernel_rfl) (fun _ _ _ h=>h) (Or.inl ⟨by rfl,?_⟩) hS ?_
          ·intro w' hw'
           obtain⟨s0,s1,s2,s3⟩:=hw'
           go_simp
          try simp only[Act.put,qj,qz,qv]
          refine wpAnyH_take (i:=5) (oi:={dst:=some 56,op:=_,type:=_,pos:=_,after:=_,guard:=_}) (v:= .pointer (some ⟨gB,0,none⟩)) rfl (by kernel_rfl) (by kernel_rfl) (by kernel_rfl) (fun _ _ _ h=>h) (Or.inl ⟨by rfl,?_⟩) hS ?_
          ·intro w' hw'
           obtain⟨s0,s1,s2,s3⟩:=hw'
           go_simp
          try simp only[Act.put,qj,qz,qv]
          refine wpAnyH_take (i:=6) (oi:={dst:=some 57,op:=_,type:=_,pos:=_,after:=_,guard:=_}) (v:= .pointer (some ⟨gB,0,none⟩)) rfl (by kernel_rfl) (by kernel_rfl) (by kernel_rfl) (fun _ _ _ h=>h) (Or.inl ⟨by rfl,?_⟩) hS ?_
          ·intro w' hw'
           obtain⟨s0,s1,s2,s3⟩:=hw'
           go_simp
          try simp only[Act.put,qj,qz,qv]
          refine wpAnyH_take (i:=7) (oi:={dst:=some 58,op:=_,type:=_,pos:=_,after:=_,guard:=_}) (v:= .agg (b.grp.map b8).toArray) rfl (by kernel_rfl) (by kernel_rfl) (by kernel_rfl) (fun _ _ _ h=>h) (yieldsIf_load_mid (by rfl) 29 (.tmp 57) rfl gB 0 rfl (b.grp.map b8) _ (fun _ h=>h.2.1) hu rfl hi33) hS ?_
          try simp only[Act.put,qj,qz,qv]
          refine wpAnyH_take (i:=8) (oi:={dst:=some 59,op:=_,type:=_,pos:=_,after:=_,guard:=_}) (v:= .bool false) rfl (by kernel_rfl) (by kernel_rfl) (by kernel_rfl) (fun _ _ _ h=>h) (Or.inl ⟨by rfl,?_⟩) hS ?_
          ·intro w' hw'
           obtain⟨s0,s1,s2,s3⟩:=hw'
           go_simp
          try simp only[Act.put,qj,qz,qv]
          refine wpAnyH_take (i:=9) (oi:={dst:=some 60,op:=_,type:=_,pos:=_,after:=_,guard:=_}) (v:= .bool false) rfl (by kernel_rfl) (by kernel_rfl) (by kernel_rfl) (fun _ _ _ h=>h) (Or.inl ⟨by rfl,?_⟩) hS ?_
          ·intro w' hw'
           obtain⟨s0,s1,s2,s3⟩:=hw'
           go_simp
          try simp only[Act.put,qj,qz,qv]
          refine wpAnyH_take (i:=10) (oi:={dst:=some 61,op:=_,type:=_,pos:=_,after:=_,guard:=_}) (v:= .int .i64 no) rfl (by kernel_rfl) (by kernel_rfl) (by kernel_rfl) (fun _ _ _ h=>h) (Or.inl ⟨by rfl,?_⟩) hS ?_
          ·intro w' hw'
           obtain⟨s0,s1,s2,s3⟩:=hw'
           go_simp
          try simp only[Act.put,qj,qz,qv]
          refine wpAnyH_take (i:=11) (oi:={dst:=some 62,op:=_,type:=_,pos:=_,after:=_,guard:=_}) (v:= .pointer (some ⟨gB,0,none⟩)) rfl (by kernel_rfl) (by kernel_rfl) (by kernel_rfl) (fun _ _ _ h=>h) (Or.inl ⟨by rfl,?_⟩) hS ?_
          ·intro w' hw'
           obtain⟨s0,s1,s2,s3⟩:=hw'
           go_simp
          try simp only[Act.put,qj,qz,qv]
          refine wpAnyH_take (i:=12) (oi:={dst:=some 63,op:=_,type:=_,pos:=_,after:=_,guard:=_}) (v:= .pointer (some ⟨gB,0,none⟩)) rfl (by kernel_rfl) (by kernel_rfl) (by kernel_rfl) (fun _ _ _ h=>h) (Or.inl ⟨by rfl,?_⟩) hS ?_
          ·intro w' hw'
           obtain⟨s0,s1,s2,s3⟩:=hw'
           go_simp
          try simp only[Act.put,qj,qz,qv]
          refine wpAnyH_take (i:=13) (oi:={dst:=some 64,op:=_,type:=_,pos:=_,after:=_,guard:=_}) (v:= .pointer (some ⟨gB,32,none⟩)) rfl (by kernel_rfl) (by kernel_rfl) (by kernel_rfl) (fun _ _ _ h=>h) (Or.inl ⟨by rfl,?_⟩) hS ?_
          ·intro w' hw'
           obtain⟨s0,s1,s2,s3⟩:=hw'
           go_simp
          try simp only[Act.put,qj,qz,qv]
          refine wpAnyH_take (i:=14) (oi:={dst:=some 65,op:=_,type:=_,pos:=_,after:=_,guard:=_}) (v:= .slice (some ⟨g,0,none⟩) m0 c) rfl (by kernel_rfl) (by kernel_rfl) (by kernel_rfl) (fun _ _ _ h=>h) (Or.inl ⟨by rfl,?_⟩) hS ?_
          ·intro w' hw'
           obtain⟨s0,s1,s2,s3⟩:=hw'
           go_simp
          try simp only[Act.put,qj,qz,qv]
          refine wpAnyH_take (i:=15) (oi:={dst:=some 66,op:=_,type:=_,pos:=_,after:=_,guard:=_}) (v:= .int .i64 (m0:Int)) rfl (by kernel_rfl) (by kernel_rfl) (by kernel_rfl) (fun _ _ _ h=>h) (Or.inl ⟨by rfl,?_⟩) hS ?_
          ·intro w' hw'
           obtain⟨s0,s1,s2,s3⟩:=hw'
           go_simp
          try simp only[Act.put,qj,qz,qv]
          refine wpAnyH_take (i:=16) (oi:={dst:=some 67,op:=_,type:=_,pos:=_,after:=_,guard:=_}) (v:= .int .i64 (n:Int)) rfl (by kernel_rfl) (by kernel_rfl) (by kernel_rfl) (fun _ _ _ h=>h) (Or.inl ⟨by rfl,?_⟩) hS ?_
          ·intro w' hw'
           obtain⟨s0,s1,s2,s3⟩:=hw'
           go_simp
          try simp only[Act.put,qj,qz,qv]
          refine wpAnyH_take (i:=17) (oi:={dst:=some 68,op:=_,type:=_,pos:=_,after:=_,guard:=_}) (v:= .pointer (some ⟨g,n*3,none⟩)) rfl (by kernel_rfl) (by kernel_rfl) (by kernel_rfl) (fun _ _ _ h=>h) (Or.inl ⟨by rfl,?_⟩) hS ?_
          ·intro w' hw'
           obtain⟨s0,s1,s2,s3⟩:=hw'
           go_simp
          try simp only[Act.put,qj,qz,qv]
          refine wpAnyH_take (i:=18) (oi:={dst:=some 69,op:=_,type:=_,pos:=_,after:=_,guard:=_}) (v:= .pointer (some ⟨g,n*3+1,none⟩)) rfl (by kernel_rfl) (by kernel_rfl) (by kernel_rfl) (fun _ _ _ h=>h) (Or.inl ⟨by rfl,?_⟩) hS ?_
          ·intro w' hw'
           obtain⟨s0,s1,s2,s3⟩:=hw'
           go_simp
          try simp only[Act.put,qj,qz,qv]
          refine wpAnyH_take (i:=19) (oi:={dst:=some 70,op:=_,type:=_,pos:=_,after:=_,guard:=_}) (v:= .int .i64 last) rfl (by kernel_rfl) (by kernel_rfl) (by kernel_rfl) (fun _ _ _ h=>h) (Or.inl ⟨by rfl,?_⟩) hS ?_
          ·intro w' hw'
           obtain⟨s0,s1,s2,s3⟩:=hw'
           go_simp
          try simp only[Act.put,qj,qz,qv]
          refine wpAnyH_take (i:=20) (oi:={dst:=some 71,op:=_,type:=_,pos:=_,after:=_,guard:=_}) (v:= .bool true) rfl (by kernel_rfl) (by kernel_rfl) (by kernel_rfl) (fun _ _ _ h=>h) (Or.inl ⟨by rfl,?_⟩) hS ?_
          ·intro w' hw'
           obtain⟨s0,s1,s2,s3⟩:=hw'
           go_simp
          try simp only[Act.put,qj,qz,qv]
          refine wpAnyH_take (i:=21) (oi:={dst:=some 72,op:=_,type:=_,pos:=_,after:=_,guard:=_}) (v:= .bool true) rfl (by kernel_rfl) (by kernel_rfl) (by kernel_rfl) (fun _ _ _ h=>h) (Or.inl ⟨by rfl,?_⟩) hS ?_
          ·intro w' hw'
           obtain⟨s0,s1,s2,s3⟩:=hw'
           go_simp
          try simp only[Act.put,qj,qz,qv]
          refine wpAnyH_take (i:=22) (oi:={dst:=some 73,op:=_,type:=_,pos:=_,after:=_,guard:=_}) (v:= .bool true) rfl (by kernel_rfl) (by kernel_rfl) (by kernel_rfl) (fun _ _ _ h=>h) (Or.inl ⟨by rfl,?_⟩) hS ?_
          ·intro w' hw'
           obtain⟨s0,s1,s2,s3⟩:=hw'
           go_simp
          try simp only[Act.put,qj,qz,qv]
          refine wpAnyH_done (by kernel_rfl) ?_ _
          refine NoPanic.normal ?_
          go_wp2_with fail
          go_ret
          exact⟨rfl,b,(enterM_bad (by rw[HE.out];decide)).symm,HB2.out.drew,(Frm.refl w _).below HK2.out.drew (Nat.le_refl _),fun k hk=> .inl hk⟩
         ·have hE6:E=0:=by have h5:=HE0.out;rw[if_neg (by rintro⟨-,h6|h6⟩;exact h6 hge;exact hle h6)]at h5;exact h5
          subst hE6
          have HE:=qq HEe.out.symm
          have HGe:=qq hge
          have hlast:∀x∈b.es,x.no<no:=fun x hx=>by have:=HLr.out x hx;omega
          have HLast:=qq hlast
          clear hge hlast
          go_enter Tryd.func6,Tryd.ntmps6
          go_upto_region 1 with fail
          rw[←HW2.out]
          go_wp2_with fail
          refine HR.out.mono ?_
          rintro e w3 ⟨rfl,rfl⟩
          rw[hrt]
          go_upto_region 8 with fail
          refine wp_region_noPanic ?_
          refine wp_region_held_drew (S:=fun w'=>w'.rangeAt w.heap.size 0 (grp.map b8)∧w'.rangeAt gB 0 (b.grp.map b8)∧w'.cell? ⟨gB,32,none⟩=some (.slice (some ⟨g,0,none⟩) m0 c)∧w'.cell? ⟨g,n*3+1,none⟩=some (.int .i64 last)) (by kernel_rfl) hS (fun hS=>?_)
          refine wpAnyH_take (i:=0) (oi:={dst:=some 51,op:=_,type:=_,pos:=_,after:=_,guard:=_}) (v:= .int .i64 (m0:Int)) rfl (by kernel_rfl) (by kernel_rfl) (by kernel_rfl) (fun _ _ _ h=>h) (Or.inl ⟨by rfl,?_⟩) hS ?_
          ·intro w' hw'
           obtain⟨s0,s1,s2,s3⟩:=hw'
           go_simp
          try simp only[Act.put,qj,qz,qv]
          refine wpAnyH_take (i:=1) (oi:={dst:=some 52,op:=_,type:=_,pos:=_,after:=_,guard:=_}) (v:= .bool true) rfl (by kernel_rfl) (by kernel_rfl) (by kernel_rfl) (fun _ _ _ h=>h) (Or.inl ⟨by rfl,?_⟩) hS ?_
          ·intro w' hw'
           obtain⟨s0,s1,s2,s3⟩:=hw'
           go_simp
          try simp only[Act.put,qj,qz,qv]
          refine wpAnyH_take (i:=2) (oi:={dst:=some 53,op:=_,type:=_,pos:=_,after:=_,guard:=_}) (v:= .bool true) rfl (by kernel_rfl) (by kernel_rfl) (by kernel_rfl) (fun _ _ _ h=>h) (Or.inl ⟨by rfl,?_⟩) hS ?_
          ·intro w' hw'
           obtain⟨s0,s1,s2,s3⟩:=hw'
           go_simp
          try simp only[Act.put,qj,qz,qv]
          refine wpAnyH_take (i:=3) (oi:={dst:=some 54,op:=_,type:=_,pos:=_,after:=_,guard:=_}) (v:= .agg (grp.map b8).toArray) rfl (by kernel_rfl) (by kernel_rfl) (by kernel_rfl) (fun _ _ _ h=>h) (yieldsIf_load_mid (by rfl) 29 (.tmp 7) rfl w.heap.size 0 rfl (grp.map b8) _ (fun _ h=>h.1) hu rfl hi32) hS ?_
          try simp only[Act.put,qj,qz,qv]
          refine wpAnyH_take (i:=4) (oi:={dst:=some 55,op:=_,type:=_,pos:=_,after:=_,guard:=_}) (v:= .pointer (some ⟨gB,0,none⟩)) rfl (by kernel_rfl) (by kernel_rfl) (by kernel_rfl) (fun _ _ _ h=>h) (Or.inl ⟨by rfl,?_⟩) hS ?_
          ·intro w' hw'
           obtain⟨s0,s1,s2,s3⟩:=hw'
           go_simp
          try simp only[Act.put,qj,qz,qv]
          refine wpAnyH_take (i:=5) (oi:={dst:=some 56,op:=_,type:=_,pos:=_,after:=_,guard:=_}) (v:= .pointer (some ⟨gB,0,none⟩)) rfl (by kernel_rfl) (by kernel_rfl) (by kernel_rfl) (fun _ _ _ h=>h) (Or.inl ⟨by rfl,?_⟩) hS ?_
          ·intro w' hw'
           obtain⟨s0,s1,s2,s3⟩:=hw'
           go_simp
          try simp only[Act.put,qj,qz,qv]
          refine wpAnyH_take (i:=6) (oi:={dst:=some 57,op:=_,type:=_,pos:=_,after:=_,guard:=_}) (v:= .pointer (some ⟨gB,0,none⟩)) rfl (by kernel_rfl) (by kernel_rfl) (by kernel_rfl) (fun _ _ _ h=>h) (Or.inl ⟨by rfl,?_⟩) hS ?_
          ·intro w' hw'
           obtain⟨s0,s1,s2,s3⟩:=hw'
           go_simp
          try simp only[Act.put,qj,qz,qv]
          refine wpAnyH_take (i:=7) (oi:={dst:=some 58,op:=_,type:=_,pos:=_,after:=_,guard:=_}) (v:= .agg (b.grp.map b8).toArray) rfl (by kernel_rfl) (by kernel_rfl) (by kernel_rfl) (fun _ _ _ h=>h) (yieldsIf_load_mid (by rfl) 29 (.tmp 57) rfl gB 0 rfl (b.grp.map b8) _ (fun _ h=>h.2.1) hu rfl hi33) hS ?_
          try simp only[Act.put,qj,qz,qv]
          refine wpAnyH_take (i:=8) (oi:={dst:=some 59,op:=_,type:=_,pos:=_,after:=_,guard:=_}) (v:= .bool false) rfl (by kernel_rfl) (by kernel_rfl) (by kernel_rfl) (fun _ _ _ h=>h) (Or.inl ⟨by rfl,?_⟩) hS ?_
          ·intro w' hw'
           obtain⟨s0,s1,s2,s3⟩:=hw'
           go_simp
          try simp only[Act.put,qj,qz,qv]
          refine wpAnyH_take (i:=9) (oi:={dst:=some 60,op:=_,type:=_,pos:=_,after:=_,guard:=_}) (v:= .bool false) rfl (by kernel_rfl) (by kernel_rfl) (by kernel_rfl) (fun _ _ _ h=>h) (Or.inl ⟨by rfl,?_⟩) hS ?_
          ·intro w' hw'
           obtain⟨s0,s1,s2,s3⟩:=hw'
           go_simp
          try simp only[Act.put,qj,qz,qv]
          refine wpAnyH_take (i:=10) (oi:={dst:=some 61,op:=_,type:=_,pos:=_,after:=_,guard:=_}) (v:= .int .i64 no) rfl (by kernel_rfl) (by kernel_rfl) (by kernel_rfl) (fun _ _ _ h=>h) (Or.inl ⟨by rfl,?_⟩) hS ?_
          ·intro w' hw'
           obtain⟨s0,s1,s2,s3⟩:=hw'
           go_simp
          try simp only[Act.put,qj,qz,qv]
          refine wpAnyH_take (i:=11) (oi:={dst:=some 62,op:=_,type:=_,pos:=_,after:=_,guard:=_}) (v:= .pointer (some ⟨gB,0,none⟩)) rfl (by kernel_rfl) (by kernel_rfl) (by kernel_rfl) (fun _ _ _ h=>h) (Or.inl ⟨by rfl,?_⟩) hS ?_
          ·intro w' hw'
           obtain⟨s0,s1,s2,s3⟩:=hw'
           go_simp
          try simp only[Act.put,qj,qz,qv]
          refine wpAnyH_take (i:=12) (oi:={dst:=some 63,op:=_,type:=_,pos:=_,after:=_,guard:=_}) (v:= .pointer (some ⟨gB,0,none⟩)) rfl (by kernel_rfl) (by kernel_rfl) (by kernel_rfl) (fun _ _ _ h=>h) (Or.inl ⟨by rfl,?_⟩) hS ?_
          ·intro w' hw'
           obtain⟨s0,s1,s2,s3⟩:=hw'
           go_simp
          try simp only[Act.put,qj,qz,qv]
          refine wpAnyH_take (i:=13) (oi:={dst:=some 64,op:=_,type:=_,pos:=_,after:=_,guard:=_}) (v:= .pointer (some ⟨gB,32,none⟩)) rfl (by kernel_rfl) (by kernel_rfl) (by kernel_rfl) (fun _ _ _ h=>h) (Or.inl ⟨by rfl,?_⟩) hS ?_
          ·intro w' hw'
           obtain⟨s0,s1,s2,s3⟩:=hw'
           go_simp
          try simp only[Act.put,qj,qz,qv]
          refine wpAnyH_take (i:=14) (oi:={dst:=some 65,op:=_,type:=_,pos:=_,after:=_,guard:=_}) (v:= .slice (some ⟨g,0,none⟩) m0 c) rfl (by kernel_rfl) (by kernel_rfl) (by kernel_rfl) (fun _ _ _ h=>h) (Or.inl ⟨by rfl,?_⟩) hS ?_
          ·intro w' hw'
           obtain⟨s0,s1,s2,s3⟩:=hw'
           go_simp
          try simp only[Act.put,qj,qz,qv]
          refine wpAnyH_take (i:=15) (oi:={dst:=some 66,op:=_,type:=_,pos:=_,after:=_,guard:=_}) (v:= .int .i64 (m0:Int)) rfl (by kernel_rfl) (by kernel_rfl) (by kernel_rfl) (fun _ _ _ h=>h) (Or.inl ⟨by rfl,?_⟩) hS ?_
          ·intro w' hw'
           obtain⟨s0,s1,s2,s3⟩:=hw'
           go_simp
          try simp only[Act.put,qj,qz,qv]
          refine wpAnyH_take (i:=16) (oi:={dst:=some 67,op:=_,type:=_,pos:=_,after:=_,guard:=_}) (v:= .int .i64 (n:Int)) rfl (by kernel_rfl) (by kernel_rfl) (by kernel_rfl) (fun _ _ _ h=>h) (Or.inl ⟨by rfl,?_⟩) hS ?_
          ·intro w' hw'
           obtain⟨s0,s1,s2,s3⟩:=hw'
           go_simp
          try simp only[Act.put,qj,qz,qv]
          refine wpAnyH_take (i:=17) (oi:={dst:=some 68,op:=_,type:=_,pos:=_,after:=_,guard:=_}) (v:= .pointer (some ⟨g,n*3,none⟩)) rfl (by kernel_rfl) (by kernel_rfl) (by kernel_rfl) (fun _ _ _ h=>h) (Or.inl ⟨by rfl,?_⟩) hS ?_
          ·intro w' hw'
           obtain⟨s0,s1,s2,s3⟩:=hw'
           go_simp
          try simp only[Act.put,qj,qz,qv]
          refine wpAnyH_take (i:=18) (oi:={dst:=some 69,op:=_,type:=_,pos:=_,after:=_,guard:=_}) (v:= .pointer (some ⟨g,n*3+1,none⟩)) rfl (by kernel_rfl) (by kernel_rfl) (by kernel_rfl) (fun _ _ _ h=>h) (Or.inl ⟨by rfl,?_⟩) hS ?_
          ·intro w' hw'
           obtain⟨s0,s1,s2,s3⟩:=hw'
           go_simp
          try simp only[Act.put,qj,qz,qv]
          refine wpAnyH_take (i:=19) (oi:={dst:=some 70,op:=_,type:=_,pos:=_,after:=_,guard:=_}) (v:= .int .i64 last) rfl (by kernel_rfl) (by kernel_rfl) (by kernel_rfl) (fun _ _ _ h=>h) (Or.inl ⟨by rfl,?_⟩) hS ?_
          ·intro w' hw'
           obtain⟨s0,s1,s2,s3⟩:=hw'
           go_simp
          try simp only[Act.put,qj,qz,qv]
          refine wpAnyH_take (i:=20) (oi:={dst:=some 71,op:=_,type:=_,pos:=_,after:=_,guard:=_}) (v:= .bool false) rfl (by kernel_rfl) (by kernel_rfl) (by kernel_rfl) (fun _ _ _ h=>h) (Or.inl ⟨by rfl,?_⟩) hS ?_
          ·intro w' hw'
           obtain⟨s0,s1,s2,s3⟩:=hw'
           go_simp
          try simp only[Act.put,qj,qz,qv]
          refine wpAnyH_take (i:=21) (oi:={dst:=some 72,op:=_,type:=_,pos:=_,after:=_,guard:=_}) (v:= .bool false) rfl (by kernel_rfl) (by kernel_rfl) (by kernel_rfl) (fun _ _ _ h=>h) (Or.inl ⟨by rfl,?_⟩) hS ?_
          ·intro w' hw'
           obtain⟨s0,s1,s2,s3⟩:=hw'
           go_simp
          try simp only[Act.put,qj,qz,qv]
          refine wpAnyH_take (i:=22) (oi:={dst:=some 73,op:=_,type:=_,pos:=_,after:=_,guard:=_}) (v:= .bool false) rfl (by kernel_rfl) (by kernel_rfl) (by kernel_rfl) (fun _ _ _ h=>h) (Or.inl ⟨by rfl,?_⟩) hS ?_
          ·intro w' hw'
           obtain⟨s0,s1,s2,s3⟩:=hw'
           go_simp
          try simp only[Act.put,qj,qz,qv]
          refine wpAnyH_done (by kernel_rfl) ?_ _
          refine NoPanic.normal ?_
          clear hS hneq hi33 hi32 hu
          have HB3:=qq (show BoxAt (w2.drew) base gB b from HB2.out.of_same (fun k hk=>rfl))
          have HA13:=qq (show Arr b8 (w2.drew) w.heap.size 29 grp from HA1.out)
          have HA33:=qq (show Arr b8 (w2.drew) (w.heap.size+1) 29 s from HA3.out)
          have HK3:=qq (show Below w.heap.size w (w2.drew)from HK2.out.drew)
          have HT3:=qq (show Tab (w2.drew)from HT2.out)
          have hz3:(w2.drew).heap.size=w.heap.size+2:=hz2
          generalize w2.drew=w3 at HB3 HA13 HA33 HK3 HT3 hz3 ⊢
          clear HB2 HA1 HA3 HK2 HT2 HW2 c33 HR
          go_upto_region 11 with(first
           |(refine wpList_load_arr rfl 29 (.tmp 7) rfl w.heap.size rfl _ grp HA13.out _ Tryd.underlying29 rfl (by rw[HGl.out];exact infoSum) ?_)
           |(refine wpList_store_piece rfl 29 (.tmp 78) (.tmp 76) rfl gB 0 rfl (grp.map b8) rfl 45 _ [] (b.grp.map b8) [b.v,.bool b.clr] HB3.out.blk rfl rfl (by rw[List.length_map,List.length_map,HGl.out,HB3.out.glen]) (by rw[List.length_map,HGl.out];exact infoSum) (fun u hu=>by obtain⟨x,-,rfl⟩:=List.mem_map.1 hu;exact b8_one x) ?_;intro w4 hx4 hg4))
          have HB4:=qq (HB3.out.regroup grp HGl.out hx4 hg4)
          have hz4:w3.heap.size≤w4.heap.size:=hg4.size
          have HF4:=qq ((Frm.refl w (BX.foot gB b)).below HK3.out (Nat.le_refl _)|>.grown hg4 (by simp[BX.foot]))
          have HA4:=qq (show Arr b8 w4 (w.heap.size+1) 29 s from HA33.out.grown hg4 (fun e=>by injection e with e;have:=HH.out.gB_lt;omega))
          have hgBb:base≤gB:=HH.out.low.1
          have HT4:=qq (show Tab w4 from HT3.out.grown hg4 (by omega))
          have c32:=HB4.out.cell32
          dsimp only at c32
          obtain⟨m,hm⟩:∃m,m=b.es.length:=⟨_,rfl⟩
          obtain⟨A,c,hv,-⟩:=rowS_shape HB4.out.row
          have hv:b.v= .slice A m c:=by rw[hm];exact hv
          rw[hv]at c32
          have HMl:=qq hm
          have HV:=qq hv
          clear hm hv
          have hcz:(s.map b8).length=32:=by rw[List.length_map,HSl.out]
          have hr32:=HA4.out.whole
          obtain⟨Z,hZ⟩:∃Z,Z=s.map b8:=⟨_,rfl⟩
          rw[←hZ]at hcz hr32
          have HZ:=qq hZ
          have hu:=Tryd.underlying29
          have hi32:(Tryd.prog.info? 29).map (·.size)=some Z.length:=by rw[hcz];exact infoSum
          have HN:=qq (show Calls Tryd.prog 11 #[.agg Z.toArray,.int .i64 leaves] w4.drew fun e w'=>∃gC gl xs,e= .returned (.pointer (some ⟨gC,0,none⟩))∧ChX w' gC gl xs∧xs.length=linesN leaves∧(∀(i:Nat) (h:i<xs.length),xs[i].l=startL (leafS (linesN leaves) i s))∧(∀x∈xs,LP.hp x=[])∧
           (∀x∈xs,w4.drew.heap.size≤LP.gm x)∧w4.drew.heap.size≤gC∧gC<w'.heap.size∧w4.drew.heap.size≤gl∧gl<w'.heap.size∧linesN leaves≤32∧Below w4.drew.heap.size w4.drew w' by
           have h:=new_all w4.drew (show Tab w4.drew from HT4.out) s HSl.out leaves l0 l1
           rw[arrV_mk,←hZ]at h
           exact h)
          have hbu:∀gC:Nat,Tryd.prog.built 49 [(0,.pointer (some ⟨gC,0,none⟩)),(1,.int .i64 no),(2,.int .i64 leaf)]=some #[.pointer (some ⟨gC,0,none⟩),.int .i64 no,.int .i64 leaf]:=fun _=>by kernel_rfl
          obtain⟨i0,hi0,hz0,hs0,hb0⟩:=info_parts infoEpoch
          clear hx4 hg4 hZ
          have hS:w4.drew.rangeAt (w.heap.size+1) 0 Z∧w4.drew.cell? ⟨gB,32,none⟩=some (.slice A m c):=⟨hr32,c32⟩
          refine wp_region_Y (by kernel_rfl) (fun w'=>w'.rangeAt (w.heap.size+1) 0 Z∧w'.cell? ⟨gB,32,none⟩=some (.slice A m c)) 15 ?_
          refine wpAnyY_pure (i:=0) (oi:={dst:=some 79,op:=_,type:=_,pos:=_,after:=_,guard:=_}) (v:= .pointer (some ⟨gB,0,none⟩)) rfl (by kernel_rfl) (by kernel_rfl) (by kernel_rfl) (by kernel_rfl) (fun _ _ _ h=>h) (Or.inl ⟨by rfl,?_⟩) hS ?_
          ·intro w' hw'
           go_simp
          try simp only[Act.put,qj,qz,qv]
          refine wpAnyY_pure (i:=1) (oi:={dst:=some 80,op:=_,type:=_,pos:=_,after:=_,guard:=_}) (v:= .pointer (some ⟨gB,0,none⟩)) rfl (by kernel_rfl) (by kernel_rfl) (by kernel_rfl) (by kernel_rfl) (fun _ _ _ h=>h) (Or.inl ⟨by rfl,?_⟩) hS ?_
          ·intro w' hw'
           go_simp
          try simp only[Act.put,qj,qz,qv]
          refine wpAnyY_pure (i:=2) (oi:={dst:=some 81,op:=_,type:=_,pos:=_,after:=_,guard:=_}) (v:= .pointer (some ⟨gB,0,none⟩)) rfl (by kernel_rfl) (by kernel_rfl) (by kernel_rfl) (by kernel_rfl) (fun _ _ _ h=>h) (Or.inl ⟨by rfl,?_⟩) hS ?_
          ·intro w' hw'
           go_simp
          try simp only[Act.put,qj,qz,qv]
          refine wpAnyY_pure (i:=3) (oi:={dst:=some 82,op:=_,type:=_,pos:=_,after:=_,guard:=_}) (v:= .pointer (some ⟨gB,32,none⟩)) rfl (by kernel_rfl) (by kernel_rfl) (by kernel_rfl) (by kernel_rfl) (fun _ _ _ h=>h) (Or.inl ⟨by rfl,?_⟩) hS ?_
          ·intro w' hw'
           go_simp
          try simp only[Act.put,qj,qz,qv]
          refine wpAnyY_take (i:=4) (oi:={dst:=some 83,op:=_,type:=_,pos:=_,after:=_,guard:=_}) (v:= .slice A m c) rfl (by kernel_rfl) (by kernel_rfl) (by kernel_rfl) (by kernel_rfl) (by kernel_rfl) (fun _ _ _ h=>h) (Or.inl ⟨by rfl,?_⟩) hS ?_
          ·intro w' hw'
           obtain⟨-,s1⟩:=hw'
           go_simp
          try simp only[Act.put,qj,qz,qv]
          refine wpAnyY_take (i:=5) (oi:={dst:=some 84,op:=_,type:=_,pos:=_,after:=_,guard:=_}) (v:= .agg Z.toArray) rfl (by kernel_rfl) (by kernel_rfl) (by kernel_rfl) (by kernel_rfl) (by kernel_rfl) (fun _ _ _ h=>h) (yieldsIf_load_mid (by rfl) 29 (.tmp 9) rfl (w.heap.size+1) 0 rfl Z _ (fun _ h=>h.1) hu rfl hi32) hS ?_
          try simp only[Act.put,qj,qz,qv]
          refine wpAnyY_pure (i:=6) (oi:={dst:=some 85,op:=_,type:=_,pos:=_,after:=_,guard:=_}) (v:= .int .i64 leaves) rfl (by kernel_rfl) (by kernel_rfl) (by kernel_rfl) (by kernel_rfl) (fun _ _ _ h=>h) (Or.inl ⟨by rfl,?_⟩) hS ?_
          ·intro w' hw'
           go_simp
          try simp only[Act.put,qj,qz,qv]
          refine wpAnyY_pure (i:=8) (oi:={dst:=some 87,op:=_,type:=_,pos:=_,after:=_,guard:=_}) (v:= .int .i64 no) rfl (by kernel_rfl) (by kernel_rfl) (by kernel_rfl) (by kernel_rfl) (fun _ _ _ h=>h) (Or.inl ⟨by rfl,?_⟩) hS ?_
          ·intro w' hw'
           go_simp
          try simp only[Act.put,qj,qz,qv]
          refine wpAnyY_pure (i:=9) (oi:={dst:=some 88,op:=_,type:=_,pos:=_,after:=_,guard:=_}) (v:= .int .i64 leaf) rfl (by kernel_rfl) (by kernel_rfl) (by kernel_rfl) (by kernel_rfl) (fun _ _ _ h=>h) (Or.inl ⟨by rfl,?_⟩) hS ?_
          ·intro w' hw'
           go_simp
          try simp only[Act.put,qj,qz,qv]
          refine wpAnyY_one (i:=7) (o:={dst:=some 86,op:=_,type:=_,pos:=_,after:=_,guard:=_}) (by kernel_rfl) rfl (fun K' hK=>?_)
          go_simp
          go_at_call 11
          refine HN.out.mono ?_
          rintro e w5 ⟨gC,gl,xs,rfl,hcx,hxl,hxe,hxh,hxg,hgC,hgCl,hgl5,hgll,hl32,hb5⟩
          have hB5:Below w4.heap.size w4 w5:=(Below.refl w4.heap.size w4).drew.trans hb5
          have HB5:=qq (HB4.out.below hB5)
          have hz5:=hB5.size
          have hS5:w5.rangeAt (w.heap.size+1) 0 Z∧w5.cell? ⟨gB,32,none⟩=some (.slice A m c):=by
           refine⟨?_,?_⟩
           ·have h:=(HA4.out.below hB5 HA4.out.lt).whole
            rw[←HZ.out]at h;exact h
           ·have h:=HB5.out.cell32
            dsimp only at h
            rw[←HV.out];exact h
          have HCx:=qq hcx
          have HXl:=qq hxl
          have HXe:=qq hxe
          have HXh:=qq hxh
          have HXg:=qq (show∀x∈xs,w4.heap.size≤LP.gm x from hxg)
          have HgC:=qq (show w4.heap.size≤gC from hgC)
          have Hgl5:=qq (show w4.heap.size≤gl from hgl5)
          have HBel5:=qq hB5
          clear hcx hxl hxe hxh hxg hgC hgl5 hb5 hS hr32 c32 HN hB5
          refine hK _ _ (fun _=>hS5) ?_
          clear hK K'
          try simp only[Act.put,qj,qz,qv]
          have hS:=hS5
          clear hS5
          refine wpAnyY_pure (i:=10) (oi:={dst:=some 89,op:=_,type:=_,pos:=_,after:=_,guard:=_}) (v:= .agg #[.pointer (some ⟨gC,0,none⟩),.int .i64 no,.int .i64 leaf]) rfl (by kernel_rfl) (by kernel_rfl) (by kernel_rfl) (by kernel_rfl) (fun _ _ _ h=>h) (Or.inl ⟨by rfl,?_⟩) hS ?_
          ·intro w' hw'
           have hbg:=hbu gC
           go_simp
          try simp only[Act.put,qj,qz,qv]
          refine wpAnyY_one (i:=11) (o:={dst:=some 90,op:=_,type:=_,pos:=_,after:=_,guard:=_}) (by kernel_rfl) rfl (fun K' hK=>?_)
          refine step_box_slice rfl 43 49 (.tmp 89) rfl i0 (.agg zeroEp.toArray) 3 #[.pointer (some ⟨gC,0,none⟩),.int .i64 no,.int .i64 leaf] rfl rfl (by omega) (by omega) Tryd.underlying43 hi0 hz0 hs0 rfl ?_
          have hS6:(w5.alloc (.cells #[.pointer (some ⟨gC,0,none⟩),.int .i64 no,.int .i64 leaf] 49)).rangeAt (w.heap.size+1) 0 Z∧(w5.alloc (.cells #[.pointer (some ⟨gC,0,none⟩),.int .i64 no,.int .i64 leaf] 49)).cell? ⟨gB,32,none⟩=some (.slice A m c):=by
           refine⟨?_,?_⟩
           ·have h:=((HA4.out.below HBel5.out HA4.out.lt).alloc (.cells #[.pointer (some ⟨gC,0,none⟩),.int .i64 no,.int .i64 leaf] 49)).whole
            rw[←HZ.out]at h;exact h
           ·have h:=(HB5.out.alloc (.cells #[.pointer (some ⟨gC,0,none⟩),.int .i64 no,.int .i64 leaf] 49)).cell32
            dsimp only at h
            rw[←HV.out];exact h
          refine hK _ _ (fun _=>hS6) ?_
          clear hK K'
          try simp only[Act.put,qj,qz,qv]
          refine wpAnyY_one (i:=12) (o:={dst:=some 91,op:=_,type:=_,pos:=_,after:=_,guard:=_}) (by kernel_rfl) rfl (fun K' hK=>?_)
          have HB6:=qq (HB5.out.alloc (.cells #[.pointer (some ⟨gC,0,none⟩),.int .i64 no,.int .i64 leaf] 49))
          have hrow6:=HB6.out.row
          dsimp only at hrow6
          rw[←HMl.out,HV.out]at hrow6
          have hbl:base≤w5.heap.size:=by have:=HB5.out.gB_lt;omega
          have hm4:m≤4:=by rw[HMl.out];exact h4
          refine step_append_row rfl (.tmp 83) (.tmp 90) 43 rfl 3 (by omega) base 49 i0 (.agg zeroEp.toArray) 24 Tryd.underlying43 hi0 hz0 hs0 hb0 rfl _ m _ rfl hrow6 (w5.heap.size+1) (some ⟨w5.heap.size,0,none⟩) 1 1 [.pointer (some ⟨gC,0,none⟩),.int .i64 no,.int .i64 leaf] rfl rfl (by omega) (rdV_new w5 49 [.pointer (some ⟨gC,0,none⟩),.int .i64 no,.int .i64 leaf]) (by intro u hu;simp only[List.mem_cons,List.not_mem_nil,or_false]at hu;rcases hu with rfl|rfl|rfl<;>rfl) (by simp only[maxLen];omega) (by omega) (by rw[World.size_alloc];omega) ?_
          intro v7 w7 hown7 hg7 hbb7
          obtain⟨A7,c7,rfl,-⟩:=rowS_shape hown7
          have c32d:=(HB6.out.blk.grown hg7.by_ (fun e=>HB6.out.row_ne (by dsimp only;rw[HV.out];exact e.symm))).cell 32 (BX.c32 HB6.out.glen)
          dsimp only at c32d
          rw[HV.out]at c32d
          have f32:=(HB6.out.blk.grown hg7.by_ (fun e=>HB6.out.row_ne (by dsimp only;rw[HV.out];exact e.symm))).frozen 32
          have hS7:w7.rangeAt (w.heap.size+1) 0 Z∧w7.cell? ⟨gB,32,none⟩=some (.slice A m c):=by
           refine⟨?_,c32d⟩
           have h:=((HA4.out.below HBel5.out HA4.out.lt).alloc (.cells #[.pointer (some ⟨gC,0,none⟩),.int .i64 no,.int .i64 leaf] 49)).grown hg7.by_ (fun e=>by
            obtain⟨-,-,cs,h3⟩:=row_in hrow6 e.symm
            have h5:=(HA4.out.below HBel5.out HA4.out.lt).alloc (.cells #[.pointer (some ⟨gC,0,none⟩),.int .i64 no,.int .i64 leaf] 49)
            unfold Arr at h5
            rw[h5]at h3;injection h3 with h3;injection h3 with _ hT _;exact absurd hT (by decide))
           have h:=h.whole
           rw[←HZ.out]at h;exact h
          have Hrow7:=qq hown7
          have Hg7:=qq hg7
          clear hown7 hg7 hbb7 hrow6 hS hS6
          refine hK _ _ (fun _=>hS7) ?_
          clear hK K'
          try simp only[Act.put,qj,qz,qv]
          have hS:=hS7
          refine wpAnyY_pure (i:=13) (oi:={dst:=some 92,op:=_,type:=_,pos:=_,after:=_,guard:=_}) (v:= .pointer (some ⟨gB,0,none⟩)) rfl (by kernel_rfl) (by kernel_rfl) (by kernel_rfl) (by kernel_rfl) (fun _ _ _ h=>h) (Or.inl ⟨by rfl,?_⟩) hS ?_
          ·intro w' hw'
           go_simp
          try simp only[Act.put,qj,qz,qv]
          refine wpAnyY_pure (i:=14) (oi:={dst:=some 93,op:=_,type:=_,pos:=_,after:=_,guard:=_}) (v:= .pointer (some ⟨gB,32,none⟩)) rfl (by kernel_rfl) (by kernel_rfl) (by kernel_rfl) (by kernel_rfl) (fun _ _ _ h=>h) (Or.inl ⟨by rfl,?_⟩) hS ?_
          ·intro w' hw'
           go_simp
          try simp only[Act.put,qj,qz,qv]
          refine wpAnyY_one (i:=15) (o:={dst:=none,op:=_,type:=_,pos:=_,after:=_,guard:=_}) (by kernel_rfl) rfl (fun K' hK=>?_)
          go_simp
          refine hK _ _ (fun h=>absurd rfl h) (wpAnyY_done (by kernel_rfl) ?_ _)
          clear hK K'
          have hlf:((leaf.toNat:Nat):Int)=leaf:=by omega
          have hsd':soundB leaves=true:=HSd.out
          have hln:linesN leaves=leaves.toNat:=by unfold linesN;rw[if_pos hsd']
          have hxl:=HXl.out
          have hlx:leaf.toNat<xs.length:=by rw[hxl,hln];omega
          have hcx:=(HCx.out.at_ hlx).below ((Below.refl _ w5).alloc (Nat.le_refl _) (.cells #[.pointer (some ⟨gC,0,none⟩),.int .i64 no,.int .i64 leaf] 49))
          obtain⟨e,he⟩:∃e:EP,e=⟨gC,gl,xs,no,leaf.toNat⟩:=⟨_,rfl⟩
          have hec:e.cells=[.pointer (some ⟨gC,0,none⟩),.int .i64 no,.int .i64 leaf]:=by rw[he];unfold EP.cells;rw[hlf]
          have hem:e.m=⟨no,leaf.toNat,newLs leaves.toNat s⟩:=by
           rw[he]
           unfold EP.m
           congr 1
           refine List.ext_getElem (by rw[List.length_map,hxl,hln];unfold newLs;simp) (fun i h1 h2=>?_)
           rw[List.getElem_map,HXe.out i (by rw[List.length_map]at h1;exact h1),hln]
           simp[newLs]
          obtain⟨hP1,hP2,hP3⟩:=HB6.out.pushed (w6:=w7) (by show b.es.length≤4;exact h4) e w4.heap.size (by rw[he];exact hcx) (fun k hk=>by
           rw[he]at hk
           simp only[EP.foot,chFoot,List.mem_cons,List.mem_append]at hk
           rcases hk with rfl|rfl|hk|hk
           ·exact HgC.out
           ·exact Hgl5.out
           ·obtain⟨x,hx,rfl⟩:=List.mem_map.1 hk
            exact HXg.out x hx
           ·obtain⟨x,hx,hk⟩:=List.mem_flatMap.1 hk
            rw[HXh.out x hx]at hk;cases hk) (fun k hk=>(HB4.out.foot_lt k hk).2) (by rw[World.size_alloc];omega)
           (by rw[he];exact⟨hlx,by show xs.length≤32;rw[hxl];exact hl32,by show 0≤no;omega,by show no≤4294967295;omega⟩)
           (fun x hx=>by rw[he];exact HLast.out x hx) (v':=(.slice A7 (m+1) c7)) (by show w7.ownsRow base _ 3 (.slice A7 (m+1) c7) (b.es.length+1) (b.es.flatMap EP.cells++e.cells);rw[hec,←HMl.out];exact Hrow7.out) (by show Grew _ w7 b.v (.slice A7 (m+1) c7);rw[HV.out];exact Hg7.out)
          dsimp only at hP1 hP2 hP3
          obtain⟨w8,hw8⟩:∃w8,w8=w7.setCell ⟨gB,32,none⟩ (.slice A7 (m+1) c7):=⟨_,rfl⟩
          rw[←hw8]at hP1 hP2
          have HB8:=qq hP1
          have HF8:=qq (show Frm w w8 (BX.foot gB b)from
           let f6:=(HF4.out.below HBel5.out (Nat.le_refl _)).below ((Below.refl _ w5).alloc (Nat.le_refl _) (.cells #[.pointer (some ⟨gC,0,none⟩),.int .i64 no,.int .i64 leaf] 49)) (Nat.le_refl _)
           ⟨hP2.os.trans f6.os,hP2.tape.trans f6.tape,hP2.output.trans f6.output,Nat.le_trans f6.size hP2.size,fun k hk hn=>(hP2.block k (Nat.lt_of_lt_of_le hk f6.size) hn).trans (f6.block k hk hn)⟩)
          have hzz:w.heap.size≤w4.heap.size:=by omega
          have HFt:=qq (show∀k∈BX.foot gB ⟨grp,(.slice A7 (m+1) c7),b.es++ [e],b.clr⟩,k∈BX.foot gB b∨w.heap.size≤k from fun k hk=>(hP3 k hk).imp (fun h=>h) (fun h=>Nat.le_trans hzz h))
          have c328:=HB8.out.cell32
          dsimp only at c328
          have f328:=HB8.out.blk.frozen 32
          have HHm:=qq (show enterM b.m grp no leaves leaf s=⟨grp,pushE b.m.es ⟨no,leaf.toNat,newLs leaves.toNat s⟩,false⟩ by unfold enterM;rw[if_pos HE.out])
          have HEm:=qq hem
          have HCl:=qq hclr
          have hmm:b.m.es.length=m:=by rw[HMl.out];unfold BX.m;simp
          have HMm:=qq hmm
          rw[←hw8]
          clear hw8 hP1 hP2 hP3 hec hem hcx hxl hlx hln hmm hS7 c32d f32 HCx HXl HXe HXh HXg HgC Hgl5 HBel5 Hrow7 Hg7 HB6 HB5 HB4 HF4 HA4 HT4 hrt hclr hbu hi32 hu hcz
          by_cases hm5:m=4
          ·subst hm5
           have hl5:(b.es++ [e]).length=5:=by rw[List.length_append,←HMl.out];rfl
           obtain⟨g,c9,hv9,-⟩:=HB8.out.v_some (by dsimp only;omega)
           dsimp only at hv9
           injection hv9 with e1 e2 e3
           subst e1
           have HL5:=qq hl5
           have HD:=qq (delete_any (w:=w8) (base:=base) (g:=g) (c:=c7) (us:=(b.es++ [e]).flatMap EP.cells) (by have h:=HB8.out.row;dsimp only at h;rw[hl5]at h;exact h) (fun u hu=>by
            obtain⟨x,-,hx⟩:=List.mem_flatMap.1 hu
            exact x.cells_one u hx))
           clear e2 e3 hl5
           go_wp2_with (go_at_call 12;refine HD.out.mono ?_;rintro e9 w9 ⟨rfl,hr9,hg9⟩;have HR9:=qq hr9;have HG9:=qq hg9;have c329:=(HB8.out.blk.grown hg9 (fun e2=>HB8.out.row_ne e2.symm)).cell 32 (BX.c32 HB8.out.glen);have f329:=(HB8.out.blk.grown hg9 (fun e2=>HB8.out.row_ne e2.symm)).frozen 32;clear hr9 hg9)
           go_ret
           obtain⟨hD1,hD2,hD3⟩:=HB8.out.deleted (g:=g) (c:=c7) rfl HL5.out HR9.out HG9.out
           refine⟨rfl,_,?_,hD1,?_,fun k hk=>HFt.out k (hD3 k hk)⟩
           ·rw[HHm.out]
            unfold pushE
            rw[if_pos (by rw[HMm.out];omega)]
            show(⟨grp,(b.es++ [e]).tail.map EP.m,b.clr⟩:BM)=⟨grp,(b.es.map EP.m++ [_]).tail,false⟩
            rw[List.map_tail,List.map_append,List.map_singleton,HEm.out,HCl.out]
           ·have f8:=HF8.out
            refine⟨hD2.os.trans f8.os,hD2.tape.trans f8.tape,hD2.output.trans f8.output,Nat.le_trans f8.size hD2.size,fun k hk hn=>(hD2.block k (Nat.lt_of_lt_of_le hk f8.size) (fun hm=>?_)).trans (f8.block k hk hn)⟩
            rcases HFt.out k hm with h|h
            ·exact hn h
            ·omega
          ·have hgt:((m:Int)+1>4)=False:=by simp;omega
           go_wp2_with fail
           go_ret
           refine⟨rfl,_,?_,HB8.out,HF8.out,HFt.out⟩
           rw[HHm.out]
           unfold pushE
           rw[if_neg (by rw[HMm.out];omega)]
           show(⟨grp,(b.es++ [e]).map EP.m,b.clr⟩:BM)=⟨grp,b.es.map EP.m++ [_],false⟩
           rw[List.map_append,List.map_singleton,HEm.out,HCl.out]
end Go.Proofs.YtelgjaiknaalkaaDoor
