/- Lemmas. -/
import Derived.Test.YtelgjaiknaalkaaGreatDoorPu12
open Go.Proofs.Tryz
open List renaming setIfInBounds_toArray → qj
open List renaming set_cons_zero → qz
open List renaming set_cons_succ → qv
open List renaming length_map → QN, getElem?_eq_getElem → QT, mem_map → QW, mem_cons → Ja, not_mem_nil → JM, mem_append → QS, mem_flatMap → Jk, length_append → QO, map_append → Q9, drop_zero → J0, take_left' → Zc, replicate → QL, mem_append_right → Zf, getElem?_append_right → JA, range → Q6, length → JT, getD → QR
open Nat renaming add_sub_cancel → Zn, le_refl → QI, le_trans → QX, lt_of_lt_of_le → Jq
open Go.World renaming size_alloc → QQ
open Go.RowKit.Below renaming refl → QK
open Go.Act renaming put → QJ
open Go.Value renaming slice → JZ, int → QM
set_option linter.unusedVariables false
set_option linter.unusedSimpArgs false
set_option maxHeartbeats 8000000
namespace Go.Proofs.YtelgjaiknaalkaaGreatDoor
section
open Go.RowKit
set_option maxRecDepth 100000
theorem qhK{b:BX}{n:Nat}(hn:b.es.length=n+1):kX b.m.es=(b.es[n]'(by omega)).no:=by
 unfold kX BX.m;simp only[List.getLast?_eq_getElem?,QN,hn,Zn,List.getElem?_map,QT (show n<b.es.length by omega),Option.map_some,EP.m]
theorem jx{b:BM}{grp:qf}{no leaves leaf:Int}{s:qf}(h:vy b grp no leaves leaf≠0):vO b grp no leaves leaf s=b:=by unfold vO;rw[if_neg h]
theorem qlm{w:World}{base gB:Nat}{b:BX}(h:qI w base gB b)(h4:b.es.length≤4)(hT:Tab w)(hb1:1<base)(grp s:qf)(hgl:grp.length=32)(hsl:s.length=32)(no leaves leaf:Int)
 (l0: -9223372036854775808≤leaves)(l1:leaves<9223372036854775808):
 Calls prog 10 #[.pointer (some ⟨gB,0,none⟩),jL b8 grp,.int .i64 no,jL b8 s,.int .i64 leaves,.int .i64 leaf] w fun e w'=>e= .returned (zG (vy b.m grp no leaves leaf))∧
  ∃b',b'.m=vO b.m grp no leaves leaf s∧qI w' base gB b'∧Frm w w' (BX.foot gB b)∧∀k∈BX.foot gB b',k∈BX.foot gB b∨w.heap.size≤k:=by
 obtain⟨w2,hw2⟩:∃w2,w2=(w.alloc (.cells (grp.map b8).toArray 23)).alloc (.cells (s.map b8).toArray 23):=⟨_,rfl⟩;have HA1:=qe (show Arr b8 w2 w.heap.size 23 grp by rw[hw2];exact(Arr.new b8 w _ grp).alloc _);have HA3:=qe (show Arr b8 w2 (w.heap.size+1) 23 s by rw[hw2];have h1:=Arr.new b8 (w.alloc (.cells (grp.map b8).toArray 23)) 23 s;rw[QQ]at h1;exact h1);have HK2:=qe (show Below w.heap.size w w2 by rw[hw2];exact((QK _ w).alloc (QI _) _).alloc (by simp) _)
 have hz2:w2.heap.size=w.heap.size+2:=by rw[hw2];simp
 have HB2:=qe (h.below HK2.1);have HW2:=qe hw2;have c33:=HB2.1.cell33;have HR:=qe (qdX leaves l0 l1 w2);have HGl:=qe hgl;have HSl:=qe hsl;have HH:=qe h;obtain⟨E,hE⟩:∃E,E=vy b.m grp no leaves leaf:=⟨_,rfl⟩;have hm1:b.m.clr=b.clr:=rfl;have hE0:=hE;unfold vy at hE0;rw[hm1]at hE0;rw[←hE,qn,qn];have hbnd:=h.bnd;clear h hw2 hgl hsl hm1;cases hclr:b.clr with
 |true=>
  rw[hclr]at hE0 c33;rw[if_pos rfl]at hE0;subst hE0;have HE:=qe hE.symm;clear hE hclr hbnd;go_enter func10,ntmps10
  go_upto_region 1 with fail
  rw[←HW2.1];go_wp2_with fail
  go_ret;exact⟨rfl,b,(jx (by rw[HE.1];decide)).symm,HB2.1,(Frm.refl w _).below HK2.1 (QI _),fun k hk=> .inl hk⟩
 |false=>
  rw[hclr]at hE0 c33;rw[if_neg (by decide)]at hE0;cases hsd:jB leaves with
  |false=>
   rw[if_pos (.inl hsd)]at hE0;subst hE0;have HE:=qe hE.symm;have hrt:uP leaves= -1:=by unfold uP;rw[if_neg (by rw[hsd];decide)]
   clear hE hclr hbnd hsd;go_enter func10,ntmps10
   go_upto_region 1 with fail
   rw[←HW2.1];go_wp2_with fail
   refine HR.1.mono ?_;rintro e w3 ⟨rfl,rfl⟩;rw[hrt];go_wp2_with fail
   go_ret;exact⟨rfl,b,(jx (by rw[HE.1];decide)).symm,HB2.1,(Frm.refl w _).below HK2.1 (QI _),fun k hk=> .inl hk⟩
  |true=>
   obtain⟨k,hk,hlv⟩:=qcD hsd;have hl1:1≤leaves:=by have:1≤2^k:=Nat.one_le_two_pow;rw[hlv];omega
   have hl32:leaves≤32:=by have:2^k≤2^5:=Nat.pow_le_pow_right (by decide) hk;rw[hlv];omega
   have HLv:=qe hlv;have HSd:=qe hsd;clear hlv;have hrt:uP leaves=leaves-1:=by unfold uP;rw[if_pos hsd]
   have hr0:¬(leaves-1<0):=by omega
   by_cases hf0:leaf<0
   ·rw[if_pos (.inr (.inl hf0))]at hE0
    subst hE0;have HE:=qe hE.symm;clear hE hclr hbnd hsd;go_enter func10,ntmps10
    go_upto_region 1 with fail
    rw[←HW2.1];go_wp2_with fail
    refine HR.1.mono ?_;rintro e w3 ⟨rfl,rfl⟩;rw[hrt];go_wp2_with fail
    go_ret;exact⟨rfl,b,(jx (by rw[HE.1];decide)).symm,HB2.1,(Frm.refl w _).below HK2.1 (QI _),fun k hk=> .inl hk⟩
   ·by_cases hf1:leaves≤leaf
    ·rw[if_pos (.inr (.inr hf1))]at hE0
     subst hE0;have HE:=qe hE.symm;have hf2:leaf≥leaves:=hf1;clear hE hclr hbnd hsd;go_enter func10,ntmps10
     go_upto_region 1 with fail
     rw[←HW2.1];go_wp2_with fail
     refine HR.1.mono ?_;rintro e w3 ⟨rfl,rfl⟩;rw[hrt];go_wp2_with fail
     go_ret;exact⟨rfl,b,(jx (by rw[HE.1];decide)).symm,HB2.1,(Frm.refl w _).below HK2.1 (QI _),fun k hk=> .inl hk⟩
    ·rw[if_neg (by rw[hsd];simp;omega)]at hE0
     have hf2:¬(leaf≥leaves):=by omega
     by_cases hn0:no<0
     ·rw[if_pos (.inl hn0)]at hE0
      subst hE0;have HE:=qe hE.symm;clear hE hclr hbnd hsd;go_enter func10,ntmps10
      go_upto_region 1 with fail
      rw[←HW2.1];go_wp2_with fail
      refine HR.1.mono ?_;rintro e w3 ⟨rfl,rfl⟩;rw[hrt];go_wp2_with fail
      go_ret;exact⟨rfl,b,(jx (by rw[HE.1];decide)).symm,HB2.1,(Frm.refl w _).below HK2.1 (QI _),fun k hk=> .inl hk⟩
     ·by_cases hn1:4294967295<no
      ·rw[if_pos (.inr hn1)]at hE0
       subst hE0;have HE:=qe hE.symm;have hn2:no>4294967295:=hn1;clear hE hclr hbnd hsd;go_enter func10,ntmps10
       go_upto_region 1 with fail
       rw[←HW2.1];go_wp2_with fail
       refine HR.1.mono ?_;rintro e w3 ⟨rfl,rfl⟩;rw[hrt];go_wp2_with fail
       go_ret;exact⟨rfl,b,(jx (by rw[HE.1];decide)).symm,HB2.1,(Frm.refl w _).below HK2.1 (QI _),fun k hk=> .inl hk⟩
      ·rw[if_neg (by omega)]at hE0
       have hn2:¬(no>4294967295):=hn1;rcases Nat.eq_zero_or_pos b.es.length with he|he
       ·have hes:b.es=[]:=List.eq_nil_of_length_eq_zero he
        rw[if_neg (by rw[Ne,qa6,hes];simp)]at hE0;subst hE0;have HE:=qe hE.symm;have c32:=HB2.1.cell32;obtain⟨A0,c0,hv0,-⟩:=qX HB2.1.row;rw[hv0,he]at c32;have HHe:=qe hes;have HT2:=qe (hT.below HK2.1);clear hE hbnd hsd he hes hv0 hT;go_enter func10,ntmps10
        go_upto_region 1 with fail
        rw[←HW2.1];go_wp2_with fail
        refine HR.1.mono ?_;rintro e w3 ⟨rfl,rfl⟩;rw[hrt];go_upto_region 8 with fail
        go_quiet (fail)
        have hlast:∀x∈b.es,x.no<no:=fun x hx=>by rw[HHe.1]at hx;cases hx
        have HLast:=qe hlast;clear hlast c32;have HB3:=qe (show qI (w2.drewN nq) base gB b from HB2.1.of_same (fun k hk=>rfl));have HA13:=qe (show Arr b8 (w2.drewN nq) w.heap.size 23 grp from HA1.1);have HA33:=qe (show Arr b8 (w2.drewN nq) (w.heap.size+1) 23 s from HA3.1);have HK3:=qe (show Below w.heap.size w (w2.drewN nq)from je HK2.1 nq);have HT3:=qe (show Tab (w2.drewN nq)from HT2.1)
        have hz3:(w2.drewN nq).heap.size=w.heap.size+2:=hz2;generalize w2.drewN nq=w3 at HB3 HA13 HA33 HK3 HT3 hz3 ⊢;clear HB2 HA1 HA3 HK2 HT2 HW2 c33 HR;go_upto_region 11 with(first
         |(refine qm rfl 23 (.tmp 7) rfl w.heap.size rfl _ grp HA13.1 _ underlying23 rfl (by rw[HGl.1];exact jy) ?_)
         |(refine qi rfl 23 (.tmp 78) (.tmp 76) rfl gB 0 rfl (grp.map b8) rfl 76 _ [] (b.grp.map b8) [b.v,.bool b.clr] HB3.1.blk rfl rfl (by rw[QN,QN,HGl.1,HB3.1.glen]) (by rw[QN,HGl.1];exact jy) (fun u hu=>by obtain⟨x,-,rfl⟩:=QW.1 hu;exact qH x) ?_;intro w4 hx4 hg4))
        have HB4:=qe (HB3.1.regroup grp HGl.1 hx4 hg4);have hz4:w3.heap.size≤w4.heap.size:=hg4.size;have HF4:=qe ((Frm.refl w (BX.foot gB b)).below HK3.1 (QI _)|>.grown hg4 (by simp[BX.foot]));have HA4:=qe (show Arr b8 w4 (w.heap.size+1) 23 s from HA33.1.grown hg4 (fun e=>by injection e with e;have:=HH.1.gB_lt;omega));have hgBb:base≤gB:=HH.1.low.1;have HT4:=qe (show Tab w4 from HT3.1.grown hg4 (by omega))
        have c32:=HB4.1.cell32;dsimp only at c32;obtain⟨m,hm⟩:∃m,m=b.es.length:=⟨_,rfl⟩;obtain⟨A,c,hv,-⟩:=qX HB4.1.row;have hv:b.v= .slice A m c:=by rw[hm];exact hv
        rw[hv]at c32;have HMl:=qe hm;have HV:=qe hv;clear hm hv;have hcz:(s.map b8).length=32:=by rw[QN,HSl.1]
        have hr32:=HA4.1.whole;obtain⟨Z,hZ⟩:∃Z,Z=s.map b8:=⟨_,rfl⟩;rw[←hZ]at hcz hr32;have HZ:=qe hZ;have hu:=underlying23;have hi32:(prog.info? 23).map (·.size)=some Z.length:=by rw[hcz];exact jy
        have HN:=qe (show Calls prog 29 #[.agg Z.toArray,.int .i64 leaves] w4.drew fun e w'=>∃gC gl xs,e= .returned (.pointer (some ⟨gC,0,none⟩))∧ChX w' gC gl xs∧xs.length=zS leaves∧(∀(i:Nat) (h:i<xs.length),xs[i].l=ju (vr (zS leaves) i s))∧(∀x∈xs,LP.hp x=[])∧
         (∀x∈xs,w4.drew.heap.size≤LP.gm x)∧w4.drew.heap.size≤gC∧gC<w'.heap.size∧w4.drew.heap.size≤gl∧gl<w'.heap.size∧zS leaves≤32∧Below w4.drew.heap.size w4.drew w' by
         have h:=qjG w4.drew (show Tab w4.drew from HT4.1) s HSl.1 leaves l0 l1;rw[qn,←hZ]at h;exact h)
        have hbu:∀gC:Nat,prog.built 80 [(0,.pointer (some ⟨gC,0,none⟩)),(1,.int .i64 no),(2,.int .i64 leaf)]=some #[.pointer (some ⟨gC,0,none⟩),.int .i64 no,.int .i64 leaf]:=fun _=>by kernel_rfl
        obtain⟨i0,hi0,hz0,hs0,hb0⟩:=info_parts qcF;clear hx4 hg4 hZ;have hS:w4.drew.rangeAt (w.heap.size+1) 0 Z∧w4.drew.cell? ⟨gB,32,none⟩=some (.slice A m c):=⟨hr32,c32⟩;refine jr (by kernel_rfl) (fun w'=>w'.rangeAt (w.heap.size+1) 0 Z∧w'.cell? ⟨gB,32,none⟩=some (.slice A m c)) 15 ?_;refine puB 0 (.pointer (some ⟨gB,0,none⟩)) hS ?_;refine puB 1 (.pointer (some ⟨gB,0,none⟩)) hS ?_;refine puB 2 (.pointer (some ⟨gB,0,none⟩)) hS ?_
        try simp only[QJ,qj,qz,qv]
        refine puB 3 (.pointer (some ⟨gB,32,none⟩)) hS ?_;refine tkY 4 (.slice A m c) ?_ hS ?_
        ·intro w' hw'
         obtain⟨-,s1⟩:=hw';go_simp
        refine tkL 5 (.agg Z.toArray) rfl rfl (yieldsIf_load_mid (by rfl) 23 (.tmp 9) rfl (w.heap.size+1) 0 rfl Z _ (fun _ h=>h.1) hu rfl hi32) hS ?_;try simp only[QJ,qj,qz,qv]
        refine puB 6 (.int .i64 leaves) hS ?_;refine puB 8 (.int .i64 no) hS ?_;refine puB 9 (.int .i64 leaf) hS ?_;try simp only[QJ,qj,qz,qv]
        refine onY 7 (fun K' hK=>?_);go_simp;go_at_call 29;refine HN.1.mono ?_;rintro e w5 ⟨gC,gl,xs,rfl,hcx,hxl,hxe,hxh,hxg,hgC,hgCl,hgl5,hgll,hl32,hb5⟩;have hB5:Below w4.heap.size w4 w5:=(QK w4.heap.size w4).drew.trans hb5;have HB5:=qe (HB4.1.below hB5);have hz5:=hB5.size;have hS5:w5.rangeAt (w.heap.size+1) 0 Z∧w5.cell? ⟨gB,32,none⟩=some (.slice A m c):=by
         refine⟨?_,?_⟩
         ·have h:=(HA4.1.below hB5 HA4.1.lt).whole
          rw[←HZ.1]at h;exact h
         ·have h:=HB5.1.cell32
          dsimp only at h;rw[←HV.1];exact h
        have HCx:=qe hcx;have HXl:=qe hxl;have HXe:=qe hxe;have HXh:=qe hxh;have HXg:=qe (show∀x∈xs,w4.heap.size≤LP.gm x from hxg);have HgC:=qe (show w4.heap.size≤gC from hgC);have Hgl5:=qe (show w4.heap.size≤gl from hgl5);have HBel5:=qe hB5;clear hcx hxl hxe hxh hxg hgC hgl5 hb5 hS hr32 c32 HN hB5;refine hK _ _ (fun _=>hS5) ?_;clear hK K';try simp only[QJ,qj,qz,qv]
        have hS:=hS5;clear hS5;refine puY 10 (.agg #[.pointer (some ⟨gC,0,none⟩),.int .i64 no,.int .i64 leaf]) ?_ hS ?_
        ·intro w' hw'
         have hbg:=hbu gC;go_simp
        try simp only[QJ,qj,qz,qv]
        refine onY 11 (fun K' hK=>?_);refine jP rfl 74 80 (.tmp 89) rfl i0 (.agg kj.toArray) 3 #[.pointer (some ⟨gC,0,none⟩),.int .i64 no,.int .i64 leaf] rfl rfl (by omega) (by omega) underlying74 hi0 hz0 hs0 rfl ?_;have hS6:(w5.alloc (.cells #[.pointer (some ⟨gC,0,none⟩),.int .i64 no,.int .i64 leaf] 80)).rangeAt (w.heap.size+1) 0 Z∧(w5.alloc (.cells #[.pointer (some ⟨gC,0,none⟩),.int .i64 no,.int .i64 leaf] 80)).cell? ⟨gB,32,none⟩=some (.slice A m c):=by
         refine⟨?_,?_⟩
         ·have h:=((HA4.1.below HBel5.1 HA4.1.lt).alloc (.cells #[.pointer (some ⟨gC,0,none⟩),.int .i64 no,.int .i64 leaf] 80)).whole
          rw[←HZ.1]at h;exact h
         ·have h:=(HB5.1.alloc (.cells #[.pointer (some ⟨gC,0,none⟩),.int .i64 no,.int .i64 leaf] 80)).cell32
          dsimp only at h;rw[←HV.1];exact h
        refine hK _ _ (fun _=>hS6) ?_;clear hK K';try simp only[QJ,qj,qz,qv]
        refine onY 12 (fun K' hK=>?_);have HB6:=qe (HB5.1.alloc (.cells #[.pointer (some ⟨gC,0,none⟩),.int .i64 no,.int .i64 leaf] 80));have hrow6:=HB6.1.row;dsimp only at hrow6;rw[←HMl.1,HV.1]at hrow6;have hbl:base≤w5.heap.size:=by have:=HB5.1.gB_lt;omega
        have hm4:m≤4:=by rw[HMl.1];exact h4
        refine jH rfl (.tmp 83) (.tmp 90) 74 rfl 3 (by omega) base 80 i0 (.agg kj.toArray) 24 underlying74 hi0 hz0 hs0 hb0 rfl _ m _ rfl hrow6 (w5.heap.size+1) (some ⟨w5.heap.size,0,none⟩) 1 1 [.pointer (some ⟨gC,0,none⟩),.int .i64 no,.int .i64 leaf] rfl rfl (by omega) (vJ w5 80 [.pointer (some ⟨gC,0,none⟩),.int .i64 no,.int .i64 leaf]) (by intro u hu;simp only[Ja,JM,or_false]at hu;rcases hu with rfl|rfl|rfl<;>rfl) (by simp only[maxLen];omega) (by omega) (by rw[QQ];omega) ?_
        intro v7 w7 hown7 hg7 hbb7;obtain⟨A7,c7,rfl,-⟩:=qX hown7;have c32d:=(HB6.1.blk.grown hg7.by_ (fun e=>HB6.1.row_ne (by dsimp only;rw[HV.1];exact e.symm))).cell 32 (BX.c32 HB6.1.glen);dsimp only at c32d;rw[HV.1]at c32d;have f32:=(HB6.1.blk.grown hg7.by_ (fun e=>HB6.1.row_ne (by dsimp only;rw[HV.1];exact e.symm))).frozen 32;have hS7:w7.rangeAt (w.heap.size+1) 0 Z∧w7.cell? ⟨gB,32,none⟩=some (.slice A m c):=by
         refine⟨?_,c32d⟩;have h:=((HA4.1.below HBel5.1 HA4.1.lt).alloc (.cells #[.pointer (some ⟨gC,0,none⟩),.int .i64 no,.int .i64 leaf] 80)).grown hg7.by_ (fun e=>by
          obtain⟨-,-,cs,h3⟩:=kW hrow6 e.symm;have h5:=(HA4.1.below HBel5.1 HA4.1.lt).alloc (.cells #[.pointer (some ⟨gC,0,none⟩),.int .i64 no,.int .i64 leaf] 80);unfold Arr at h5;rw[h5]at h3;injection h3 with h3;injection h3 with _ hT _;exact absurd hT (by decide))
         have h:=h.whole;rw[←HZ.1]at h;exact h
        have Hrow7:=qe hown7;have Hg7:=qe hg7;clear hown7 hg7 hbb7 hrow6 hS hS6;refine hK _ _ (fun _=>hS7) ?_;clear hK K';try simp only[QJ,qj,qz,qv]
        have hS:=hS7;refine puB 13 (.pointer (some ⟨gB,0,none⟩)) hS ?_;refine puB 14 (.pointer (some ⟨gB,32,none⟩)) hS ?_;try simp only[QJ,qj,qz,qv]
        refine onY 15 (fun K' hK=>?_);go_simp;refine hK _ _ (fun h=>absurd rfl h) (jq (by kernel_rfl) ?_ _);clear hK K';have hlf:((leaf.toNat:Nat):Int)=leaf:=by omega
        have hsd':jB leaves=true:=HSd.1;have hln:zS leaves=leaves.toNat:=by unfold zS;rw[if_pos hsd']
        have hxl:=HXl.1;have hlx:leaf.toNat<xs.length:=by rw[hxl,hln];omega
        have hcx:=(HCx.1.at_ hlx).below ((QK _ w5).alloc (QI _) (.cells #[.pointer (some ⟨gC,0,none⟩),.int .i64 no,.int .i64 leaf] 80));obtain⟨e,he⟩:∃e:EP,e=⟨gC,gl,xs,no,leaf.toNat⟩:=⟨_,rfl⟩;have hec:e.cells=[.pointer (some ⟨gC,0,none⟩),.int .i64 no,.int .i64 leaf]:=by rw[he];unfold EP.cells;rw[hlf]
        have hem:e.m=⟨no,leaf.toNat,vY leaves.toNat s⟩:=by
         rw[he];unfold EP.m
         congr 1
         refine List.ext_getElem (by rw[QN,hxl,hln];unfold vY;simp) (fun i h1 h2=>?_);rw[List.getElem_map,HXe.1 i (by rw[QN]at h1;exact h1),hln];simp[vY]
        obtain⟨hP1,hP2,hP3⟩:=HB6.1.pushed (w6:=w7) (by show b.es.length≤4;exact h4) e w4.heap.size (by rw[he];exact hcx) (fun k hk=>by
         rw[he]at hk;simp only[EP.foot,zC,Ja,QS]at hk;rcases hk with rfl|rfl|hk|hk
         ·exact HgC.1
         ·exact Hgl5.1
         ·obtain⟨x,hx,rfl⟩:=QW.1 hk
          exact HXg.1 x hx
         ·obtain⟨x,hx,hk⟩:=Jk.1 hk
          rw[HXh.1 x hx]at hk;cases hk) (fun k hk=>(HB4.1.foot_lt k hk).2) (by rw[QQ];omega)
         (by rw[he];exact⟨hlx,by show xs.length≤32;rw[hxl];exact hl32,by show 0≤no;omega,by show no≤4294967295;omega⟩)
         (fun x hx=>by rw[he];exact HLast.1 x hx) (v':=(.slice A7 (m+1) c7)) (by show w7.ownsRow base _ 3 (.slice A7 (m+1) c7) (b.es.length+1) (b.es.flatMap EP.cells++e.cells);rw[hec,←HMl.1];exact Hrow7.1) (by show kU _ w7 b.v (.slice A7 (m+1) c7);rw[HV.1];exact Hg7.1)
        dsimp only at hP1 hP2 hP3;obtain⟨w8,hw8⟩:∃w8,w8=w7.setCell ⟨gB,32,none⟩ (.slice A7 (m+1) c7):=⟨_,rfl⟩;rw[←hw8]at hP1 hP2;have HB8:=qe hP1;have HF8:=qe (show Frm w w8 (BX.foot gB b)from
         let f6:=(HF4.1.below HBel5.1 (QI _)).below ((QK _ w5).alloc (QI _) (.cells #[.pointer (some ⟨gC,0,none⟩),.int .i64 no,.int .i64 leaf] 80)) (QI _)
         ⟨hP2.os.trans f6.os,hP2.tape.trans f6.tape,hP2.output.trans f6.output,QX f6.size hP2.size,fun k hk hn=>(hP2.block k (Jq hk f6.size) hn).trans (f6.block k hk hn)⟩)
        have hzz:w.heap.size≤w4.heap.size:=by omega
        have HFt:=qe (show∀k∈BX.foot gB ⟨grp,(.slice A7 (m+1) c7),b.es++ [e],b.clr⟩,k∈BX.foot gB b∨w.heap.size≤k from fun k hk=>(hP3 k hk).imp (fun h=>h) (fun h=>QX hzz h));have c328:=HB8.1.cell32;dsimp only at c328;have f328:=HB8.1.blk.frozen 32;have HHm:=qe (show vO b.m grp no leaves leaf s=⟨grp,yr b.m.es ⟨no,leaf.toNat,vY leaves.toNat s⟩,false⟩ by unfold vO;rw[if_pos HE.1])
        have HEm:=qe hem;have HCl:=qe hclr;have hmm:b.m.es.length=m:=by rw[HMl.1];unfold BX.m;simp
        have HMm:=qe hmm;rw[←hw8];clear hw8 hP1 hP2 hP3 hec hem hcx hxl hlx hln hmm hS7 c32d f32 HCx HXl HXe HXh HXg HgC Hgl5 HBel5 Hrow7 Hg7 HB6 HB5 HB4 HF4 HA4 HT4 hrt hclr hbu hi32 hu hcz;by_cases hm5:m=4
        ·subst hm5
         have hl5:(b.es++ [e]).length=5:=by rw[QO,←HMl.1];rfl
         obtain⟨g,c9,hv9,-⟩:=HB8.1.v_some (by dsimp only;omega);dsimp only at hv9;injection hv9 with e1 e2 e3;subst e1;have HL5:=qe hl5;have HD:=qe (qd7 (w:=w8) (base:=base) (g:=g) (c:=c7) (us:=(b.es++ [e]).flatMap EP.cells) (by have h:=HB8.1.row;dsimp only at h;rw[hl5]at h;exact h) (fun u hu=>by
          obtain⟨x,-,hx⟩:=Jk.1 hu;exact x.cells_one u hx))
         clear e2 e3 hl5;go_wp2_with (go_at_call 30;refine HD.1.mono ?_;rintro e9 w9 ⟨rfl,hr9,hg9⟩;have HR9:=qe hr9;have HG9:=qe hg9;have c329:=(HB8.1.blk.grown hg9 (fun e2=>HB8.1.row_ne e2.symm)).cell 32 (BX.c32 HB8.1.glen);have f329:=(HB8.1.blk.grown hg9 (fun e2=>HB8.1.row_ne e2.symm)).frozen 32;clear hr9 hg9)
         go_ret;obtain⟨hD1,hD2,hD3⟩:=HB8.1.deleted (g:=g) (c:=c7) rfl HL5.1 HR9.1 HG9.1;refine⟨rfl,_,?_,hD1,?_,fun k hk=>HFt.1 k (hD3 k hk)⟩
         ·rw[HHm.1]
          unfold yr;rw[if_pos (by rw[HMm.1];omega)];show(⟨grp,(b.es++ [e]).tail.map EP.m,b.clr⟩:BM)=⟨grp,(b.es.map EP.m++ [_]).tail,false⟩;rw[List.map_tail,Q9,List.map_singleton,HEm.1,HCl.1]
         ·have f8:=HF8.1
          refine⟨hD2.os.trans f8.os,hD2.tape.trans f8.tape,hD2.output.trans f8.output,QX f8.size hD2.size,fun k hk hn=>(hD2.block k (Jq hk f8.size) (fun hm=>?_)).trans (f8.block k hk hn)⟩;rcases HFt.1 k hm with h|h
          ·exact hn h
          ·omega
        ·have hgt:((m:Int)+1>4)=False:=by simp;omega
         go_wp2_with fail
         go_ret;refine⟨rfl,_,?_,HB8.1,HF8.1,HFt.1⟩;rw[HHm.1];unfold yr;rw[if_neg (by rw[HMm.1];omega)];show(⟨grp,(b.es++ [e]).map EP.m,b.clr⟩:BM)=⟨grp,b.es.map EP.m++ [_],false⟩;rw[Q9,List.map_singleton,HEm.1,HCl.1]
       ·obtain⟨n,hn⟩:∃n,b.es.length=n+1:=⟨b.es.length-1,by omega⟩
        obtain⟨g,c,hv,hbg,hgl',hcc⟩:=HB2.1.v_some he;obtain⟨c0,c1,c2⟩:=HB2.1.at_row hv (i:=n) (by omega);have c32:=HB2.1.cell32;rw[hv]at c32;have hlno:=qhK hn;have hne0:b.es≠ []:=fun e=>by rw[e]at he;simp at he
        obtain⟨q1,hq1⟩:∃q1,q1=!(grp==b.grp):=⟨_,rfl⟩;obtain⟨last,hlast0⟩:∃last,last=(b.es[n]'(by omega)).no:=⟨_,rfl⟩;rw[←hlast0]at c1 hlno;have hgr2:b.m.grp=b.grp:=rfl;rw[hlno,hgr2]at hE0;have hneq:∀w,(binOp .neq 23 (.agg (grp.map b8).toArray) (.agg (b.grp.map b8).toArray)).run prog w= .ok (.bool q1) w:=fun w=>by
         rw[hq1];exact kz w 23 5 32 underlying23 underlying5 (fun _=>by kernel_rfl) _ _ HGl.1 HB2.1.glen
        obtain⟨m0,hm0⟩:∃m0,m0=b.es.length:=⟨_,rfl⟩;rw[←hm0]at c32;have hsi:(m0:Int)-1=(n:Int):=by omega
        have hi1:(0:Int)≤(n:Int):=by omega
        have hi2:(n:Int)<(m0:Int):=by omega
        have hi3:n<m0:=by omega
        have hi4:0<m0:=by omega
        have hiw:IntKind.i64.wrap (n:Int)=(n:Int):=IntWalk.i64_in _ (by omega);have hr1:w2.drew.rangeAt w.heap.size 0 (grp.map b8):=HA1.1.whole;have hr2:w2.drew.rangeAt gB 0 (b.grp.map b8):=by
         have h:=(HB2.1.blk).range 0 32;rwa[J0,show b.cells.take 32=b.grp.map b8 by unfold BX.cells;rw[Zc (by rw[QN,HB2.1.glen])]]at h
        have hi32:(prog.info? 23).map (·.size)=some (grp.map b8).length:=by rw[QN,HGl.1];exact jy
        have hi33:(prog.info? 23).map (·.size)=some (b.grp.map b8).length:=by rw[QN,HB2.1.glen];exact jy
        have hu:=underlying23;have HT2:=qe (hT.below HK2.1);have HE0:=qe hE0;have HEe:=qe hE;have HLr:=qe (show∀x∈b.es,x.no≤last from fun x hx=>by
         obtain⟨j,hj,rfl⟩:=List.getElem_of_mem hx;have hri:=(List.pairwise_iff_getElem.1 HB2.1.rise);rcases Nat.lt_or_ge j n with h5|h5
         ·have:=hri j n hj (by omega) h5
          rw[hlast0];omega
         ·have:j=n:=by omega
          subst this;rw[hlast0];exact Int.le_refl _)
        have HN:=qe hn;have HQ1:=qe hq1;have HNe:=qe hne0;have hS:w2.drew.rangeAt w.heap.size 0 (grp.map b8)∧w2.drew.rangeAt gB 0 (b.grp.map b8)∧w2.drew.cell? ⟨gB,32,none⟩=some (.slice (some ⟨g,0,none⟩) m0 c)∧w2.drew.cell? ⟨g,n*3+1,none⟩=some (.int .i64 last):=⟨hr1,hr2,c32,c1⟩;clear hE hE0 hsd he hv hT hbnd hm0 hn hlast0 hlno hq1 hne0 hgr2 c0 c1 c2 hbg hgl' hcc hr1 hr2;cases q1 with
        |true=>
         have hgn:grp≠b.grp:=fun e=>by have h5:=HQ1.1;rw[e]at h5;simp at h5
         have HE1:=qe HE0.1;have hE6:E=6:=by have h5:=HE0.1;rw[if_pos ⟨by rw[Ne,qa6];exact HNe.1,.inl hgn⟩]at h5;exact h5
         subst hE6;have HE:=qe HEe.1.symm;clear hgn;go_enter func10,ntmps10
         go_upto_region 1 with fail
         rw[←HW2.1];go_wp2_with fail
         refine HR.1.mono ?_;rintro e w3 ⟨rfl,rfl⟩;rw[hrt];go_upto_region 8 with fail
         refine wp_region_noPanic ?_;refine wp_region_held_drew (S:=fun w'=>w'.rangeAt w.heap.size 0 (grp.map b8)∧w'.rangeAt gB 0 (b.grp.map b8)∧w'.cell? ⟨gB,32,none⟩=some (.slice (some ⟨g,0,none⟩) m0 c)∧w'.cell? ⟨g,n*3+1,none⟩=some (.int .i64 last)) (by kernel_rfl) hS (fun hS=>?_);refine tkA 0 (.int .i64 (m0:Int)) hS ?_;refine tkA 1 (.bool true) hS ?_;refine tkA 2 (.bool true) hS ?_;try simp only[QJ,qj,qz,qv]
         refine tkK 3 (.agg (grp.map b8).toArray) rfl rfl (yieldsIf_load_mid (by rfl) 23 (.tmp 7) rfl w.heap.size 0 rfl (grp.map b8) _ (fun _ h=>h.1) hu rfl hi32) hS ?_;refine tkA 4 (.pointer (some ⟨gB,0,none⟩)) hS ?_;refine tkA 5 (.pointer (some ⟨gB,0,none⟩)) hS ?_;try simp only[QJ,qj,qz,qv]
         refine tkA 6 (.pointer (some ⟨gB,0,none⟩)) hS ?_;refine tkK 7 (.agg (b.grp.map b8).toArray) rfl rfl (yieldsIf_load_mid (by rfl) 23 (.tmp 57) rfl gB 0 rfl (b.grp.map b8) _ (fun _ h=>h.2.1) hu rfl hi33) hS ?_;refine tkA 8 (.bool true) hS ?_;try simp only[QJ,qj,qz,qv]
         refine tkA 9 (.bool true) hS ?_;refine tkK 10 undef rfl rfl (Or.inr ⟨by rfl,rfl⟩) hS ?_;refine tkK 11 undef rfl rfl (Or.inr ⟨by rfl,rfl⟩) hS ?_;try simp only[QJ,qj,qz,qv]
         refine tkK 12 undef rfl rfl (Or.inr ⟨by rfl,rfl⟩) hS ?_;refine tkK 13 undef rfl rfl (Or.inr ⟨by rfl,rfl⟩) hS ?_;refine tkK 14 undef rfl rfl (Or.inr ⟨by rfl,rfl⟩) hS ?_;try simp only[QJ,qj,qz,qv]
         refine tkK 15 undef rfl rfl (Or.inr ⟨by rfl,rfl⟩) hS ?_;refine tkK 16 undef rfl rfl (Or.inr ⟨by rfl,rfl⟩) hS ?_;refine tkK 17 undef rfl rfl (Or.inr ⟨by rfl,rfl⟩) hS ?_;try simp only[QJ,qj,qz,qv]
         refine tkK 18 undef rfl rfl (Or.inr ⟨by rfl,rfl⟩) hS ?_;refine tkK 19 undef rfl rfl (Or.inr ⟨by rfl,rfl⟩) hS ?_;refine tkK 20 undef rfl rfl (Or.inr ⟨by rfl,rfl⟩) hS ?_;try simp only[QJ,qj,qz,qv]
         refine tkA 21 (.bool true) hS ?_;refine tkA 22 (.bool true) hS ?_;try simp only[QJ,qj,qz,qv]
         refine wpAnyH_done (by kernel_rfl) ?_ _;refine NoPanic.normal ?_;go_wp2_with fail
         go_ret;exact⟨rfl,b,(jx (by rw[HE.1];decide)).symm,HB2.1.drew,(Frm.refl w _).below HK2.1.drew (QI _),fun k hk=> .inl hk⟩
        |false=>
         have hge:grp=b.grp:=by have h5:=HQ1.1;simpa using h5
         by_cases hle:no≤last
         ·have hE6:E=6:=by have h5:=HE0.1;rw[if_pos ⟨by rw[Ne,qa6];exact HNe.1,.inr hle⟩]at h5;exact h5
          subst hE6;have HE:=qe HEe.1.symm;have HGe:=qe hge;clear hge;go_enter func10,ntmps10
          go_upto_region 1 with fail
          rw[←HW2.1];go_wp2_with fail
          refine HR.1.mono ?_;rintro e w3 ⟨rfl,rfl⟩;rw[hrt];go_upto_region 8 with fail
          refine wp_region_noPanic ?_;refine wp_region_held_drew (S:=fun w'=>w'.rangeAt w.heap.size 0 (grp.map b8)∧w'.rangeAt gB 0 (b.grp.map b8)∧w'.cell? ⟨gB,32,none⟩=some (.slice (some ⟨g,0,none⟩) m0 c)∧w'.cell? ⟨g,n*3+1,none⟩=some (.int .i64 last)) (by kernel_rfl) hS (fun hS=>?_);refine tkA 0 (.int .i64 (m0:Int)) hS ?_;refine tkA 1 (.bool true) hS ?_;refine tkA 2 (.bool true) hS ?_;try simp only[QJ,qj,qz,qv]
          refine tkK 3 (.agg (grp.map b8).toArray) rfl rfl (yieldsIf_load_mid (by rfl) 23 (.tmp 7) rfl w.heap.size 0 rfl (grp.map b8) _ (fun _ h=>h.1) hu rfl hi32) hS ?_;refine tkA 4 (.pointer (some ⟨gB,0,none⟩)) hS ?_;refine tkA 5 (.pointer (some ⟨gB,0,none⟩)) hS ?_;try simp only[QJ,qj,qz,qv]
          refine tkA 6 (.pointer (some ⟨gB,0,none⟩)) hS ?_;refine tkK 7 (.agg (b.grp.map b8).toArray) rfl rfl (yieldsIf_load_mid (by rfl) 23 (.tmp 57) rfl gB 0 rfl (b.grp.map b8) _ (fun _ h=>h.2.1) hu rfl hi33) hS ?_;refine tkA 8 (.bool false) hS ?_;try simp only[QJ,qj,qz,qv]
          refine tkA 9 (.bool false) hS ?_;refine tkA 10 (.int .i64 no) hS ?_;refine tkA 11 (.pointer (some ⟨gB,0,none⟩)) hS ?_;try simp only[QJ,qj,qz,qv]
          refine tkA 12 (.pointer (some ⟨gB,0,none⟩)) hS ?_;refine tkA 13 (.pointer (some ⟨gB,32,none⟩)) hS ?_;refine tkA 14 (.slice (some ⟨g,0,none⟩) m0 c) hS ?_;try simp only[QJ,qj,qz,qv]
          refine tkA 15 (.int .i64 (m0:Int)) hS ?_;refine tkA 16 (.int .i64 (n:Int)) hS ?_;refine tkA 17 (.pointer (some ⟨g,n*3,none⟩)) hS ?_;try simp only[QJ,qj,qz,qv]
          refine tkA 18 (.pointer (some ⟨g,n*3+1,none⟩)) hS ?_;refine tkA 19 (.int .i64 last) hS ?_;refine tkA 20 (.bool true) hS ?_;try simp only[QJ,qj,qz,qv]
          refine tkA 21 (.bool true) hS ?_;refine tkA 22 (.bool true) hS ?_;try simp only[QJ,qj,qz,qv]
          refine wpAnyH_done (by kernel_rfl) ?_ _;refine NoPanic.normal ?_;go_wp2_with fail
          go_ret;exact⟨rfl,b,(jx (by rw[HE.1];decide)).symm,HB2.1.drew,(Frm.refl w _).below HK2.1.drew (QI _),fun k hk=> .inl hk⟩
         ·have hE6:E=0:=by have h5:=HE0.1;rw[if_neg (by rintro⟨-,h6|h6⟩;exact h6 hge;exact hle h6)]at h5;exact h5
          subst hE6;have HE:=qe HEe.1.symm;have HGe:=qe hge;have hlast:∀x∈b.es,x.no<no:=fun x hx=>by have:=HLr.1 x hx;omega
          have HLast:=qe hlast;clear hge hlast;go_enter func10,ntmps10
          go_upto_region 1 with fail
          rw[←HW2.1];go_wp2_with fail
          refine HR.1.mono ?_;rintro e w3 ⟨rfl,rfl⟩;rw[hrt];go_upto_region 8 with fail
          refine wp_region_noPanic ?_;refine wp_region_held_drew (S:=fun w'=>w'.rangeAt w.heap.size 0 (grp.map b8)∧w'.rangeAt gB 0 (b.grp.map b8)∧w'.cell? ⟨gB,32,none⟩=some (.slice (some ⟨g,0,none⟩) m0 c)∧w'.cell? ⟨g,n*3+1,none⟩=some (.int .i64 last)) (by kernel_rfl) hS (fun hS=>?_);refine tkA 0 (.int .i64 (m0:Int)) hS ?_;refine tkA 1 (.bool true) hS ?_;refine tkA 2 (.bool true) hS ?_;try simp only[QJ,qj,qz,qv]
          refine tkK 3 (.agg (grp.map b8).toArray) rfl rfl (yieldsIf_load_mid (by rfl) 23 (.tmp 7) rfl w.heap.size 0 rfl (grp.map b8) _ (fun _ h=>h.1) hu rfl hi32) hS ?_;refine tkA 4 (.pointer (some ⟨gB,0,none⟩)) hS ?_;refine tkA 5 (.pointer (some ⟨gB,0,none⟩)) hS ?_;try simp only[QJ,qj,qz,qv]
          refine tkA 6 (.pointer (some ⟨gB,0,none⟩)) hS ?_;refine tkK 7 (.agg (b.grp.map b8).toArray) rfl rfl (yieldsIf_load_mid (by rfl) 23 (.tmp 57) rfl gB 0 rfl (b.grp.map b8) _ (fun _ h=>h.2.1) hu rfl hi33) hS ?_;refine tkA 8 (.bool false) hS ?_;try simp only[QJ,qj,qz,qv]
          refine tkA 9 (.bool false) hS ?_;refine tkA 10 (.int .i64 no) hS ?_;refine tkA 11 (.pointer (some ⟨gB,0,none⟩)) hS ?_;try simp only[QJ,qj,qz,qv]
          refine tkA 12 (.pointer (some ⟨gB,0,none⟩)) hS ?_;refine tkA 13 (.pointer (some ⟨gB,32,none⟩)) hS ?_;refine tkA 14 (.slice (some ⟨g,0,none⟩) m0 c) hS ?_;try simp only[QJ,qj,qz,qv]
          refine tkA 15 (.int .i64 (m0:Int)) hS ?_;refine tkA 16 (.int .i64 (n:Int)) hS ?_;refine tkA 17 (.pointer (some ⟨g,n*3,none⟩)) hS ?_;try simp only[QJ,qj,qz,qv]
          refine tkA 18 (.pointer (some ⟨g,n*3+1,none⟩)) hS ?_;refine tkA 19 (.int .i64 last) hS ?_;refine tkA 20 (.bool false) hS ?_;try simp only[QJ,qj,qz,qv]
          refine tkA 21 (.bool false) hS ?_;refine tkA 22 (.bool false) hS ?_;try simp only[QJ,qj,qz,qv]
          refine wpAnyH_done (by kernel_rfl) ?_ _;refine NoPanic.normal ?_;clear hS hneq hi33 hi32 hu;have HB3:=qe (show qI (w2.drew) base gB b from HB2.1.of_same (fun k hk=>rfl));have HA13:=qe (show Arr b8 (w2.drew) w.heap.size 23 grp from HA1.1);have HA33:=qe (show Arr b8 (w2.drew) (w.heap.size+1) 23 s from HA3.1);have HK3:=qe (show Below w.heap.size w (w2.drew)from HK2.1.drew);have HT3:=qe (show Tab (w2.drew)from HT2.1)
          have hz3:(w2.drew).heap.size=w.heap.size+2:=hz2;generalize w2.drew=w3 at HB3 HA13 HA33 HK3 HT3 hz3 ⊢;clear HB2 HA1 HA3 HK2 HT2 HW2 c33 HR;go_upto_region 11 with(first
           |(refine qm rfl 23 (.tmp 7) rfl w.heap.size rfl _ grp HA13.1 _ underlying23 rfl (by rw[HGl.1];exact jy) ?_)
           |(refine qi rfl 23 (.tmp 78) (.tmp 76) rfl gB 0 rfl (grp.map b8) rfl 76 _ [] (b.grp.map b8) [b.v,.bool b.clr] HB3.1.blk rfl rfl (by rw[QN,QN,HGl.1,HB3.1.glen]) (by rw[QN,HGl.1];exact jy) (fun u hu=>by obtain⟨x,-,rfl⟩:=QW.1 hu;exact qH x) ?_;intro w4 hx4 hg4))
          have HB4:=qe (HB3.1.regroup grp HGl.1 hx4 hg4);have hz4:w3.heap.size≤w4.heap.size:=hg4.size;have HF4:=qe ((Frm.refl w (BX.foot gB b)).below HK3.1 (QI _)|>.grown hg4 (by simp[BX.foot]));have HA4:=qe (show Arr b8 w4 (w.heap.size+1) 23 s from HA33.1.grown hg4 (fun e=>by injection e with e;have:=HH.1.gB_lt;omega));have hgBb:base≤gB:=HH.1.low.1;have HT4:=qe (show Tab w4 from HT3.1.grown hg4 (by omega))
          have c32:=HB4.1.cell32;dsimp only at c32;obtain⟨m,hm⟩:∃m,m=b.es.length:=⟨_,rfl⟩;obtain⟨A,c,hv,-⟩:=qX HB4.1.row;have hv:b.v= .slice A m c:=by rw[hm];exact hv
          rw[hv]at c32;have HMl:=qe hm;have HV:=qe hv;clear hm hv;have hcz:(s.map b8).length=32:=by rw[QN,HSl.1]
          have hr32:=HA4.1.whole;obtain⟨Z,hZ⟩:∃Z,Z=s.map b8:=⟨_,rfl⟩;rw[←hZ]at hcz hr32;have HZ:=qe hZ;have hu:=underlying23;have hi32:(prog.info? 23).map (·.size)=some Z.length:=by rw[hcz];exact jy
          have HN:=qe (show Calls prog 29 #[.agg Z.toArray,.int .i64 leaves] w4.drew fun e w'=>∃gC gl xs,e= .returned (.pointer (some ⟨gC,0,none⟩))∧ChX w' gC gl xs∧xs.length=zS leaves∧(∀(i:Nat) (h:i<xs.length),xs[i].l=ju (vr (zS leaves) i s))∧(∀x∈xs,LP.hp x=[])∧
           (∀x∈xs,w4.drew.heap.size≤LP.gm x)∧w4.drew.heap.size≤gC∧gC<w'.heap.size∧w4.drew.heap.size≤gl∧gl<w'.heap.size∧zS leaves≤32∧Below w4.drew.heap.size w4.drew w' by
           have h:=qjG w4.drew (show Tab w4.drew from HT4.1) s HSl.1 leaves l0 l1;rw[qn,←hZ]at h;exact h)
          have hbu:∀gC:Nat,prog.built 80 [(0,.pointer (some ⟨gC,0,none⟩)),(1,.int .i64 no),(2,.int .i64 leaf)]=some #[.pointer (some ⟨gC,0,none⟩),.int .i64 no,.int .i64 leaf]:=fun _=>by kernel_rfl
          obtain⟨i0,hi0,hz0,hs0,hb0⟩:=info_parts qcF;clear hx4 hg4 hZ;have hS:w4.drew.rangeAt (w.heap.size+1) 0 Z∧w4.drew.cell? ⟨gB,32,none⟩=some (.slice A m c):=⟨hr32,c32⟩;refine jr (by kernel_rfl) (fun w'=>w'.rangeAt (w.heap.size+1) 0 Z∧w'.cell? ⟨gB,32,none⟩=some (.slice A m c)) 15 ?_;refine puB 0 (.pointer (some ⟨gB,0,none⟩)) hS ?_;refine puB 1 (.pointer (some ⟨gB,0,none⟩)) hS ?_
          refine puB 2 (.pointer (some ⟨gB,0,none⟩)) hS ?_;try simp only[QJ,qj,qz,qv]
          refine puB 3 (.pointer (some ⟨gB,32,none⟩)) hS ?_;refine tkY 4 (.slice A m c) ?_ hS ?_
          ·intro w' hw'
           obtain⟨-,s1⟩:=hw';go_simp
          refine tkL 5 (.agg Z.toArray) rfl rfl (yieldsIf_load_mid (by rfl) 23 (.tmp 9) rfl (w.heap.size+1) 0 rfl Z _ (fun _ h=>h.1) hu rfl hi32) hS ?_;try simp only[QJ,qj,qz,qv]
          refine puB 6 (.int .i64 leaves) hS ?_;refine puB 8 (.int .i64 no) hS ?_;refine puB 9 (.int .i64 leaf) hS ?_;try simp only[QJ,qj,qz,qv]
          refine onY 7 (fun K' hK=>?_);go_simp;go_at_call 29;refine HN.1.mono ?_;rintro e w5 ⟨gC,gl,xs,rfl,hcx,hxl,hxe,hxh,hxg,hgC,hgCl,hgl5,hgll,hl32,hb5⟩;have hB5:Below w4.heap.size w4 w5:=(QK w4.heap.size w4).drew.trans hb5;have HB5:=qe (HB4.1.below hB5);have hz5:=hB5.size;have hS5:w5.rangeAt (w.heap.size+1) 0 Z∧w5.cell? ⟨gB,32,none⟩=some (.slice A m c):=by
           refine⟨?_,?_⟩
           ·have h:=(HA4.1.below hB5 HA4.1.lt).whole
            rw[←HZ.1]at h;exact h
           ·have h:=HB5.1.cell32
            dsimp only at h;rw[←HV.1];exact h
          have HCx:=qe hcx;have HXl:=qe hxl;have HXe:=qe hxe;have HXh:=qe hxh;have HXg:=qe (show∀x∈xs,w4.heap.size≤LP.gm x from hxg);have HgC:=qe (show w4.heap.size≤gC from hgC);have Hgl5:=qe (show w4.heap.size≤gl from hgl5);have HBel5:=qe hB5;clear hcx hxl hxe hxh hxg hgC hgl5 hb5 hS hr32 c32 HN hB5;refine hK _ _ (fun _=>hS5) ?_;clear hK K';try simp only[QJ,qj,qz,qv]
          have hS:=hS5;clear hS5;refine puY 10 (.agg #[.pointer (some ⟨gC,0,none⟩),.int .i64 no,.int .i64 leaf]) ?_ hS ?_
          ·intro w' hw'
           have hbg:=hbu gC;go_simp
          try simp only[QJ,qj,qz,qv]
          refine onY 11 (fun K' hK=>?_);refine jP rfl 74 80 (.tmp 89) rfl i0 (.agg kj.toArray) 3 #[.pointer (some ⟨gC,0,none⟩),.int .i64 no,.int .i64 leaf] rfl rfl (by omega) (by omega) underlying74 hi0 hz0 hs0 rfl ?_;have hS6:(w5.alloc (.cells #[.pointer (some ⟨gC,0,none⟩),.int .i64 no,.int .i64 leaf] 80)).rangeAt (w.heap.size+1) 0 Z∧(w5.alloc (.cells #[.pointer (some ⟨gC,0,none⟩),.int .i64 no,.int .i64 leaf] 80)).cell? ⟨gB,32,none⟩=some (.slice A m c):=by
           refine⟨?_,?_⟩
           ·have h:=((HA4.1.below HBel5.1 HA4.1.lt).alloc (.cells #[.pointer (some ⟨gC,0,none⟩),.int .i64 no,.int .i64 leaf] 80)).whole
            rw[←HZ.1]at h;exact h
           ·have h:=(HB5.1.alloc (.cells #[.pointer (some ⟨gC,0,none⟩),.int .i64 no,.int .i64 leaf] 80)).cell32
            dsimp only at h;rw[←HV.1];exact h
          refine hK _ _ (fun _=>hS6) ?_;clear hK K';try simp only[QJ,qj,qz,qv]
          refine onY 12 (fun K' hK=>?_);have HB6:=qe (HB5.1.alloc (.cells #[.pointer (some ⟨gC,0,none⟩),.int .i64 no,.int .i64 leaf] 80));have hrow6:=HB6.1.row;dsimp only at hrow6;rw[←HMl.1,HV.1]at hrow6;have hbl:base≤w5.heap.size:=by have:=HB5.1.gB_lt;omega
          have hm4:m≤4:=by rw[HMl.1];exact h4
          refine jH rfl (.tmp 83) (.tmp 90) 74 rfl 3 (by omega) base 80 i0 (.agg kj.toArray) 24 underlying74 hi0 hz0 hs0 hb0 rfl _ m _ rfl hrow6 (w5.heap.size+1) (some ⟨w5.heap.size,0,none⟩) 1 1 [.pointer (some ⟨gC,0,none⟩),.int .i64 no,.int .i64 leaf] rfl rfl (by omega) (vJ w5 80 [.pointer (some ⟨gC,0,none⟩),.int .i64 no,.int .i64 leaf]) (by intro u hu;simp only[Ja,JM,or_false]at hu;rcases hu with rfl|rfl|rfl<;>rfl) (by simp only[maxLen];omega) (by omega) (by rw[QQ];omega) ?_
          intro v7 w7 hown7 hg7 hbb7;obtain⟨A7,c7,rfl,-⟩:=qX hown7;have c32d:=(HB6.1.blk.grown hg7.by_ (fun e=>HB6.1.row_ne (by dsimp only;rw[HV.1];exact e.symm))).cell 32 (BX.c32 HB6.1.glen);dsimp only at c32d;rw[HV.1]at c32d;have f32:=(HB6.1.blk.grown hg7.by_ (fun e=>HB6.1.row_ne (by dsimp only;rw[HV.1];exact e.symm))).frozen 32;have hS7:w7.rangeAt (w.heap.size+1) 0 Z∧w7.cell? ⟨gB,32,none⟩=some (.slice A m c):=by
           refine⟨?_,c32d⟩;have h:=((HA4.1.below HBel5.1 HA4.1.lt).alloc (.cells #[.pointer (some ⟨gC,0,none⟩),.int .i64 no,.int .i64 leaf] 80)).grown hg7.by_ (fun e=>by
            obtain⟨-,-,cs,h3⟩:=kW hrow6 e.symm;have h5:=(HA4.1.below HBel5.1 HA4.1.lt).alloc (.cells #[.pointer (some ⟨gC,0,none⟩),.int .i64 no,.int .i64 leaf] 80);unfold Arr at h5;rw[h5]at h3;injection h3 with h3;injection h3 with _ hT _;exact absurd hT (by decide))
           have h:=h.whole;rw[←HZ.1]at h;exact h
          have Hrow7:=qe hown7;have Hg7:=qe hg7;clear hown7 hg7 hbb7 hrow6 hS hS6;refine hK _ _ (fun _=>hS7) ?_;clear hK K';try simp only[QJ,qj,qz,qv]
          have hS:=hS7;refine puB 13 (.pointer (some ⟨gB,0,none⟩)) hS ?_;refine puB 14 (.pointer (some ⟨gB,32,none⟩)) hS ?_;try simp only[QJ,qj,qz,qv]
          refine onY 15 (fun K' hK=>?_);go_simp;refine hK _ _ (fun h=>absurd rfl h) (jq (by kernel_rfl) ?_ _);clear hK K';have hlf:((leaf.toNat:Nat):Int)=leaf:=by omega
          have hsd':jB leaves=true:=HSd.1;have hln:zS leaves=leaves.toNat:=by unfold zS;rw[if_pos hsd']
          have hxl:=HXl.1;have hlx:leaf.toNat<xs.length:=by rw[hxl,hln];omega
          have hcx:=(HCx.1.at_ hlx).below ((QK _ w5).alloc (QI _) (.cells #[.pointer (some ⟨gC,0,none⟩),.int .i64 no,.int .i64 leaf] 80));obtain⟨e,he⟩:∃e:EP,e=⟨gC,gl,xs,no,leaf.toNat⟩:=⟨_,rfl⟩;have hec:e.cells=[.pointer (some ⟨gC,0,none⟩),.int .i64 no,.int .i64 leaf]:=by rw[he];unfold EP.cells;rw[hlf]
          have hem:e.m=⟨no,leaf.toNat,vY leaves.toNat s⟩:=by
           rw[he];unfold EP.m
           congr 1
           refine List.ext_getElem (by rw[QN,hxl,hln];unfold vY;simp) (fun i h1 h2=>?_);rw[List.getElem_map,HXe.1 i (by rw[QN]at h1;exact h1),hln];simp[vY]
          obtain⟨hP1,hP2,hP3⟩:=HB6.1.pushed (w6:=w7) (by show b.es.length≤4;exact h4) e w4.heap.size (by rw[he];exact hcx) (fun k hk=>by
           rw[he]at hk;simp only[EP.foot,zC,Ja,QS]at hk;rcases hk with rfl|rfl|hk|hk
           ·exact HgC.1
           ·exact Hgl5.1
           ·obtain⟨x,hx,rfl⟩:=QW.1 hk
            exact HXg.1 x hx
           ·obtain⟨x,hx,hk⟩:=Jk.1 hk
            rw[HXh.1 x hx]at hk;cases hk) (fun k hk=>(HB4.1.foot_lt k hk).2) (by rw[QQ];omega)
           (by rw[he];exact⟨hlx,by show xs.length≤32;rw[hxl];exact hl32,by show 0≤no;omega,by show no≤4294967295;omega⟩)
           (fun x hx=>by rw[he];exact HLast.1 x hx) (v':=(.slice A7 (m+1) c7)) (by show w7.ownsRow base _ 3 (.slice A7 (m+1) c7) (b.es.length+1) (b.es.flatMap EP.cells++e.cells);rw[hec,←HMl.1];exact Hrow7.1) (by show kU _ w7 b.v (.slice A7 (m+1) c7);rw[HV.1];exact Hg7.1)
          dsimp only at hP1 hP2 hP3;obtain⟨w8,hw8⟩:∃w8,w8=w7.setCell ⟨gB,32,none⟩ (.slice A7 (m+1) c7):=⟨_,rfl⟩;rw[←hw8]at hP1 hP2;have HB8:=qe hP1;have HF8:=qe (show Frm w w8 (BX.foot gB b)from
           let f6:=(HF4.1.below HBel5.1 (QI _)).below ((QK _ w5).alloc (QI _) (.cells #[.pointer (some ⟨gC,0,none⟩),.int .i64 no,.int .i64 leaf] 80)) (QI _)
           ⟨hP2.os.trans f6.os,hP2.tape.trans f6.tape,hP2.output.trans f6.output,QX f6.size hP2.size,fun k hk hn=>(hP2.block k (Jq hk f6.size) hn).trans (f6.block k hk hn)⟩)
          have hzz:w.heap.size≤w4.heap.size:=by omega
          have HFt:=qe (show∀k∈BX.foot gB ⟨grp,(.slice A7 (m+1) c7),b.es++ [e],b.clr⟩,k∈BX.foot gB b∨w.heap.size≤k from fun k hk=>(hP3 k hk).imp (fun h=>h) (fun h=>QX hzz h));have c328:=HB8.1.cell32;dsimp only at c328;have f328:=HB8.1.blk.frozen 32;have HHm:=qe (show vO b.m grp no leaves leaf s=⟨grp,yr b.m.es ⟨no,leaf.toNat,vY leaves.toNat s⟩,false⟩ by unfold vO;rw[if_pos HE.1])
          have HEm:=qe hem;have HCl:=qe hclr;have hmm:b.m.es.length=m:=by rw[HMl.1];unfold BX.m;simp
          have HMm:=qe hmm;rw[←hw8];clear hw8 hP1 hP2 hP3 hec hem hcx hxl hlx hln hmm hS7 c32d f32 HCx HXl HXe HXh HXg HgC Hgl5 HBel5 Hrow7 Hg7 HB6 HB5 HB4 HF4 HA4 HT4 hrt hclr hbu hi32 hu hcz;by_cases hm5:m=4
          ·subst hm5
           have hl5:(b.es++ [e]).length=5:=by rw[QO,←HMl.1];rfl
           obtain⟨g,c9,hv9,-⟩:=HB8.1.v_some (by dsimp only;omega);dsimp only at hv9;injection hv9 with e1 e2 e3;subst e1;have HL5:=qe hl5;have HD:=qe (qd7 (w:=w8) (base:=base) (g:=g) (c:=c7) (us:=(b.es++ [e]).flatMap EP.cells) (by have h:=HB8.1.row;dsimp only at h;rw[hl5]at h;exact h) (fun u hu=>by
            obtain⟨x,-,hx⟩:=Jk.1 hu;exact x.cells_one u hx))
           clear e2 e3 hl5;go_wp2_with (go_at_call 30;refine HD.1.mono ?_;rintro e9 w9 ⟨rfl,hr9,hg9⟩;have HR9:=qe hr9;have HG9:=qe hg9;have c329:=(HB8.1.blk.grown hg9 (fun e2=>HB8.1.row_ne e2.symm)).cell 32 (BX.c32 HB8.1.glen);have f329:=(HB8.1.blk.grown hg9 (fun e2=>HB8.1.row_ne e2.symm)).frozen 32;clear hr9 hg9)
           go_ret;obtain⟨hD1,hD2,hD3⟩:=HB8.1.deleted (g:=g) (c:=c7) rfl HL5.1 HR9.1 HG9.1;refine⟨rfl,_,?_,hD1,?_,fun k hk=>HFt.1 k (hD3 k hk)⟩
           ·rw[HHm.1]
            unfold yr;rw[if_pos (by rw[HMm.1];omega)];show(⟨grp,(b.es++ [e]).tail.map EP.m,b.clr⟩:BM)=⟨grp,(b.es.map EP.m++ [_]).tail,false⟩;rw[List.map_tail,Q9,List.map_singleton,HEm.1,HCl.1]
           ·have f8:=HF8.1
            refine⟨hD2.os.trans f8.os,hD2.tape.trans f8.tape,hD2.output.trans f8.output,QX f8.size hD2.size,fun k hk hn=>(hD2.block k (Jq hk f8.size) (fun hm=>?_)).trans (f8.block k hk hn)⟩;rcases HFt.1 k hm with h|h
            ·exact hn h
            ·omega
          ·have hgt:((m:Int)+1>4)=False:=by simp;omega
           go_wp2_with fail
           go_ret;refine⟨rfl,_,?_,HB8.1,HF8.1,HFt.1⟩;rw[HHm.1];unfold yr;rw[if_neg (by rw[HMm.1];omega)];show(⟨grp,(b.es++ [e]).map EP.m,b.clr⟩:BM)=⟨grp,b.es.map EP.m++ [_],false⟩;rw[Q9,List.map_singleton,HEm.1,HCl.1]
end
theorem qcn{n c t:Nat}(h:jU n c t=0):n=12∧c≤1048576∧t≤1048576:=by
 unfold jU at h;split at h
 ·cases h
 ·omega
theorem qbL(key nonce ctx text:qf)(h:jU nonce.length ctx.length text.length=0):zO key nonce ctx text=zY key nonce 1 text++uc key nonce ctx (zY key nonce 1 text):=by unfold zO;rw[if_pos h]
theorem qff(key nonce ctx text:qf)(h:jU nonce.length ctx.length text.length=0):(zO key nonce ctx text).length=text.length+16:=by
 have hz:=qcn h;rw[qbL _ _ _ _ h,QO,jT,(ka key nonce text hz.1 (by omega)).2]
theorem qln(key nonce ctx text:qf)(h:jU nonce.length ctx.length text.length=0):jV key nonce ctx (zO key nonce ctx text)=0∧j3 key nonce ctx (zO key nonce ctx text)=text:=by
 have hz:=qcn h;have hl:=qff key nonce ctx text h;have hm:=(ka key nonce text hz.1 (by omega)).2;have ht:(zO key nonce ctx text).take ((zO key nonce ctx text).length-16)=zY key nonce 1 text:=by
  rw[hl,Zn,qbL _ _ _ _ h,List.take_append_of_le_length (by omega),List.take_of_length_le (by omega)]
 have hd:(zO key nonce ctx text).drop ((zO key nonce ctx text).length-16)=uc key nonce ctx (zY key nonce 1 text):=by
  rw[hl,Zn,qbL _ _ _ _ h,List.drop_append_of_le_length (by omega),List.drop_of_length_le (by omega),List.nil_append]
 have hb:jV key nonce ctx (zO key nonce ctx text)=0:=by
  unfold jV;rw[ht,hd,hl,if_neg (by omega),if_neg (by omega),if_pos rfl]
 refine⟨hb,?_⟩;unfold j3;rw[if_pos hb,ht,qla key nonce text hz.1 (by omega)]
section
open Go.RowKit
structure yD(w w':World)(base gB:Nat)(b b':BX):Prop where
 box:qI w' base gB b'
 frm:Frm w w' (BX.foot gB b)
 foot:∀k∈BX.foot gB b',k∈BX.foot gB b∨w.heap.size≤k
section
variable{w w':World}{base gA gB:Nat}{a b a' b':BX}
theorem qI.less{base':Nat}(h:qI w base gB b)(hb:base'≤base):qI w base' gB b:=
 ⟨h.blk,h.glen,qkU h.row hb,h.ch,h.bnd,h.rise,h.many,h.nd,⟨QX hb h.low.1,fun k hk=>QX hb (h.low.2 k hk)⟩⟩
structure vH(w:World)(base gA gB:Nat)(a b:BX):Prop where
 l:qI w base gA a
 r:qI w base gB b
 ne:∀k∈BX.foot gA a,k∉BX.foot gB b
theorem vH.below(h:vH w base gA gB a b)(hb:Below w.heap.size w w'):vH w' base gA gB a b:=⟨h.l.below hb,h.r.below hb,h.ne⟩
theorem vH.swap(h:vH w base gA gB a b):vH w base gB gA b a:=⟨h.r,h.l,fun k hk hm=>h.ne k hm hk⟩
theorem vH.left(h:vH w base gA gB a b)(s:yD w w' base gA a a'):vH w' base gA gB a' b:=
 ⟨s.box,h.r.frm s.frm (fun k hk hm=>h.ne k hm hk),fun k hk hm=>by
  rcases s.foot k hk with h1|h1
  ·exact h.ne k h1 hm
  ·have:=(h.r.foot_lt k hm).2;omega⟩
theorem vH.right(h:vH w base gA gB a b)(s:yD w w' base gB b b'):vH w' base gA gB a b':=(h.swap.left s).swap
theorem vH.of_same(h:vH w base gA gB a b)(hs:∀k,k∈BX.foot gA a∨k∈BX.foot gB b→w'.heap[k]?=w.heap[k]?):vH w' base gA gB a b:=⟨h.l.of_same (fun k hk=>hs k (.inl hk)),h.r.of_same (fun k hk=>hs k (.inr hk)),h.ne⟩
theorem yD.toBelow(s:yD w w' base gB b b')(h:qI w base gB b){w0:World}(hb:Below base w0 w):Below base w0 w':=
 Frm.toBelow hb s.frm (Nat.le_of_lt (Nat.lt_of_le_of_lt h.low.1 h.gB_lt)) (fun q hq=>(h.foot_lt q hq).1)
end
theorem vH.fresh{w1 w2:World}{base gA gB:Nat}{c d:BX}(hA:qI w1 gA gA c)(hB:qI w2 gB gB d)(hw:w1.heap.size≤gB)(hbA:base≤gA)(hb:Below w1.heap.size w1 w2):vH w2 base gA gB c d:=
 ⟨(hA.below hb).less hbA,hB.less (by have:=hA.gB_lt;omega),fun k hk hm=>by
   have h1:=(hA.foot_lt k hk).2;have h2:=(hB.foot_lt k hm).1;omega⟩
def exG(x:BitVec 8):qf:=x::QL 31 0#8
theorem zl(x:BitVec 8):(exG x).length=32:=by simp[exG]
theorem kb(z:qf)(n:Int)(h0:0≤n)(h1:n≤256):qQ (ju z) n=0:=by
 have hh:hiM (ju z)= -1:=rfl;have hl:(ju z).low=0:=rfl;have hp:(ju z).place=0:=rfl;unfold qQ;rw[if_neg (by omega),if_neg (by rw[hh];omega),if_neg (by rw[hl];omega),if_neg (by show n∉ [];simp),if_neg (by rw[hp];omega)]
theorem qhL{l:jo}(k:LOK l){n:Int}(h0:qQ l n=0)(h1:l.low=0)(h2:l.place≤n+65):qQ (jR l n) n=7:=by
 obtain⟨n0,n1,nh,nl,na,nf⟩:=qap h0;have hhi:=(qb0 k h0).hi;have hp:(jR l n).place=if l.place≤n then n+1 else l.place:=rfl
 unfold qQ;rw[if_neg (by omega),if_neg (by rw[hhi,hp];split<;>omega),if_neg (by show¬n<l.low;omega),if_pos (by show n∈l.asked++ [n];simp)]
theorem qfg(n i:Nat)(s:qf)(hs:s.length=32):(vr n i s).length=32:=uo _ _ _ _ hs
end
section
open Go.RowKit
set_option maxRecDepth 100000
theorem qdf(g s:qf)(no lv lf:Int)(hs:jB lv=true)(h0:0≤lf)(h1:lf<lv)(n0:0≤no)(n1:no≤4294967295):
 vy yT g no lv lf=0∧vO yT g no lv lf s=⟨g,[⟨no,lf.toNat,vY lv.toNat s⟩],false⟩:=by
 have h:vy yT g no lv lf=0:=by
  unfold vy yT;rw[if_neg (by decide),if_neg (by rw[hs];simp;omega),if_neg (by omega),if_neg (by simp)]
 refine⟨h,?_⟩;unfold vO;rw[if_pos h];rfl
theorem qem{b:BM}{l:jo}{n:Nat}(hl:jY b.es=some l)(hn:n≤1024)(ht:qQ l l.place=0):ud b n=0:=by
 unfold ud;rw[hl];dsimp only;rw[if_neg (by omega),ht]
theorem qhM{b:BM}{l:jo}{text:qf}(hl:jY b.es=some l)(hn:text.length≤1024)(ht:qQ l l.place=0):
 kx b text=⟨b.grp,kX b.es,(vE b.es:Int),l.place,zO (qS l l.place).key (qS l l.place).nonce (vF b.grp (kX b.es) (vE b.es:Int) l.place) text⟩:=by
 have h:=qem hl hn ht;unfold kx;rw[hl];dsimp only;rw[if_pos h]
theorem qen{b:BM}{p:PM}{i:Nat}{l:jo}(hne:b.es≠ [])(hb:zU p.ep p.fr p.nu p.sl.length=false)(hl:p.sl.length≤1040)(hf:vw b.es p.ep=some i)(hg:p.grp=b.grp)(hfr:p.fr≠(Qd b.es i:Int))(hla:zT b.es i p.fr.toNat=some l):
 jI b p=if qQ l p.nu≠0 then qQ l p.nu else jV (qS l p.nu).key (qS l p.nu).nonce (vF p.grp p.ep p.fr p.nu) p.sl:=by
 unfold jI;rw[if_neg hne,if_neg (by rw[hb];decide),if_neg (by omega),hf];dsimp only;rw[if_neg (by simp[hg]),if_neg hfr,hla]
theorem qcL{b:BM}{p:PM}{i:Nat}{l:jo}(hf:vw b.es p.ep=some i)(hla:zT b.es i p.fr.toNat=some l):yh b p=some (i,l):=by
 unfold yh;rw[hf];dsimp only[Option.bind_some];rw[hla];rfl
theorem qeo{b:BM}{p:PM}{i:Nat}{l:jo}(hp:yh b p=some (i,l))(h0:jI b p=0):ue b p=j3 (qS l p.nu).key (qS l p.nu).nonce (vF p.grp p.ep p.fr p.nu) p.sl:=by
 unfold ue;rw[hp];dsimp only;rw[if_pos h0]
theorem qhN{b:BM}{p:PM}{i:Nat}{l:jo}(hp:yh b p=some (i,l))(h0:jI b p=0):uf b p=⟨b.grp,zD b.es i p.fr.toNat (jR l p.nu),b.clr⟩:=by
 unfold uf;rw[hp];dsimp only;rw[if_pos h0]
theorem qep{l:jo}(k:LOK l){n:Int}(ht:qQ l n=0){ctx text:qf}(hc:ctx.length=41)(hl:text.length≤1048576):
 jV (qS l n).key (qS l n).nonce ctx (zO (qS l n).key (qS l n).nonce ctx text)=0∧j3 (qS l n).key (qS l n).nonce ctx (zO (qS l n).key (qS l n).nonce ctx text)=text∧(zO (qS l n).key (qS l n).nonce ctx text).length=text.length+16:=by
 obtain⟨hk,hn⟩:=qaG k ht;have hs:jU (qS l n).nonce.length ctx.length text.length=0:=by rw[hn,hc];unfold jU;rw[if_neg (by omega)]
 obtain⟨h1,h2⟩:=qln (qS l n).key (qS l n).nonce ctx text hs;exact⟨h1,h2,qff _ _ _ _ hs⟩
def qnW:BM:=⟨exG 1#8,[⟨0,0,vY 2 (exG 2#8)⟩],false⟩
def Qr:BM:=⟨exG 1#8,[⟨0,1,vY 2 (exG 2#8)⟩],false⟩
def Qk:qf:=[104#8,105#8]
def z23:qf:=vr 2 0 (exG 2#8)
theorem qgf:z23.length=32:=qfg _ _ _ (zl _)
def p23:PM:=⟨exG 1#8,0,0,0,zO (qS (ju z23) 0).key (qS (ju z23) 0).nonce (vF (exG 1#8) 0 0 0) Qk⟩
theorem qj4:jY qnW.es=some (ju z23):=rfl
theorem qj5:zT Qr.es 0 p23.fr.toNat=some (ju z23):=rfl
theorem qj6:ud qnW 2=0∧kx qnW Qk=p23:=by
 have ht:=kb z23 0 (by decide) (by decide);exact⟨qem qj4 (by decide) ht,qhM qj4 (by decide) ht⟩
theorem ym:p23.sl.length=18:=by
 have h:=(qep (um z23 qgf) (kb z23 0 (by decide) (by decide)) (uB (zl 1#8) 0 0 0) (text:=Qk) (by decide)).2.2;exact h
theorem qco(A:Option Addr)(n c:Nat):(qq p23.grp p23.ep p23.fr p23.nu A n c).length=36:=j1 (zl 1#8) _ _ _ _ _ _
theorem qgg:jI Qr p23=0∧ue Qr p23=Qk∧jI (uf Qr p23) p23=7:=by
 have ht:=kb z23 0 (by decide) (by decide);have hu:=qep (um z23 qgf) ht (uB (zl 1#8) 0 0 0) (text:=Qk) (by decide);have hf:vw Qr.es p23.ep=some 0:=rfl;have h0:jI Qr p23=0:=by
  rw[qen (b:=Qr) (p:=p23) (i:=0) (l:=ju z23) (by unfold Qr;simp) (by rw[ym];rfl) (by rw[ym];decide) hf rfl (by decide) qj5];rw[if_neg (by show¬qQ (ju z23) 0≠0;rw[ht];decide)];exact hu.1
 have hp:=qcL hf qj5;refine⟨h0,by rw[qeo hp h0];exact hu.2.1,?_⟩;rw[qhN hp h0];have ha:=qhL (um z23 qgf) ht rfl (by decide);rw[qen (i:=0) (l:=jR (ju z23) 0) (by decide) (by rw[ym];rfl) (by rw[ym];decide) rfl rfl (by decide) rfl];rw[if_pos (by show qQ (jR (ju z23) 0) 0≠0;rw[ha];decide)];exact ha
theorem Rd.newK{α:Type}(f:α→Value)(w:World)(E:TypeId)(fr:Nat×Nat)(xs:List α):Rd f (w.alloc (.cells (xs.map f).toArray E fr)) (w.heap.size+1) (some ⟨w.heap.size,0,none⟩) xs:=fun _=>
 ⟨w.heap.size,0,rfl,by omega,fun j u hu=>by
  rw[Nat.zero_add,cell_of_row _ w.heap.size j (xs.map f).toArray E fr (heap_alloc_new w _)];simp[hu]⟩
theorem qaN{w:World}{base gB:Nat}{b:BX}(h:qI w base gB b)(h4:b.es.length≤4)(hT:Tab w)(hb1:1<base)(grp s:qf)(hgl:grp.length=32)(hsl:s.length=32)(no leaves leaf:Int)(l0: -9223372036854775808≤leaves)(l1:leaves<9223372036854775808):
 Calls prog 10 #[.pointer (some ⟨gB,0,none⟩),jL b8 grp,.int .i64 no,jL b8 s,.int .i64 leaves,.int .i64 leaf] w fun e w'=>e= .returned (zG (vy b.m grp no leaves leaf))∧∃b',b'.m=vO b.m grp no leaves leaf s∧yD w w' base gB b b':=
 (qlm h h4 hT hb1 grp s hgl hsl no leaves leaf l0 l1).mono fun e w' ⟨h1,b',h2,h3,h4,h5⟩=>⟨h1,b',h2,h3,h4,h5⟩
theorem qfh{w:World}{base gB:Nat}{b:BX}(h:qI w base gB b)(T:Option Addr)(m d Bm:Nat)(text:qf)(hr:Rd b8 w Bm T text)(hBm:Bm≤w.heap.size)(hTf:text≠ []→∀bt off,T=some ⟨bt,off,none⟩→bt∉b.efoot)(hm:text.length=m){P:PM}(hP:P=kx b.m text):
 Calls prog 12 #[.pointer (some ⟨gB,0,none⟩),.slice T m d] w fun e w'=>∃(A:Option Addr) (n c:Nat),e= .returned (.tuple #[.agg (qq P.grp P.ep P.fr P.nu A n c).toArray,zG (ud b.m m)])∧Own b8 w' w.heap.size 5 (.slice A n c) P.sl∧∃b',b'.m=yO b.m m∧yD w w' base gB b b'∧∀k,(JZ A n c).ownBlock=some k→k∉BX.foot gB b':=by
 subst hP;exact(qi6 h T m d Bm text hr hBm hTf hm).mono fun e w' ⟨A,n,c,h1,h2,b',h3,h4,h5,h6,h7⟩=>⟨A,n,c,h1,h2,b',h3,⟨h4,h5,h6⟩,h7⟩
theorem qbp{w:World}{base gB:Nat}{b:BX}(h:qI w base gB b)(p:PM)(hg:p.grp.length=32)(A:Option Addr)(n c Bm:Nat)(hr:Rd b8 w Bm A p.sl)(hBm:Bm≤w.heap.size)(hn:p.sl.length=n)(hnc:n≤c)(hn63:n<9223372036854775808)
 (e1: -9223372036854775808≤p.ep)(e2:p.ep<9223372036854775808)(f1: -9223372036854775808≤p.fr)(f2:p.fr<9223372036854775808)(n1: -9223372036854775808≤p.nu)(n2:p.nu<9223372036854775808):
 Calls prog 13 #[.pointer (some ⟨gB,0,none⟩),.agg (qq p.grp p.ep p.fr p.nu A n c).toArray] w fun e w'=>∃v,e= .returned (.tuple #[v,zG (jI b.m p)])∧Own b8 w' w.heap.size 5 v (ue b.m p)∧∃b',b'.m=uf b.m p∧yD w w' base gB b b'∧∀k,v.ownBlock=some k→k∉BX.foot gB b':=
 (qi7 h p hg A n c Bm hr hBm hn hnc hn63 e1 e2 f1 f2 n1 n2).mono fun e w' ⟨v,h1,h2,b',h3,h4,h5,h6,h7⟩=>⟨v,h1,h2,b',h3,⟨h4,h5,h6⟩,h7⟩
theorem qhO(w:World)(hT:Tab w):Calls prog 8 #[] w fun e w'=>e= .returned (.bool true)∧Below w.heap.size w w':=by
 have hb1:∀w:World,(Instr.build 23 #[(0,QM .u8 1)]).run prog w= .ok (.agg ((exG 1#8).map b8).toArray) w:=fun w=>run_build w _ _ _ (by kernel_rfl)
 have hb2:∀w:World,(Instr.build 23 #[(0,QM .u8 2)]).run prog w= .ok (.agg ((exG 2#8).map b8).toArray) w:=fun w=>run_build w _ _ _ (by kernel_rfl)
 have hbase:=hT.lt;go_enter func8,ntmps8
 go_wp2_with fail
 refine(qaI _).mono ?_;rintro e w1 ⟨rfl,hA,hk1⟩;have HA:=qe hA;have HK1:=qe hk1;have hz1:=hA.gB_lt;clear hA hk1;go_wp2_with fail
 refine(qaI _).mono ?_;rintro e w2 ⟨rfl,hB,hk2⟩;have HT2:=qe (vH.fresh HA.1 hB (QI _) (QI _) hk2);have HK2:=qe (HK1.1.trans (hk2.mono HK1.1.size));have hz2:=HT2.1.r.gB_lt;have hTb:∀W,Below w.heap.size w W→Tab W:=fun W hb=>hT.below hb
 have HTb:=qe hTb;clear hB hk2 hT hTb;have e1:=qaN HT2.1.l (by simp) (HTb.1 _ HK2.1) hbase (exG 1#8) (exG 2#8) (zl _) (zl _) 0 2 0 (by decide) (by decide);have m1:=qdf (exG 1#8) (exG 2#8) 0 2 0 rfl (by decide) (by decide) (by decide) (by decide);rw[show(BX.m ⟨QL 32 0#8,.slice none 0 0,[],false⟩)=yT from rfl,m1.1,m1.2,qW,qn,qn]at e1;have HE1:=qe e1
 clear e1 m1;go_wp2_with fail
 refine HE1.1.mono ?_;rintro e w3 ⟨rfl,a3,hm3,hs3⟩;have HT3:=qe (HT2.1.left hs3);have HM3:=qe (show a3.m=qnW from hm3);have HK3:=qe (hs3.toBelow HT2.1.l HK2.1);clear hm3 hs3;have e1:=qaN HT3.1.r (by simp) (HTb.1 _ HK3.1) hbase (exG 1#8) (exG 2#8) (zl _) (zl _) 0 2 1 (by decide) (by decide);have m1:=qdf (exG 1#8) (exG 2#8) 0 2 1 rfl (by decide) (by decide) (by decide) (by decide)
 rw[show(BX.m ⟨QL 32 0#8,.slice none 0 0,[],false⟩)=yT from rfl,m1.1,m1.2,qW,qn,qn]at e1;have HE2:=qe e1;clear e1 m1;go_wp2_with fail
 refine HE2.1.mono ?_;rintro e w4 ⟨rfl,b4,hm4,hs4⟩;have HT4:=qe (HT3.1.right hs4);have HM4:=qe (show b4.m=Qr from hm4);have HK4:=qe (hs4.toBelow HT3.1.r HK3.1);clear hm4 hs4;have kc:=fun(w:World) (C:Array Value) (n c:Nat)=>Lib.run_convert_bytes_const (P:=prog) w 28 5 C n c underlying28 underlying5
 go_wp2_with fail
 have s1:=qfh (w:=w4.alloc (.cells (Qk.map b8).toArray 5 (2,3))) (HT4.1.l.alloc _) (some ⟨w4.heap.size,0,none⟩) 2 2 (w4.heap.size+1) Qk (Rd.newK b8 w4 5 (2,3) Qk) (by simp) (fun _ bt off e hm=>by
  injection e with e;injection e with e _ _;subst e;have:=(HT4.1.l.foot_lt _ (BX.efoot_sub _ _ _ hm)).2;omega) rfl (P:=p23) (by rw[HM3.1];exact qj6.2.symm)
 rw[HM3.1,qj6.1,qW]at s1;refine s1.mono ?_;rintro e w5 ⟨A,n,c,rfl,hO,a5,-,hs5,-⟩;obtain⟨A5,c5,e5,hr5,-,hc5,-⟩:=hO.shape' ym;injection e5 with e4 e5 e6;subst e4;subst e5;have HT5:=qe ((HT4.1.below ((QK _ w4).alloc (QI _) _)).left hs5);have HK5:=qe (hs5.toBelow (HT4.1.l.alloc _) (HK4.1.alloc HK4.1.size _));have HR5:=qe hO.rd;have hcc:18≤c:=by rw[e6];exact hc5
 have HAb:=qe (show∀bt off,A=some ⟨bt,off,none⟩→bt∉BX.foot w1.heap.size b4 from fun bt off e hm=>by
  have h5:=(hO.lt bt (by rw[e];rfl)).1;have h6:=(HT4.1.r.foot_lt _ hm).2;rw[QQ]at h5;omega)
 clear hO hs5 hr5 e6 s1 kc hc5;have HZ5:=qe (show Blk (w5.alloc (.cells pkZ.toArray 41)) w5.heap.size 41 pkZ from Blk.new _ _ _);go_upto_region 5 with(refine qi rfl 41 (.tmp 3) (.tmp 27) rfl w5.heap.size 0 rfl (qq p23.grp p23.ep p23.fr p23.nu A 18 c) rfl 41 _ [] pkZ [] HZ5.1 (by simp) rfl (by rw[qco];rfl) (by rw[qco];exact jC) (yg _ _ _ _ _ _ _) ?_;intro w6 hx6 hg6)
 have HP6:=qe (show Blk w6 w5.heap.size 41 (qq p23.grp p23.ep p23.fr p23.nu A 18 c)from hx6.cast (by simp));have hb6:Below w5.heap.size w5 w6:=((QK _ w5).alloc (QI _) _).grown hg6 (by simp) (fun k e=>by cases e;exact QI _);have HT6:=qe (HT5.1.below hb6);have HK6:=qe (HK5.1.trans (hb6.mono HK5.1.size));have HR6:=qe ((HR5.1.below hb6).more hb6.size);have c34:w6.cell? ⟨w5.heap.size,34,none⟩=some (.int .i64 0):=qZ.c34 HP6.1 (zl _)
 have c35:w6.cell? ⟨w5.heap.size,35,none⟩=some (.slice A 18 c):=qZ.c35 HP6.1 (zl _);have hz6:=HP6.1.lt;clear hx6 hg6 hb6;have HO1:=qe (show Calls prog 13 #[.pointer (some ⟨w1.heap.size,0,none⟩),.agg (qq p23.grp p23.ep p23.fr p23.nu A 18 c).toArray] w6 fun e w'=>∃v,e= .returned (.tuple #[v,.nilIface])∧Own b8 w' w6.heap.size 5 v Qk∧∃b',b'.m=uf Qr p23∧yD w6 w' w.heap.size w1.heap.size b4 b'∧∀k,v.ownBlock=some k→k∉BX.foot w1.heap.size b' by
  have o1:=qbp HT6.1.r p23 (zl _) A 18 c w6.heap.size HR6.1 (QI _) ym hcc (by decide) (by decide) (by decide) (by decide) (by decide) (by decide) (by decide);rw[HM4.1,qgg.1,qgg.2.1,qW]at o1;exact o1)
 go_wp2_with (refine wpList_load_mid rfl 41 (.tmp 3) rfl w5.heap.size 0 rfl (qq p23.grp p23.ep p23.fr p23.nu A 18 c) _ HP6.1.whole underlying41 rfl (by rw[qco];exact jC) ?_)
 refine HO1.1.mono ?_;rintro e w7 ⟨v7,rfl,ho7,b7,hm7,hs7,hn7⟩;obtain⟨A7,c7,rfl,hr7,-,-,-⟩:=ho7.shape' (n:=2) rfl;have HT7:=qe (HT6.1.right hs7);have HK7:=qe (hs7.toBelow HT6.1.r HK6.1);have HM7:=qe hm7;have HO7:=qe ho7;have HP7:=qe (show Blk w7 w5.heap.size 41 (qq p23.grp p23.ep p23.fr p23.nu A 18 c)from(hs7.frm.block _ hz6 (HT6.1.r.typed_out HP6.1 (by decide) (by decide) (by decide) (by decide) (by decide))).trans HP6.1)
 have HR7:=qe (show Rd b8 w7 w6.heap.size A p23.sl from Qb HR6.1 (QI _) hs7.frm HAb.1);have hz7:=hs7.frm.size;clear hm7 hs7 ho7 hr7;have HO2:=qe (show Calls prog 13 #[.pointer (some ⟨w1.heap.size,0,none⟩),.agg (qq p23.grp p23.ep p23.fr p23.nu A 18 c).toArray] w7 fun e w'=>∃v,e= .returned (.tuple #[v,.iface 69 (.int .i64 7)])∧Own b8 w' w7.heap.size 5 v (ue b7.m p23)∧∃b',b'.m=uf b7.m p23∧yD w7 w' w.heap.size w1.heap.size b7 b'∧∀k,v.ownBlock=some k→k∉BX.foot w1.heap.size b' by
  have o1:=qbp HT7.1.r p23 (zl _) A 18 c w6.heap.size HR7.1 hz7 ym hcc (by decide) (by decide) (by decide) (by decide) (by decide) (by decide) (by decide);rw[show jI b7.m p23=7 by rw[HM7.1];exact qgg.2.2]at o1;exact o1)
 go_wp2_with (refine wpList_load_mid rfl 41 (.tmp 3) rfl w5.heap.size 0 rfl (qq p23.grp p23.ep p23.fr p23.nu A 18 c) _ HP7.1.whole underlying41 rfl (by rw[qco];exact jC) ?_)
 refine HO2.1.mono ?_;rintro e w8 ⟨v8,rfl,ho8,b8',-,hs8,-⟩;obtain⟨A8,c8,e8,-⟩:=ho8.shape;obtain⟨n8,hn8⟩:∃n8,n8=(ue b7.m p23).length:=⟨_,rfl⟩;rw[←hn8]at e8;subst e8;have HK8:=qe (hs8.toBelow HT7.1.r HK7.1);have HR8:=qe (show Rd b8 w8 w7.heap.size A7 Qk from Qb HO7.1.rd (QI _) hs8.frm (fun bt off e hm=>hn7 bt (by rw[e];rfl) hm));have hr1:(convert 28 9 (.slice A7 2 c7)).run prog w8= .ok (.string (str Qk)) w8:=qbU (P:=prog) HR8.1 28 9 5 c7 underlying28 underlying5 underlying9
 have hst:(str Qk).toList=[104,105]:=by rw[ByteArray.toList_eq,qbz];rfl
 clear hs8 ho8 hn8;go_wp2_with fail
 refine(qom 7 7 _).mono ?_;rintro e w9 ⟨rfl,rfl⟩;go_wp2_with fail
 go_ret;exact⟨rfl,HK8.1⟩
end
section
open Go.RowKit
def j7:Option Addr→List Nat
 |none=> []
 |some a=> [a.block]
theorem yK{α:Type}{f:α→Value}{w w':World}{B B':Nat}{A:Option Addr}{xs:List α}(h:Rd f w B A xs)(hB:B≤B')(hs:∀k∈j7 A,w'.heap[k]?=w.heap[k]?):Rd f w' B' A xs:=fun hn=>by
 obtain⟨b,off,e,hb,hc⟩:=h hn;refine⟨b,off,e,by omega,fun j u hu=>?_⟩;rw[←hc j u hu];exact World.cell?_of_block (hs b (by rw[e];simp[j7]))
def RL.foot(x:RL):List Nat:=j7 x.hA++(j7 x.aA++x.rs.map RO.r)
theorem RL.At.same{w w':World}{x:RL}(h:x.At w)(hz:w.heap.size≤w'.heap.size)(hs:∀k∈x.foot,w'.heap[k]?=w.heap[k]?):x.At w':=
 ⟨h.ok,h.fst,yK h.rows hz (fun k hk=>hs k (by simp[RL.foot,hk])),h.none_,fun o ho=>(h.each o ho).of hz (hs o.r (by
  unfold RL.foot;simp only[QS,QW];exact .inr (.inr ⟨o,ho,rfl⟩))),yK h.asked hz (fun k hk=>hs k (by simp[RL.foot,hk]))⟩
structure RE where
 no:Int
 leaf:Nat
 ls:List RL
 A:Option Addr
 c:Nat
def RE.cells(e:RE):List Value:=[.int .i64 e.no,.int .i64 (e.leaf:Int),.slice e.A e.ls.length e.c]
def RE.foot(e:RE):List Nat:=j7 e.A++e.ls.flatMap RL.foot
def RE.m(e:RE):EM:=⟨e.no,e.leaf,e.ls.map RL.l⟩
theorem RE.cells_len(e:RE):e.cells.length=3:=rfl
theorem RE.cells_one(e:RE):∀u∈e.cells,u.oneCell'=true:=by
 intro u hu;simp only[RE.cells,Ja,JM,or_false]at hu;rcases hu with rfl|rfl|rfl<;>rfl
structure RE.At(w:World)(e:RE):Prop where
 rows:RdV w w.heap.size e.A (e.ls.flatMap RL.cells)
 each:∀x∈e.ls,x.At w
theorem RE.At.same{w w':World}{e:RE}(h:e.At w)(hz:w.heap.size≤w'.heap.size)(hs:∀k∈e.foot,w'.heap[k]?=w.heap[k]?):e.At w':=
 ⟨yK h.rows hz (fun k hk=>hs k (by simp[RE.foot,hk])),fun x hx=>(h.each x hx).same hz (fun k hk=>hs k (by
  unfold RE.foot;exact Zf _ (Jk.2 ⟨x,hx,hk⟩)))⟩
structure RX where
 grp:qf
 es:List RE
 A:Option Addr
 c:Nat
 clr:Bool
def zw(grp:qf)(v:Value)(clr:Bool):List Value:=grp.map b8++ [v,.bool clr]
def RX.cells(x:RX):List Value:=zw x.grp (.slice x.A x.es.length x.c) x.clr
def RX.foot(x:RX):List Nat:=j7 x.A++x.es.flatMap RE.foot
def RX.m(x:RX):BM:=⟨x.grp,x.es.map RE.m,x.clr⟩
structure RX.At(w:World)(x:RX):Prop where
 glen:x.grp.length=32
 rows:RdV w w.heap.size x.A (x.es.flatMap RE.cells)
 each:∀e∈x.es,e.At w
 lt:∀k∈x.foot,k<w.heap.size
theorem RX.At.same{w w':World}{x:RX}(h:x.At w)(hz:w.heap.size≤w'.heap.size)(hs:∀k∈x.foot,w'.heap[k]?=w.heap[k]?):x.At w':=
 ⟨h.glen,yK h.rows hz (fun k hk=>hs k (by simp[RX.foot,hk])),fun e he=>(h.each e he).same hz (fun k hk=>hs k (by
  unfold RX.foot;exact Zf _ (Jk.2 ⟨e,he,hk⟩))),fun k hk=>by have:=h.lt k hk;omega⟩
theorem RX.At.frm{w w':World}{x:RX}{S:List Nat}(h:x.At w)(f:Frm w w' S)(hS:∀k∈x.foot,k∉S):x.At w':=h.same f.size (fun k hk=>f.block k (h.lt k hk) (hS k hk))
theorem RX.At.below{w w':World}{x:RX}{B:Nat}(h:x.At w)(hb:Below B w w')(hB:w.heap.size≤B):x.At w':=h.same hb.size (fun k hk=>hb.block k (by have:=h.lt k hk;omega))
theorem RX.At.grown{w w':World}{x:RX}{g:Nat}(h:x.At w)(hg:w.grownBy w' (some g))(hne:g∉x.foot):x.At w':=h.same hg.size (fun k hk=>hg.block k (h.lt k hk) (fun e=>by injection e with e;exact hne (e▸hk)))
section
variable{grp:qf}{v:Value}{clr:Bool}(hl:grp.length=32)
include hl
theorem j8:(zw grp v clr).length=34:=by simp[zw,hl]
theorem jG:(zw grp v clr)[32]?=some v:=by
 unfold zw;rw[JA (by simp[hl])];simp[hl]
theorem qnX:(zw grp v clr)[33]?=some (.bool clr):=by
 unfold zw;rw[JA (by simp[hl])];simp[hl]
theorem vS(u:Value):(zw grp v clr).set 32 u=zw grp u clr:=by
 unfold zw;simp[List.set_append,hl]
theorem qhP(w:World)(g:Nat)(T:TypeId)(b:Blk w g T (zw grp v clr)):w.rangeAt g 0 (grp.map b8):=by
 have h:=b.range 0 32;rwa[J0,show(zw grp v clr).take 32=grp.map b8 by unfold zw;rw[Zc (by rw[QN,hl])]]at h
end
theorem zI{grp:qf}{v:Value}{clr:Bool}(h1:v.oneCell'=true):∀u∈zw grp v clr,u.oneCell'=true:=by
 intro u hu;unfold zw at hu;simp only[QS,Ja,JM,or_false]at hu;rcases hu with hu|rfl|rfl
 ·obtain⟨x,-,rfl⟩:=QW.1 hu;exact qH x
 ·exact h1
 ·rfl
def jd:List Value:=zw (QL 32 0#8) (.slice none 0 0) false
theorem qt:(prog.info? 34).map (·.size)=some 34:=by kernel_rfl
theorem vT:(prog.info? 85).map (fun i=>(i.zero,i.size,i.bytes))=some (some (.agg #[.int .i64 0,.int .i64 0,.slice none 0 0]),3,40):=by kernel_rfl
theorem vc:(prog.info? 85).map (·.size)=some 3:=by kernel_rfl
theorem qgh:prog.built 34 []=some jd.toArray:=by kernel_rfl
theorem qdg(grp:qf)(h:grp.length=32):prog.built 34 [(0,.agg (grp.map b8).toArray)]=some (zw grp (.slice none 0 0) false).toArray:=by
 obtain⟨x0,x1,x2,x3,x4,x5,x6,x7,x8,x9,x10,x11,x12,x13,x14,x15,x16,x17,x18,x19,x20,x21,x22,x23,x24,x25,x26,x27,x28,x29,x30,x31,rfl⟩:=un h
 kernel_rfl
def yn:RX:=⟨QL 32 0#8,[],none,0,false⟩
theorem qi8(w:World):yn.At w:=⟨by simp[yn],Rd.nil_ _ _ _ _,(fun e he=>by cases he),(fun k hk=>by simp[RX.foot,j7,yn]at hk)⟩
def yo(n:Nat)(s:qf):List RL:=(Q6 n).map fun i=>zM (vr n i s)
theorem qm1(n:Nat)(s:qf):(yo n s).map RL.l=vY n s:=by
 unfold yo vY;rw[List.map_map];rfl
theorem qi9(n:Nat)(s:qf):(yo n s).length=n:=by simp[yo]
theorem qlo(w:World)(n:Nat){s:qf}(hs:s.length=32):∀x∈yo n s,x.At w:=by
 intro x hx;unfold yo at hx;obtain⟨i,-,rfl⟩:=QW.1 hx;exact qiG w _ (uo _ _ _ _ hs)
theorem qhQ(n:Nat)(s:qf):(yo n s).flatMap RL.foot=[]:=by
 rw[List.flatMap_eq_nil_iff];intro x hx;unfold yo at hx;obtain⟨i,-,rfl⟩:=QW.1 hx;rfl
end
section
open Go.RowKit
set_option maxRecDepth 100000
def QC(e:Nat):qf:=BitVec.ofNat 8 e::8#8::QL 30 0#8
theorem qhR(e:Nat):(QC e).length=32:=by simp[QC]
def emS(lf e:Nat):EM:=⟨(e:Int),lf,vY 4 (QC e)⟩
def bSp(lf E:Nat):BM:=if E=0 then yT else⟨exG 6#8,(Q6 E).map (emS lf),false⟩
theorem qfi{lf E:Nat}(hE:E<2)(hlf:lf<4):vy (bSp lf E) (exG 6#8) (E:Int) 4 (lf:Int)=0∧vO (bSp lf E) (exG 6#8) (E:Int) 4 (lf:Int) (QC E)=bSp lf (E+1):=by
 have h:vy (bSp lf E) (exG 6#8) (E:Int) 4 (lf:Int)=0:=by
  have hs:jB 4=true:=rfl;have hl:kX (bSp lf E).es=(E:Int)-1:=by
   obtain rfl|rfl:E=0∨E=1:=by omega
   all_goals rfl
  have hg:(bSp lf E).es≠ []→(bSp lf E).grp=exG 6#8:=by
   obtain rfl|rfl:E=0∨E=1:=by omega
   ·exact fun h=>absurd rfl h
   ·exact fun _=>rfl
  have hc:(bSp lf E).clr=false:=by unfold bSp;split<;>rfl
  unfold vy;rw[if_neg (by rw[hc];decide),if_neg (by rw[hs];simp;omega),if_neg (by omega),if_neg];rintro⟨h0,h1|h1⟩
  ·exact h1 (hg h0).symm
  ·rw[hl]at h1;omega
 refine⟨h,?_⟩;unfold vO;rw[if_pos h];obtain rfl|rfl:E=0∨E=1:=by omega
 all_goals rfl
theorem qdw{lf E:Nat}(hE:E≤2):(bSp lf E).es.length≤2:=by
 unfold bSp;split
 ·exact Nat.zero_le _
 ·simp;exact hE
def zSp:qf:=vr 4 0 (QC 1)
theorem qnY:zSp.length=32:=qfg _ _ _ (qhR _)
def qm2(text:qf):qf:=zO (qS (ju zSp) 0).key (qS (ju zSp) 0).nonce (vF (exG 6#8) 1 0 0) text
def pSp(text:qf):PM:=⟨exG 6#8,1,0,0,qm2 text⟩
theorem qfj{text:qf}(h:text.length≤500):jV (qS (ju zSp) 0).key (qS (ju zSp) 0).nonce (vF (exG 6#8) 1 0 0) (qm2 text)=0∧j3 (qS (ju zSp) 0).key (qS (ju zSp) 0).nonce (vF (exG 6#8) 1 0 0) (qm2 text)=text∧(qm2 text).length=text.length+16:=
 qep (um zSp qnY) (kb zSp 0 (by decide) (by decide)) (uB (zl 6#8) 1 0 0) (by omega)
theorem qgi{text:qf}(h:text.length≤500):(pSp text).sl.length=text.length+16:=by
 have h1:=(qfj h).2.2;unfold pSp;dsimp only;exact h1
theorem qhS{text:qf}(h:text.length≤500):ud (bSp 0 2) text.length=0∧kx (bSp 0 2) text=pSp text:=by
 have ht:=kb zSp 0 (by decide) (by decide);have hl:jY (bSp 0 2).es=some (ju zSp):=rfl;refine⟨qem hl (by omega) ht,?_⟩;rw[qhM hl (by omega) ht];unfold pSp qm2;rfl
theorem qm3{text:qf}(h:text.length≤500):jI (bSp 2 2) (pSp text)=0∧ue (bSp 2 2) (pSp text)=text:=by
 obtain⟨h1,h2,h3⟩:=qfj h;have ht:=kb zSp 0 (by decide) (by decide);have hf:vw (bSp 2 2).es (pSp text).ep=some 1:=rfl;have hla:zT (bSp 2 2).es 1 (pSp text).fr.toNat=some (ju zSp):=rfl;have hb:zU (pSp text).ep (pSp text).fr (pSp text).nu (pSp text).sl.length=false:=by
  rw[qgi h];unfold zU jk pSp;simp;omega
 have h0:jI (bSp 2 2) (pSp text)=0:=by
  rw[qen (b:=bSp 2 2) (p:=pSp text) (i:=1) (l:=ju zSp) (by unfold bSp;simp) hb (by rw[qgi h];omega) hf rfl (by show(0:Int)≠2;decide) hla];unfold pSp;dsimp only;rw[ht,if_neg (by decide)];exact h1
 refine⟨h0,?_⟩;rw[qeo (qcL hf hla) h0];unfold pSp;dsimp only;exact h2
theorem qnZ{x:RX}{w:World}{base gB:Nat}{b:BX}(h:qI w base gB b)(hm:x.m=b.m):x.es.Pairwise fun a b=>a.no<b.no:=by
 have h1:x.es.map RE.no=b.es.map EP.no:=by
  have h2:=congrArg (fun q:BM=>q.es.map EM.no) hm;unfold RX.m BX.m at h2;dsimp only at h2;rw[List.map_map,List.map_map]at h2;exact h2
 have h3:(b.es.map EP.no).Pairwise (· < ·):=List.pairwise_map.2 h.rise;rw[←h1]at h3;exact List.pairwise_map.1 h3
theorem qox{x:RX}(hm:x.m=bSp 2 2):x.es.length≤4∧∀e∈x.es,e.ls.length≤32∧∀l∈e.ls,l.l.asked.length≤1000:=by
 have h1:x.es.map RE.m=[emS 2 0,emS 2 1]:=congrArg BM.es hm;refine⟨by have h:=congrArg JT h1;rw[QN]at h;rw[h];decide,fun e he=>?_⟩;have h2:e.m∈ [emS 2 0,emS 2 1]:=by rw[←h1];exact QW.2 ⟨e,he,rfl⟩
 have h3:∃k,e.ls.map RL.l=vY 4 (QC k):=by
  simp only[Ja,JM,or_false]at h2;rcases h2 with h2|h2
  ·exact⟨0,congrArg EM.ls h2⟩
  ·exact⟨1,congrArg EM.ls h2⟩
 obtain⟨k,h3⟩:=h3;refine⟨?_,fun l hl=>?_⟩
 ·have h:=congrArg JT h3
  rw[QN]at h;rw[h];unfold vY;simp
 ·have h4:l.l∈vY 4 (QC k):=by rw[←h3];exact QW.2 ⟨l,hl,rfl⟩
  unfold vY at h4;obtain⟨i,-,h5⟩:=QW.1 h4;rw[←h5];simp[ju]
structure yv(w wr:World)(gA gB gX:Nat)(a b:BX)(x:RX):Prop where
 two:vH wr w.heap.size gA gB a b
 rb:Blk wr gX 34 x.cells
 rx:x.At wr
 ap:∀j∈x.foot,j∉BX.foot gA a∧j∉BX.foot gB b
 gx:gX∉x.foot∧w.heap.size≤gX
 bl:Below w.heap.size w wr
section
variable{w wr w' w1 w2:World}{gA gB gX:Nat}{a b a' b':BX}{x y:RX}
theorem yv.outA(h:yv w wr gA gB gX a b x):gX∉BX.foot gA a:=h.two.l.typed_out h.rb (by decide) (by decide) (by decide) (by decide) (by decide)
theorem yv.outB(h:yv w wr gA gB gX a b x):gX∉BX.foot gB b:=h.two.r.typed_out h.rb (by decide) (by decide) (by decide) (by decide) (by decide)
theorem yv.below(h:yv w wr gA gB gX a b x)(hb:Below wr.heap.size wr w'):yv w w' gA gB gX a b x:=
 ⟨h.two.below hb,h.rb.below hb h.rb.lt,h.rx.below hb (QI _),h.ap,h.gx,h.bl.trans (hb.mono h.bl.size)⟩
theorem yv.left(h:yv w wr gA gB gX a b x)(s:yD wr w' w.heap.size gA a a'):yv w w' gA gB gX a' b x:=
 ⟨h.two.left s,(s.frm.block _ h.rb.lt h.outA).trans h.rb,h.rx.frm s.frm (fun j hj=>(h.ap j hj).1),fun j hj=>⟨fun hm=>by
  rcases s.foot j hm with h1|h1
  ·exact(h.ap j hj).1 h1
  ·have:=h.rx.lt j hj;omega,(h.ap j hj).2⟩,h.gx,s.toBelow h.two.l h.bl⟩
theorem yv.right(h:yv w wr gA gB gX a b x)(s:yD wr w' w.heap.size gB b b'):yv w w' gA gB gX a b' x:=
 ⟨h.two.right s,(s.frm.block _ h.rb.lt h.outB).trans h.rb,h.rx.frm s.frm (fun j hj=>(h.ap j hj).2),fun j hj=>⟨(h.ap j hj).1,fun hm=>by
  rcases s.foot j hm with h1|h1
  ·exact(h.ap j hj).2 h1
  ·have:=h.rx.lt j hj;omega⟩,h.gx,s.toBelow h.two.r h.bl⟩
theorem yv.ref(h:yv w wr gA gB gX a b x)(hy:y.At w1)(hf:∀j∈y.foot,j∈x.foot∨wr.heap.size≤j)(h1:Below wr.heap.size wr w1)(hg:w1.grownBy w2 (some gX))(hb:Blk w2 gX 34 y.cells):yv w w2 gA gB gX a b y:=by
 have hlt:=h.rb.lt;have hyn:gX∉y.foot:=fun hm=>by
  rcases hf _ hm with h2|h2
  ·exact h.gx.1 h2
  ·omega
 refine⟨(h.two.below h1).of_same (fun k hk=>hg.block k ?_ (fun e=>?_)),hb,hy.grown hg hyn,fun j hj=>?_,⟨hyn,h.gx.2⟩,(h.bl.trans (h1.mono h.bl.size)).grown hg (by have:=h1.size;have:=h.bl.size;omega) (fun k e=>by cases e;exact h.gx.2)⟩
 ·have:=h1.size
  rcases hk with hk|hk
  ·have:=(h.two.l.foot_lt k hk).2;omega
  ·have:=(h.two.r.foot_lt k hk).2;omega
 ·injection e with e;subst e
  rcases hk with hk|hk
  ·exact h.outA hk
  ·exact h.outB hk
 ·rcases hf j hj with h2|h2
  ·exact h.ap j h2
  ·exact⟨fun hm=>by have:=(h.two.l.foot_lt j hm).2;omega,fun hm=>by have:=(h.two.r.foot_lt j hm).2;omega⟩
end
end
section
open Go.RowKit
theorem qhT(x n:Int):(kw x n).length≤6∧∀p∈kw x n,0≤p∧p<64:=by
 have h:=qhf x n;refine⟨h.2,?_⟩;have h1:=h.1;generalize kw x n=L at h1;generalize uO x n=q at h1
 induction L generalizing q with
 |nil=>intro p hp;cases hp
 |cons y l ih=>
  obtain⟨rfl,h0,h64,hc⟩:=qbE h1;intro p hp;rcases Ja.1 hp with rfl|hp
  ·exact⟨h0,h64⟩
  ·exact ih _ hc p hp
set_option maxRecDepth 100000 in
theorem qdh(w:World)(s:qf)(hs:s.length=32)(n i:Nat)(hn:n≤32)(hi:i<32):
 Calls prog 32 #[jL b8 s,.int .i64 (n:Int),.int .i64 (i:Int)] w fun e w'=>e= .returned (jL b8 (vr n i s))∧Below w.heap.size w w':=by
 obtain⟨i0,hi0,hz0,hz1,hz2⟩:=info_parts qdn;have HS:=qe hs;obtain⟨D,hD⟩:∃D,D=vr n i s:=⟨_,rfl⟩;have HDl:=qe (show D.length=32 by rw[hD];exact uo _ _ _ _ hs);obtain⟨x,hx⟩:∃x:Nat,x=2*i:=⟨_,rfl⟩;have hxi:(2:Int)*(i:Int)=(x:Int):=by omega
 obtain⟨L,hL⟩:∃L,L=kw (x:Int) n:=⟨_,rfl⟩;have hb:=qhT (x:Int) n;rw[←hL]at hb;have HD:=qe (show D=yq L (x:Int) L.length s by rw[hD];unfold vr;rw[hxi,←hL]);have hp:=qhg (x:Int) n;rw[←hL]at hp;have HP:=qe hp;have HBd:=qe hb.2;have hLl:=hb.1;obtain⟨w2,hw2⟩:∃w2,w2=(w.alloc (.cells (s.map b8).toArray 23)).alloc (.cells ((QL 32 0#8).map b8).toArray 23):=⟨_,rfl⟩
 have HA2:=qe (show Arr b8 w2 w.heap.size 23 s by rw[hw2];exact(Arr.new b8 w 23 s).alloc _);have HZ2:=qe (show Arr b8 w2 (w.heap.size+1) 23 (QL 32 0#8) by
  rw[hw2];have h:=Arr.new b8 (w.alloc (.cells (s.map b8).toArray 23)) 23 (QL 32 0#8);rw[QQ]at h;exact h)
 have HB2:=qe (show Below w.heap.size w w2 by rw[hw2];exact((QK _ w).alloc (QI _) _).alloc (by simp) _);have hzw:w2.heap.size=w.heap.size+2:=by rw[hw2];simp
 have hzb:w.heap.size+1<w2.heap.size:=by omega
 have HW2:=qe hw2;rw[←hD,qn,qn];have HXx:=qe hx;have hx32:x<64:=by omega
 clear hs hD hw2 hzw hp hb hL hx;go_enter func32,ntmps32
 go_upto_region 1 with fail
 have hw2:=HW2.1;simp only[show((QL 32 0#8).map b8).toArray= #[QM .u8 0,QM .u8 0,QM .u8 0,QM .u8 0,QM .u8 0,QM .u8 0,QM .u8 0,QM .u8 0,QM .u8 0,QM .u8 0,QM .u8 0,QM .u8 0,QM .u8 0,QM .u8 0,QM .u8 0,QM .u8 0,QM .u8 0,QM .u8 0,QM .u8 0,QM .u8 0,QM .u8 0,QM .u8 0,QM .u8 0,QM .u8 0,QM .u8 0,QM .u8 0,QM .u8 0,QM .u8 0,QM .u8 0,QM .u8 0,QM .u8 0,QM .u8 0]from rfl]at hw2
 rw[←hw2];clear hw2;go_wp2_with fail
 refine(HP.1 w2).mono ?_;rintro e w3 ⟨v,rfl,ho,hb3⟩;obtain⟨m,hm⟩:∃m,m=L.length:=⟨_,rfl⟩;obtain⟨A3,c3,rfl,-,-,-,-⟩:=ho.shape' (n:=m) hm.symm;have HO3:=qe ho;have HM:=qe hm;have hm6:m≤6:=by omega
 have hs3:=hb3.size;have HB3:=qe (HB2.1.trans (hb3.mono HB2.1.size));have HA3:=qe (HA2.1.below hb3 (by omega));have HZ3:=qe (HZ2.1.below hb3 (by omega));have HR:=qe (show∀W:World,Rd uZ (W.alloc (.cells #[.int .i64 0] 3)) (W.heap.size+1) (some ⟨W.heap.size,0,none⟩) [0]from fun W=>Rd.new uZ W 3 [0]);have hmi:(m:Int)+1-1=(m:Int):=by omega
 clear ho hm hb3 hLl HA2 HZ2;go_upto_region 3 with(at_builtin;(refine qh rfl (.tmp 16) (.tmp 17) 70 rfl qca w2.heap.size 3 i0 _ 8 underlying70 hi0 hz0 hz1 hz2 rfl _ L rfl (HO3.1.alloc _) (w3.heap.size+1) _ 1 1 [0] rfl rfl (HR.1 w3) (by have:=HM.1;simp[maxLen];omega) (by have:=HM.1;simp;omega) (by simp;omega) ?_;intro v4 w4 ho4 hg4 hbb4;obtain⟨A4,c4,rfl,-,-,hc4,-⟩:=ho4.shape' (n:=m+1) (by rw[QO,HM.1];rfl);have HO4:=qe ho4;have HG4:=qe (hbb4 w2.heap.size w3 (QI _) ((QK _ w3).mono hs3|>.alloc hs3 _));clear ho4 hg4 hbb4))
 have HL4:=qe (show Own uZ w4 w2.heap.size 3 (.slice A4 m c4) L from(HO4.1.short m (Nat.le_succ m)).cast (by rw[HM.1];simp));have HA4:=qe (HA3.1.below HG4.1 (by omega));have HZ4:=qe (HZ3.1.below HG4.1 (by omega));have HB4:=qe (HB3.1.trans (HG4.1.mono (by omega)));have hs4:=HG4.1.size;have HGl:=qe (show∀b,(JZ A4 m c4).ownBlock=some b→b<w4.heap.size from fun b e=>(HL4.1.lt b e).2)
 have HT4:=qe (Arr.new b8 w4 23 (QL 32 0#8));go_upto_region 4 with(first
  |(refine qm rfl 23 (.tmp 3) rfl w.heap.size rfl _ s HA4.1 _ underlying23 rfl (by rw[qR,HS.1]) ?_)
  |(refine qk rfl 23 (.tmp 8) (.tmp 24) rfl w4.heap.size rfl s rfl _ _ HT4.1 (by rw[HS.1];rfl) (by rw[qR,HS.1]) qU ?_;intro w5 hx5 hg5;have HX5:=qe hx5;have HL5:=qe ((HL4.1.alloc (.cells ((QL 32 0#8).map b8).toArray 23)).kept' hg5 (fun b e hv=>by cases e;exact absurd (HL4.1.lt _ hv).2 (by omega)));have HZ5:=qe ((HZ4.1.alloc (.cells ((QL 32 0#8).map b8).toArray 23)).grown hg5 (fun e=>by injection e with e;omega));have HB5:=qe ((HB4.1.alloc HB4.1.size (.cells ((QL 32 0#8).map b8).toArray 23)).grown hg5 (by have:=HB4.1.size;simp;omega) (fun k e=>by cases e;exact HB4.1.size));clear hx5 hg5))
 go_wp2_with fail
 go_loopw [9] (fun v wr=>∃(r:Nat) (z:qf),v= .int .i64 ((r:Int)-1)∧r≤m∧z.length=32∧Arr b8 wr w4.heap.size 23 z∧yq L (x:Int) r z=D∧Arr b8 wr (w.heap.size+1) 23 (QL 32 0#8)∧Own uZ wr w2.heap.size 3 (.slice A4 m c4) L∧Below w.heap.size w wr) (fun v _=>(intOf v+1).toNat)
 case atStart=>exact⟨m,s,rfl,QI _,HS.1,HX5.1,by rw[HM.1];exact HD.1.symm,HZ5.1,HL5.1,HB5.1⟩
 case round=>
  obtain⟨r,z,rfl,hr,hzl,ha,hd,hzr,ho,hb⟩:=hrel;have HZl:=qe hzl;have HA:=qe ha;have HZ:=qe hzr;have HO:=qe ho;have HB:=qe hb;clear hzl ha hzr hb;cases r with
  |zero=>
   have hzD:z=D:=by rw[yq]at hd;exact hd
   subst hzD;rw[show((0:Nat):Int)-1= -1 from rfl];clear ho hd;go_upto_region 14 with fail
   refine wp_region_lit ?_;refine qm rfl 23 (.tmp 8) rfl w4.heap.size rfl _ z HA.1 _ underlying23 rfl (by rw[qR,HZl.1]) ?_;refine qk rfl 23 (.tmp 6) (.tmp 56) rfl (w.heap.size+1) rfl z rfl _ _ HZ.1 (by rw[HZl.1];rfl) (by rw[qR,HZl.1]) qU ?_;intro w6 hx6 hg6;go_wp2_with fail
   refine bodyPost_ret (v:= .agg (z.map b8).toArray) (qY (g:=w.heap.size+1) rfl _ _ _ _ _ rfl hx6 underlying23 rfl (by rw[qR,HZl.1])) rfl ?_;exact⟨rfl,HB.1.grown hg6 HB.1.size (fun k e=>by cases e;omega)⟩
  |succ r=>
   have HDn:=qe (show yq L (x:Int) r (y8 L (x:Int) r z)=D by rw[yq]at hd;exact hd);clear hd;rw[show((r+1:Nat):Int)-1=(r:Int) by omega];obtain⟨g,cg,eg,hgb,hgl,-⟩:=ho.form' HM.1.symm (by omega);injection eg with eg1 eg2 eg3;subst eg1;clear ho eg2 eg3;have hg4:g<w4.heap.size:=HGl.1 g rfl;have hrm:(r:Int)<(m:Int):=by omega
   have hLr:r<L.length:=by rw[←HM.1];omega
   have c1:=(HO.1.at_ (k:=r) hLr).1;have hpb:=HBd.1 _ (List.getElem_mem hLr);have hpe:L[r]=L.getD r 0:=by rw[QR,QT hLr];rfl
   rw[hpe]at c1 hpb;unfold uZ at c1;have hch:=qaT (L.getD r 0) (by omega) wr;obtain⟨pp,hpp⟩:∃pp,pp=L.getD r 0:=⟨_,rfl⟩;rw[←hpp]at c1 hpb hch;obtain⟨cl,hcl⟩:∃cl,cl=vx pp:=⟨_,rfl⟩;rw[←hcl]at hch;generalize uA pp=cr at hch;have HCh:=qe hch;have HPp:=qe hpp;have HCl:=qe hcl;clear hch hpe hpp hcl;by_cases hr0:r=0
   ·subst hr0
    rw[show(((0:Nat)):Int)=0 from rfl];by_cases hc:(x:Int)=cl
    ·have hce:((x:Int)==cl)=true:=by simpa using hc
     have Hc:=qe hc;clear hc;have HDv:=qe (qad wr z HZl.1 ⟨#[108,101,102,116]⟩ uF qfM (by decide));rw[qn,qn]at HDv;go_wp2_with (first
      |(go_at_call 56;refine HCh.1.mono ?_;rintro e w' ⟨rfl,rfl⟩)
      |(refine qm rfl 23 (.tmp 8) rfl w4.heap.size rfl _ z HA.1 _ underlying23 rfl (by rw[qR,HZl.1]) ?_)
      |(go_at_call 57;refine(HDv.1).mono ?_;rintro e w6 ⟨rfl,hb6⟩;have HB6:=qe hb6;have HA6:=qe (HA.1.below hb6 HA.1.lt);have HZ6:=qe (HZ.1.below hb6 HZ.1.lt);have HO6:=qe (HO.1.below hb6 (QI _));clear hb6)
      |(refine qk rfl 23 (.tmp 8) (.tmp 53) rfl w4.heap.size rfl (vB z uF) rfl _ _ HA6.1 (by rw[HZl.1,jl]) (by rw[qR,jl]) qU ?_;intro w7 hx7 hg7;have HX7:=qe hx7;have HG7:=qe hg7;clear hx7 hg7))
     go_roundw
     case rel=>exact⟨0,vB z uF,by first|rfl|simp,by omega,jl _ _,HX7.1,by rw[←HDn.1];unfold y8;rw[if_pos rfl,←HPp.1,←HCl.1,if_pos Hc.1],HZ6.1.grown HG7.1 (fun e=>by injection e with e;omega),HO6.1.kept HG7.1 (.inr (fun e=>by injection e with e;have e2:g=w4.heap.size:=e;omega)),(HB.1.trans (HB6.1.mono HB.1.size)).grown HG7.1 (by have:=HB6.1.size;have:=HB.1.size;omega) (fun k e=>by cases e;omega)⟩
     case measure=>simp[intOf]<;>omega
    ·have hce:((x:Int)==cl)=false:=by simpa using hc
     have Hc:=qe hc;clear hc;have HDv:=qe (qad wr z HZl.1 ⟨#[114,105,103,104,116]⟩ kh qdS (by decide));rw[qn,qn]at HDv;go_wp2_with (first
      |(go_at_call 56;refine HCh.1.mono ?_;rintro e w' ⟨rfl,rfl⟩)
      |(refine qm rfl 23 (.tmp 8) rfl w4.heap.size rfl _ z HA.1 _ underlying23 rfl (by rw[qR,HZl.1]) ?_)
      |(go_at_call 57;refine(HDv.1).mono ?_;rintro e w6 ⟨rfl,hb6⟩;have HB6:=qe hb6;have HA6:=qe (HA.1.below hb6 HA.1.lt);have HZ6:=qe (HZ.1.below hb6 HZ.1.lt);have HO6:=qe (HO.1.below hb6 (QI _));clear hb6)
      |(refine qk rfl 23 (.tmp 8) (.tmp 55) rfl w4.heap.size rfl (vB z kh) rfl _ _ HA6.1 (by rw[HZl.1,jl]) (by rw[qR,jl]) qU ?_;intro w7 hx7 hg7;have HX7:=qe hx7;have HG7:=qe hg7;clear hx7 hg7))
     go_roundw
     case rel=>exact⟨0,vB z kh,by first|rfl|simp,by omega,jl _ _,HX7.1,by rw[←HDn.1];unfold y8;rw[if_pos rfl,←HPp.1,←HCl.1,if_neg Hc.1],HZ6.1.grown HG7.1 (fun e=>by injection e with e;omega),HO6.1.kept HG7.1 (.inr (fun e=>by injection e with e;have e2:g=w4.heap.size:=e;omega)),(HB.1.trans (HB6.1.mono HB.1.size)).grown HG7.1 (by have:=HB6.1.size;have:=HB.1.size;omega) (fun k e=>by cases e;omega)⟩
     case measure=>simp[intOf]<;>omega
   ·obtain⟨q,hq⟩:∃q,r=q+1:=⟨r-1,by omega⟩
    have hLq:q<L.length:=by omega
    have c2:=(HO.1.at_ (k:=q) hLq).1;have hqe:L[q]=L.getD q 0:=by rw[QR,QT hLq];rfl
    rw[hqe]at c2;unfold uZ at c2;obtain⟨pq,hpq⟩:∃pq,pq=L.getD q 0:=⟨_,rfl⟩;rw[←hpq]at c2;have HPq:=qe hpq;have HQ:=qe hq;have hrq:(r:Int)-1=(q:Int):=by omega
    have hr1:(0:Int)<(r:Int):=by omega
    have hqm:(q:Int)<(m:Int):=by omega
    clear hqe hpq hq;by_cases hc:pq=cl
    ·have hce:(pq==cl)=true:=by simpa using hc
     have Hc:=qe hc;clear hc;have HDv:=qe (qad wr z HZl.1 ⟨#[108,101,102,116]⟩ uF qfM (by decide));rw[qn,qn]at HDv;go_wp2_with (first
      |(go_at_call 56;refine HCh.1.mono ?_;rintro e w' ⟨rfl,rfl⟩)
      |(refine qm rfl 23 (.tmp 8) rfl w4.heap.size rfl _ z HA.1 _ underlying23 rfl (by rw[qR,HZl.1]) ?_)
      |(go_at_call 57;refine(HDv.1).mono ?_;rintro e w6 ⟨rfl,hb6⟩;have HB6:=qe hb6;have HA6:=qe (HA.1.below hb6 HA.1.lt);have HZ6:=qe (HZ.1.below hb6 HZ.1.lt);have HO6:=qe (HO.1.below hb6 (QI _));clear hb6)
      |(refine qk rfl 23 (.tmp 8) (.tmp 53) rfl w4.heap.size rfl (vB z uF) rfl _ _ HA6.1 (by rw[HZl.1,jl]) (by rw[qR,jl]) qU ?_;intro w7 hx7 hg7;have HX7:=qe hx7;have HG7:=qe hg7;clear hx7 hg7))
     go_roundw
     case rel=>exact⟨r,vB z uF,by rw[hrq],by omega,jl _ _,HX7.1,by rw[←HDn.1];unfold y8;rw[if_neg hr0,HQ.1,Zn,←HPq.1,←HQ.1,←HPp.1,←HCl.1,if_pos Hc.1],HZ6.1.grown HG7.1 (fun e=>by injection e with e;omega),HO6.1.kept HG7.1 (.inr (fun e=>by injection e with e;have e2:g=w4.heap.size:=e;omega)),(HB.1.trans (HB6.1.mono HB.1.size)).grown HG7.1 (by have:=HB6.1.size;have:=HB.1.size;omega) (fun k e=>by cases e;omega)⟩
     case measure=>simp[intOf]<;>omega
    ·have hce:(pq==cl)=false:=by simpa using hc
     have Hc:=qe hc;clear hc;have HDv:=qe (qad wr z HZl.1 ⟨#[114,105,103,104,116]⟩ kh qdS (by decide));rw[qn,qn]at HDv;go_wp2_with (first
      |(go_at_call 56;refine HCh.1.mono ?_;rintro e w' ⟨rfl,rfl⟩)
      |(refine qm rfl 23 (.tmp 8) rfl w4.heap.size rfl _ z HA.1 _ underlying23 rfl (by rw[qR,HZl.1]) ?_)
      |(go_at_call 57;refine(HDv.1).mono ?_;rintro e w6 ⟨rfl,hb6⟩;have HB6:=qe hb6;have HA6:=qe (HA.1.below hb6 HA.1.lt);have HZ6:=qe (HZ.1.below hb6 HZ.1.lt);have HO6:=qe (HO.1.below hb6 (QI _));clear hb6)
      |(refine qk rfl 23 (.tmp 8) (.tmp 55) rfl w4.heap.size rfl (vB z kh) rfl _ _ HA6.1 (by rw[HZl.1,jl]) (by rw[qR,jl]) qU ?_;intro w7 hx7 hg7;have HX7:=qe hx7;have HG7:=qe hg7;clear hx7 hg7))
     go_roundw
     case rel=>exact⟨r,vB z kh,by rw[hrq],by omega,jl _ _,HX7.1,by rw[←HDn.1];unfold y8;rw[if_neg hr0,HQ.1,Zn,←HPq.1,←HQ.1,←HPp.1,←HCl.1,if_neg Hc.1],HZ6.1.grown HG7.1 (fun e=>by injection e with e;omega),HO6.1.kept HG7.1 (.inr (fun e=>by injection e with e;have e2:g=w4.heap.size:=e;omega)),(HB.1.trans (HB6.1.mono HB.1.size)).grown HG7.1 (by have:=HB6.1.size;have:=HB.1.size;omega) (fun k e=>by cases e;omega)⟩
     case measure=>simp[intOf]<;>omega
end
end Go.Proofs.YtelgjaiknaalkaaGreatDoor
