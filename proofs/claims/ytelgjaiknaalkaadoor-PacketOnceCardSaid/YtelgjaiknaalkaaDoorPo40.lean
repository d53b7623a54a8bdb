/- Lemmas, joined and made smaller by a program. -/
import Derived.Test.YtelgjaiknaalkaaDoorPo39
import Derived.Test.YtelgjaiknaalkaaDoorPo19
import Derived.Test.YtelgjaiknaalkaaDoorPo09
open Go.Lib renaming hid → qq
set_option linter.unusedVariables false
set_option linter.unusedSimpArgs false
namespace Go.Proofs.YtelgjaiknaalkaaDoor
open Go.RowKit
set_option maxRecDepth 100000
theorem infoPkZ:(Tryd.prog.info? 35).map (fun i=>(i.zero,i.size,i.bytes))=some (some (.agg pkZ.toArray),36,80):=by kernel_rfl
theorem pk_info:∃i,Tryd.prog.info? 35=some i∧i.zero=some (.agg pkZ.toArray)∧i.size=36∧i.bytes=80:=by
 have h:=infoPkZ
 cases hq:Tryd.prog.info? 35 with
 |none=>rw[hq]at h;cases h
 |some i=>
  rw[hq]at h
  simp only[Option.map_some,Option.some.injEq,Prod.mk.injEq]at h
  exact⟨i,rfl,h.1,h.2.1,h.2.2⟩
theorem built_sec(v:BitVec 8):Tryd.prog.built 29 [(0,b8 v),(1,.int .u8 1)]=some ((v::1#8::List.replicate 30 0#8).map b8).toArray:=by kernel_rfl
theorem idx6(a:Int):∃i:Nat,i<6∧wrap64 ((IntKind.u64.wrap a).tmod 6)=(i:Int):=by
 have e:IntKind.u64.wrap a=a % 18446744073709551616:=rfl
 rw[e]
 have h0:0≤a % 18446744073709551616:=Int.emod_nonneg _ (by decide)
 rw[Int.tmod_eq_emod_of_nonneg h0]
 generalize a % 18446744073709551616=b at h0
 refine⟨(b % 6).toNat,by omega,?_⟩
 unfold wrap64
 omega
theorem idxN(a:Int)(N:Nat)(hN:0<N)(hN':N<1000):∃i:Nat,i<N∧wrap64 ((IntKind.u64.wrap a).tmod (N:Int))=(i:Int):=by
 have e:IntKind.u64.wrap a=a % 18446744073709551616:=rfl
 rw[e]
 have h0:0≤a % 18446744073709551616:=Int.emod_nonneg _ (by decide)
 rw[Int.tmod_eq_emod_of_nonneg h0]
 generalize a % 18446744073709551616=b at h0
 have h1:0≤b % (N:Int):=Int.emod_nonneg _ (by omega)
 have h2:b % (N:Int)<(N:Int):=Int.emod_lt_of_pos _ (by omega)
 refine⟨(b % (N:Int)).toNat,by omega,?_⟩
 generalize b % (N:Int)=q at h1 h2
 unfold wrap64
 omega
theorem b8_small{k:Nat}(hk:k<8):b8 (BitVec.ofNat 8 k)= .int .u8 (k:Int):=by
 obtain rfl|rfl|rfl|rfl|rfl|rfl|rfl|rfl:k=0∨k=1∨k=2∨k=3∨k=4∨k=5∨k=6∨k=7:=by omega
 all_goals rfl
theorem built_sec2{k:Nat}(hk:k<8):Tryd.prog.built 29 [(0,.int .u8 (k:Int)),(1,.int .u8 1)]=some ((sec2 k).map b8).toArray:=by rw[←b8_small hk];exact built_sec _
def TimesO(E M:Nat)(L:Nat→LineM)(T:List Int):Prop:=T.length=E*M∧∀i,i<E*M→E≤i/M+4→T[i]?=some (if((i % M:Nat):Int)∈ (L (i/M)).asked then 1 else 0)
theorem TimesO.start(E M:Nat):TimesO E M (fun k=>startL (zO k)) (List.replicate (E*M) 0):=⟨by simp,fun i hi _=>by rw[List.getElem?_replicate,if_pos hi];rfl⟩
theorem TimesO.more{E M i:Nat}{L:Nat→LineM}{T:List Int}(h:TimesO E M L T)(hi:i<E*M){l:LineM}(hl:l.asked=(L (i/M)).asked++ [((i % M:Nat):Int)]):TimesO E M (updL L (i/M) l) (T.set i 1):=by
 refine⟨by rw[List.length_set];exact h.1,fun j hj ho=>?_⟩
 rw[List.getElem?_set]
 by_cases e:i=j
 ·subst e
  rw[if_pos rfl,if_pos (by rw[h.1];exact hi),updL_same,hl,if_pos (by simp)]
 ·rw[if_neg e,h.2 j hj ho]
  by_cases e2:j/M=i/M
  ·rw[e2,updL_same,hl]
   have hne:¬((j % M:Nat):Int)=((i % M:Nat):Int):=fun e3=>by
    have h1:=Nat.div_add_mod i M
    have h2:=Nat.div_add_mod j M
    rw[e2]at h2
    omega
   have hmm:((j % M:Nat):Int)∈ (L (i/M)).asked++ [((i % M:Nat):Int)]↔((j % M:Nat):Int)∈ (L (i/M)).asked:=by
    rw[List.mem_append,List.mem_singleton]
    exact⟨fun h=>h.elim id (fun h=>absurd h hne),.inl⟩
   by_cases hm:((j % M:Nat):Int)∈ (L (i/M)).asked
   ·rw[if_pos hm,if_pos (hmm.2 hm)]
   ·rw[if_neg hm,if_neg (fun h=>hm (hmm.1 h))]
  ·rw[updL_other _ _ e2]
theorem run_mk_ints(N:Nat)(hN:N≤1000)(w:World):(Instr.makeSlice 22 (.int .i64 (N:Int)) (.int .i64 (N:Int))).run Tryd.prog w= .ok (.slice (some ⟨w.heap.size,0,none⟩) N N) (w.alloc (.cells ((List.replicate N (0:Int)).map i64v).toArray 3)):=by
 obtain⟨i0,hi0,hz0,hz1,hz2⟩:=info_parts infoInt
 have h:=run_make (P:=Tryd.prog) w 22 3 i0 _ Tryd.underlying22 hi0 hz0 .i64 .i64 (N:Int) (N:Int) (by omega) (by omega) (by rw[hz2];omega) (by omega)
 rw[hz1,Int.toNat_natCast,Nat.mul_one]at h
 rw[h]
 have e:madeCells (Value.int .i64 0).cells N=((List.replicate N (0:Int)).map i64v).toArray:=by
  have h2:=toList_madeCells_one (Value.int .i64 0) N
  rw[List.map_replicate]
  exact Array.ext' h2
 rw[e]
theorem es_len{b:BX}{M:BM}(h:b.m=M):b.es.length=M.es.length:=by rw[←h];simp[BX.m]
def PkIn(M:Nat)(ss:List SP):Prop:=∀(i:Nat) (s:SP),ss[i]?=some s→s.p=pkO (i/M) (i % M)
theorem PkIn.push{M k j:Nat}{ss:List SP}{s:SP}(h:PkIn M ss)(hj:j<M)(hl:ss.length=k*M+j)(hs:s.p=pkO k j):PkIn M (ss++ [s]):=by
 intro i x hx
 rcases Nat.lt_or_ge i ss.length with h1|h1
 ·rw[List.getElem?_append_left h1]at hx;exact h i x hx
 ·rw[List.getElem?_append_right h1]at hx
  have h2:i-ss.length=0:=by
   have:=(List.getElem?_eq_some_iff.1 hx).1
   simp at this;omega
  rw[h2]at hx
  have h3:s=x:=by simpa using hx
  have h4:i=k*M+j:=by omega
  rw[←h3,hs,h4,Nat.mul_comm k M,Nat.mul_add_div (by omega),Nat.div_eq_of_lt hj,Nat.add_zero,Nat.mul_add_mod,Nat.mod_eq_of_lt hj]
set_option maxHeartbeats 16000000 in
theorem packetOnce_walk(ep:Int)(mn:Int)(A:Option Addr)(n c:Nat)(xs:List Int)(w:World)(hr:Rd (Value.int .i64) w w.heap.size A xs)(hn:xs.length=n)(hT:Tab w):
 Calls Tryd.prog 3 #[.int .i64 ep,.int .i64 mn,.slice A n c] w fun e w'=>e= .returned (.bool true)∧Below w.heap.size w w':=by
 have HR:=qq hr
 have HN:=qq hn
 have HAl:=qq (alive23_any w hT)
 have HTb:=qq (show∀W,Below w.heap.size w W→Tab W from fun W hb=>hT.below hb)
 have hbase:=hT.lt
 clear hr hn hT
 by_cases hbig:100<n
 ·have hb':(n:Int)>100:=by omega
  clear hbig
  go_enter Tryd.func3,Tryd.ntmps3
  go_wp2_with fail
  refine HAl.out.mono ?_
  rintro e w2 ⟨rfl,hb2⟩
  have HB2:=qq hb2
  clear hb2
  go_wp2_with fail
  go_ret
  exact⟨rfl,HB2.out⟩
 have hb':¬((n:Int)>100):=by omega
 obtain⟨E,hE0,hE6,haE⟩:∃E:Nat,0<E∧E≤6∧wrap64 (1+wrap64 ((IntKind.u64.wrap ep).tmod 6))=(E:Int):=by
  obtain⟨i,hi,h⟩:=idx6 ep
  refine⟨i+1,by omega,by omega,?_⟩
  rw[h];unfold wrap64;omega
 obtain⟨M,hM0,hM8,haM⟩:∃M:Nat,0<M∧M≤8∧wrap64 (1+wrap64 ((IntKind.u64.wrap mn).tmod 8))=(M:Int):=by
  obtain⟨i,hi,h⟩:=idx8 mn
  refine⟨i+1,by omega,by omega,?_⟩
  rw[h];unfold wrap64;omega
 have HaE:=qq haE
 have HaM:=qq haM
 clear haE haM
 go_enter Tryd.func3,Tryd.ntmps3
 go_wp2_with fail
 refine HAl.out.mono ?_
 rintro e w1 ⟨rfl,hb1⟩
 have HB1:=qq hb1
 have hz1:=hb1.size
 clear hb1 HAl
 go_upto_region 6 with fail
 rw[HaE.out,HaM.out]
 go_wp2_with fail
 refine(boxNew_any _).mono ?_
 rintro e w2 ⟨rfl,hA,hk1⟩
 have HA:=qq hA
 have HK1:=qq hk1
 have hz2:=hA.gB_lt
 clear hA hk1
 go_wp2_with fail
 refine(boxNew_any _).mono ?_
 rintro e w3 ⟨rfl,hB,hk2⟩
 have hz3:=hB.gB_lt
 obtain⟨gA,hgA⟩:∃g,g=w1.heap.size:=⟨_,rfl⟩
 obtain⟨gB,hgB⟩:∃g,g=w2.heap.size:=⟨_,rfl⟩
 have HT3:=qq (show TwoAt w3 w.heap.size gA gB _ _ from by rw[hgA,hgB];exact TwoAt.fresh HA.out hB (Nat.le_refl _) (by omega) hk2)
 have HK3:=qq ((HB1.out.trans (HK1.out.mono HB1.out.size)).trans (hk2.mono (by have:=HK1.out.size;omega)))
 rw[←hgA,←hgB]
 clear hB hk2 HA HK1 hgA hgB
 go_upto_region 8 with fail
 obtain⟨w4,hw4⟩:∃w4,w4=w3.alloc (.cells #[] 35):=⟨_,rfl⟩
 have HO4:=qq (show OnceAt w w4 gA gB w4.heap.size ⟨List.replicate 32 0#8,.slice none 0 0,[],false⟩ ⟨List.replicate 32 0#8,.slice none 0 0,[],false⟩ (.slice (some ⟨w3.heap.size,0,none⟩) 0 0) []from by
  have hb4:Below w3.heap.size w3 w4:=by rw[hw4];exact(Below.refl _ w3).alloc (Nat.le_refl _) _
  refine⟨HT3.out.below hb4,⟨?_,(fun s hs=>by cases hs),(fun s hs=>by cases hs),(fun s hs=>by cases hs),Nat.le_refl _,(fun s hs=>by cases hs),fun g hg hm=>?_⟩,HK3.out.trans (hb4.mono HK3.out.size)⟩
  ·rw[hw4]
   have h:=World.ownsRow_lit (base:=w.heap.size) (e:=35) (size:=36) w3 #[] 0 HK3.out.size (by decide) (by simp)
   simpa using h
  ·injection hg with hg
   have hg':w3.heap.size=g:=hg
   rcases List.mem_append.1 hm with h1|h1
   ·have:=(HT3.out.l.foot_lt _ h1).2;omega
   ·have:=(HT3.out.r.foot_lt _ h1).2;omega)
 rw[←hw4]
 clear hw4 HT3 HK3 HB1
 go_wp2_with fail
 go_loopw [9,42] (fun sv iv wr=>∃(k:Nat) (a b:BX) (ss:List SP) (L:Nat→LineM) (top:Nat),iv= .int .i64 (k:Int)∧k≤E∧OnceAt w wr gA gB top a b sv ss∧a.m=bO k 0 L∧b.m=bO k 3 (fun k=>startL (zO k))∧ss.length=k*M∧PkIn M ss) (fun _ iv _=>E-(intOf iv).toNat)
 case atStart=>exact⟨0,_,_,[],fun k=>startL (zO k),_,rfl,by omega,HO4.out,rfl,rfl,by simp,fun i s h=>by simp at h⟩
 case round=>
  clear HO4
  obtain⟨k,a,b,ss,L,top,rfl,hk,hO,hma,hmb,hsl,hpk⟩:=hrel
  have HO:=qq hO
  have HMa:=qq hma
  have HMb:=qq hmb
  have HSl:=qq hsl
  have HPk:=qq hpk
  by_cases hlt:k<E
  ·
   have lk:(k:Int)<(E:Int):=by omega
   have k8:IntKind.u8.wrap (k:Int)=(k:Int):=by show(k:Int) % 256=k;omega
   obtain⟨S,hS⟩:∃S,S=sec2 k:=⟨_,rfl⟩
   have HBs:=qq (built_sec2 (k:=k) (by omega))
   rw[←hS]at HBs
   have HSe:=qq hS
   have HSn:=qq (show S.length=32 by rw[hS];exact sec2_len k)
   clear hS
   have hb5:∀w:World,(Instr.build 29 #[(0,Value.int .u8 5)]).run Tryd.prog w= .ok (.agg ((exG 5#8).map b8).toArray) w:=fun w=>run_build w _ _ _ (by kernel_rfl)
   have HZs:=qq (Arr.new b8 wr 29 (List.replicate 32 0#8))
   clear hO hma hmb hsl hpk
   go_upto_region 12 with(first
    |(refine wpList_bparts rfl 29 [(0,.tmp 46),(1,.const (.int .u8 1))] rfl (S.map b8).toArray [(0,.int .u8 (k:Int)),(1,.int .u8 1)] rfl HBs.out ?_)
    |(refine wpList_store_arr rfl 29 (.tmp 11) (.tmp 47) rfl wr.heap.size rfl S rfl _ _ HZs.out (by rw[HSn.out];rfl) (by rw[size32,HSn.out]) b8_one' ?_;intro w5 hx5 hg5))
   have HK5:=qq (show Below wr.heap.size wr w5 from((Below.refl _ wr).alloc (Nat.le_refl _) (.cells ((List.replicate 32 0#8).map b8).toArray 29)).grown hg5 (by simp) (fun k e=>by cases e;exact Nat.le_refl _))
   have HO5:=qq (HO.out.below HK5.out)
   have HS5:=qq hx5
   clear hx5 hg5 HZs
   obtain⟨gs,hgs⟩:∃g,g=wr.heap.size:=⟨_,rfl⟩
   rw[←hgs]at HS5 ⊢
   have HGs:=qq hgs
   clear hgs
   have e1:=enter_step HO5.out.two.l (by rw[es_len HMa.out];exact bO_len L (by omega)) (HTb.out _ HO5.out.bl) hbase (exG 5#8) S (exG_len _) HSn.out (k:Int) 4 0 (by decide) (by decide)
   have m1:=bO_enter (lf:=0) L (show k<6 by omega) (by decide)
   rw[HMa.out]at e1
   rw[show((0:Nat):Int)=0 from rfl,←HSe.out]at m1
   rw[m1.1,m1.2,errV_zero,arrV_mk,arrV_mk]at e1
   have HE1:=qq e1
   clear e1 m1
   go_wp2_with (refine wpList_load_arr rfl 29 (.tmp 11) rfl gs rfl _ S HS5.out _ Tryd.underlying29 rfl (by rw[size32,HSn.out]) ?_)
   refine HE1.out.mono ?_
   rintro e w6 ⟨rfl,a6,hm6,hs6⟩
   have HO6:=qq (HO5.out.left hs6)
   have HMa6:=qq hm6
   have HS6:=qq (show Arr b8 w6 gs 29 S from(hs6.frm.block gs HS5.out.lt (fun hm=>by have:=(HO.out.two.l.foot_lt _ hm).2;have:=HGs.out;omega)).trans HS5.out)
   clear hm6 hs6 HE1
   have e1:=enter_step HO6.out.two.r (by rw[es_len HMb.out];exact bO_len _ (by omega)) (HTb.out _ HO6.out.bl) hbase (exG 5#8) S (exG_len _) HSn.out (k:Int) 4 3 (by decide) (by decide)
   have m1:=bO_enter (lf:=3) (fun k=>startL (zO k)) (show k<6 by omega) (by decide)
   rw[HMb.out]at e1
   rw[show((3:Nat):Int)=3 from rfl,←HSe.out,updL_start]at m1
   rw[m1.1,m1.2,errV_zero,arrV_mk,arrV_mk]at e1
   have HE2:=qq e1
   clear e1 m1
   go_wp2_with (refine wpList_load_midw (by first|rfl|go_simp) 29 (.tmp 11) rfl gs 0 rfl (S.map b8) _ HS6.out.whole Tryd.underlying29 rfl (by rw[List.length_map,HSn.out];exact size32) ?_)
   refine HE2.out.mono ?_
   rintro e w7 ⟨rfl,b7,hm7,hs7⟩
   have HO7:=qq (HO6.out.right hs7)
   have HMb7:=qq hm7
   clear hm7 hs7 HE2 HS6 HS5 HO5 HO6 HGs HBs HSe HSn
   obtain⟨L7,hL7⟩:∃L7,L7=updL L k (startL (zO k)):=⟨_,rfl⟩
   have HLk:=qq (show L7 k=lineJ (zO k) 0 by rw[hL7,updL_same];rfl)
   rw[←hL7]at HMa6
   clear hL7
   go_upto_region 15 with fail
   go_loopw [9,63] (fun sv iv wr=>∃(j:Nat) (a:BX) (ss:List SP) (L:Nat→LineM) (top:Nat),iv= .int .i64 (j:Int)∧j≤M∧OnceAt w wr gA gB top a b7 sv ss∧a.m=bO (k+1) 0 L∧L k=lineJ (zO k) j∧ss.length=k*M+j∧PkIn M ss) (fun _ iv _=>M-(intOf iv).toNat)
   case atStart=>exact⟨0,a6,ss,L7,top,rfl,by omega,HO7.out,HMa6.out,HLk.out,by rw[HSl.out];rfl,HPk.out⟩
   case round=>
    clear HO7 HMa6 HLk HSl HPk HO HMa HMb
    obtain⟨j,a8,ss8,L8,top8,rfl,hj,hO8,hm8,hl8,hs8,hp8⟩:=hrel
    have HO8:=qq hO8
    have HMa8:=qq hm8
    have HLk8:=qq hl8
    have HSl8:=qq hs8
    have HPk8:=qq hp8
    clear hO8 hm8 hl8 hs8 hp8
    by_cases hjM:j<M
    ·have lj:(j:Int)<(M:Int):=by omega
     have j8:IntKind.u8.wrap (j:Int)=(j:Int):=by show(j:Int) % 256=j;omega
     have hsz:=HO8.out.bl.size
     have HSd:=qq (bO_seal L8 (show k<6 by omega) (show j≤8 by omega) HLk8.out)
     obtain⟨txt,htx⟩:∃t:List (BitVec 8),t=[BitVec.ofNat 8 k,BitVec.ofNat 8 j]:=⟨_,rfl⟩
     have HTx:=qq (show(txt.map b8).toArray= #[Value.int .u8 (k:Int),Value.int .u8 (j:Int)] by rw[htx];simp only[List.map_cons,List.map_nil,b8_small (show k<8 by omega),b8_small (show j<8 by omega)])
     obtain⟨wb,hwb⟩:∃wb,wb=wr.alloc (.cells (txt.map b8).toArray 5):=⟨_,rfl⟩
     have hkb:Below wr.heap.size wr wb:=by rw[hwb];exact(Below.refl _ wr).alloc (Nat.le_refl _) _
     have HOb:=qq (HO8.out.below hkb)
     have hzb:wb.heap.size=wr.heap.size+1:=by rw[hwb];simp
     obtain⟨P,hP⟩:∃P,P=pkO k j:=⟨_,rfl⟩
     have HPl:=qq (show P.sl.length=18 by rw[hP];exact pkO_len k j)
     have HPg:=qq (show P.grp.length=32 by rw[hP];exact exG_len _)
     have s1:=seal_step (w:=wb) HOb.out.two.l (some ⟨wr.heap.size,0,none⟩) 2 2 (wr.heap.size+1) txt (by rw[hwb];exact Rd.new b8 wr 5 txt) (by omega) (fun bt off e hm=>by
      injection e with e;injection e with e _ _
      subst e
      have:=(HO8.out.two.l.foot_lt _ (BX.efoot_sub _ _ _ hm)).2;omega) (by rw[htx];rfl) (P:=P) (by rw[HMa8.out,htx,hP];exact HSd.out.2.1.symm)
     rw[HMa8.out,HSd.out.1,HSd.out.2.2,errV_zero]at s1
     have HS1:=qq s1
     have HP:=qq hP
     rw[HTx.out]at hwb
     have HWb:=qq hwb
     clear s1 hP hwb hkb htx
     go_wp2_with fail
     rw[←HWb.out]
     refine HS1.out.mono ?_
     rintro e w5 ⟨A',n',c',rfl,hOw,a5,hm5,hs5,hn5⟩
     obtain⟨A5,c5,e5,hr5,-,hc5,-⟩:=hOw.shape' HPl.out
     injection e5 with e4 e5 e6
     subst e4
     subst e5
     have HO5:=qq (HOb.out.left hs5)
     have HMa5:=qq hm5
     have hcc:18≤c':=by rw[e6];exact hc5
     have HR5:=qq hOw.rd
     have HAb:=qq (show∀bt o,A'=some ⟨bt,o,none⟩→wb.heap.size≤bt∧bt<w5.heap.size∧bt∉BX.foot gA a5 from fun bt o e=>⟨(hOw.lt bt (by rw[e];rfl)).1,(hOw.lt bt (by rw[e];rfl)).2,hn5 bt (by rw[e];rfl)⟩)
     have hz5:=hs5.frm.size
     obtain⟨C,hC⟩:∃C,C=packetC P.grp P.ep P.fr P.nu A' 18 c':=⟨_,rfl⟩
     have HCl:=qq (show C.length=36 by rw[hC];exact pkC_len HPg.out _ _ _ _ _ _)
     have HC1:=qq (show∀u∈C,u.oneCell'=true by rw[hC];exact pkC_one _ _ _ _ _ _ _)
     have HC:=qq hC
     rw[←hC]
     have HZ5:=qq (show Blk (w5.alloc (.cells pkZ.toArray 35)) w5.heap.size 35 pkZ from Blk.new _ _ _)
     clear hOw hr5 e6 hc5 hm5 hs5 hn5 hC HS1 HWb HTx HSd
     go_upto_region 18 with(refine wpList_store_piece rfl 35 (.tmp 13) (.tmp 74) rfl w5.heap.size 0 rfl C rfl 35 _ [] pkZ [] HZ5.out (by simp) rfl (by rw[HCl.out];rfl) (by rw[HCl.out];exact sizePk) HC1.out ?_;intro w6 hx6 hg6)
     have HP6:=qq (show Blk w6 w5.heap.size 35 C from hx6.cast (by simp))
     have hb6:Below w5.heap.size w5 w6:=((Below.refl _ w5).alloc (Nat.le_refl _) (.cells pkZ.toArray 35)).grown hg6 (by simp) (fun k e=>by cases e;exact Nat.le_refl _)
     have HO6:=qq (HO5.out.below hb6)
     have HR6:=qq ((HR5.out.below hb6).more hb6.size)
     have hz6:=hb6.size
     clear hx6 hg6 hb6 HZ5
     obtain⟨ip,hip,hpz,hps,hpb⟩:=pk_info
     obtain⟨w7,hw7⟩:∃w7,w7=w6.alloc (.cells C.toArray 35):=⟨_,rfl⟩
     have hb7:Below w6.heap.size w6 w7:=by rw[hw7];exact(Below.refl _ w6).alloc (Nat.le_refl _) _
     have HO7:=qq (HO6.out.below hb7)
     have HR7:=qq ((HR6.out.below hb7).more hb7.size)
     have HRn:=qq (show RdV w7 (w6.heap.size+1) (some ⟨w6.heap.size,0,none⟩) C by rw[hw7];exact rdV_new w6 35 C)
     have hz7:=hb7.size
     have hzw:=HO7.out.bl.size
     have HW7:=qq hw7
     have hlen:ss8.length≤47:=by
      have h1:=HSl8.out
      have h2:k*M≤5*8:=Nat.mul_le_mul (by omega) hM8
      omega
     clear hw7 hb7
     go_upto_region 21 with(first
      |(refine wpList_load_mid rfl 35 (.tmp 13) rfl w5.heap.size 0 rfl C _ HP6.out.whole Tryd.underlying35 rfl (by rw[HCl.out];exact sizePk) ?_)
      |(refine wpList_box_slice rfl 27 35 (.tmp 79) rfl ip (.agg pkZ.toArray) 36 C.toArray rfl (by simpa using HCl.out) (by omega) (by omega) Tryd.underlying27 hip hpz hps rfl ?_;rw[←HW7.out])
      |(at_builtin;refine wpList_append_row rfl (.tmp 78) (.tmp 80) 27 rfl 36 (by omega) w.heap.size 35 ip (.agg pkZ.toArray) 80 Tryd.underlying27 hip hpz hps hpb rfl _ _ _ rfl HO7.out.sent.row (w6.heap.size+1) (some ⟨w6.heap.size,0,none⟩) 1 1 C rfl (by rw[HCl.out]) (by omega) HRn.out HC1.out (by simp only[maxLen];omega) (by omega) hzw ?_;intro v9 w9 hown9 hg9 hbb9))
     have HO9:=qq (show OnceAt w w9 gA gB w7.heap.size a5 b7 v9 (ss8++ [⟨P,A',c'⟩])from HO7.out.push (s:=⟨P,A',c'⟩) HO7.out.sent.tle (Nat.le_refl _) HPg.out HR7.out (by show P.sl.length≤c';rw[HPl.out];exact hcc)
      (fun bt o e=>by
       obtain⟨h1,h2,h3⟩:=HAb.out bt o e
       exact⟨h3,fun hm=>by have:=(HOb.out.two.r.foot_lt _ hm).2;omega,by omega,fun hv=>by have:=(row_in HOb.out.sent.row hv).2.1;omega⟩)
      (by
       have h:=hown9
       rw[HC.out]at h
       unfold SP.cells at h ⊢
       dsimp only
       rw[HPl.out];exact h) hg9)
     have hln:(ss8++ [(⟨P,A',c'⟩:SP)]).length=k*M+(j+1):=by rw[List.length_append,HSl8.out];rfl
     have HPk9:=qq (HPk8.out.push (s:=⟨P,A',c'⟩) hjM HSl8.out HP.out)
     clear hown9 hg9 hbb9 HO7 HR7 HRn HW7 HP6 HO6 HR6 HOb
     go_wp2_with fail
     go_roundw
     case rel=>exact⟨j+1,a5,_,_,_,by go_num,by omega,HO9.out,HMa5.out,updL_same _ _ _,hln,HPk9.out⟩
     case measure=>simp[intOf]<;>omega
    ·obtain rfl:j=M:=by omega
     have lj:¬((j:Int)<(j:Int)):=by omega
     have hln:ss8.length=(k+1)*j:=by rw[HSl8.out,Nat.add_mul,Nat.one_mul]
     go_wp2_with fail
     go_roundw
     case rel=>exact⟨k+1,a8,b7,ss8,L8,top8,by go_num,by omega,HO8.out,HMa8.out,HMb7.out,hln,HPk8.out⟩
     case measure=>simp[intOf]<;>omega
  ·obtain rfl:k=E:=by omega
   have lk:¬((k:Int)<(k:Int)):=by omega
   have hlen:ss.length≤48:=by
    have h2:k*M≤6*8:=Nat.mul_le_mul hE6 hM8
    omega
   obtain⟨As,cs,rfl,-,-,-,-⟩:=rowS_shape hO.sent.row
   obtain⟨N,hNe⟩:∃N,N=ss.length:=⟨_,rfl⟩
   have HNe:=qq hNe
   have HNk:=qq (show N=k*M by rw[hNe];exact hsl)
   have hN48:N≤48:=by omega
   have hN0:0<N:=by rw[HNk.out];exact Nat.mul_pos hE0 hM0
   have hmk:=run_mk_ints N (by omega)
   obtain⟨gT,hgT⟩:∃g,g=wr.heap.size:=⟨_,rfl⟩
   obtain⟨wt,hwt⟩:∃wt,wt=wr.alloc (.cells (Array.replicate N (i64v 0)) 3):=⟨_,rfl⟩
   have HAt:=qq (show Arr i64v wt gT 3 (List.replicate N 0) by rw[hwt,hgT];have h:=Arr.new i64v wr 3 (List.replicate N 0);simpa using h)
   have HOt:=qq (show OnceAt w wt gA gB gT a b (.slice As N cs) ss from by
    have h1:=hO.below (show Below wr.heap.size wr wt by rw[hwt];exact(Below.refl _ wr).alloc (Nat.le_refl _) _)
    rw[hNe]
    refine⟨h1.two,⟨h1.sent.row,h1.sent.glen,fun s hs=>(h1.sent.rd s hs).more (by rw[hgT];exact hO.sent.tle),h1.sent.cap,by rw[hgT,hwt];simp,fun s hs bt o e=>?_,h1.sent.own⟩,h1.bl⟩
    obtain⟨b1,b2,b3⟩:=h1.sent.off s hs bt o e
    exact⟨b1,by have:=hO.sent.tle;omega,b3⟩)
   have HWt:=qq hwt
   have HGt:=qq hgT
   have hgw:w.heap.size≤gT:=by rw[hgT];exact hO.bl.size
   rw[←hNe]
   clear hO hma hmb hsl hpk hwt hgT hNe HO
   go_upto_region 24 with fail
   rw[←HGt.out,←HWt.out]
   clear hmk
   go_upto_region 25 with fail
   go_loopw [89] (fun iv wr=>∃(j:Nat) (b:BX) (L:Nat→LineM) (T:List Int),iv= .int .i64 (j:Int)∧j≤n∧OnceAt w wr gA gB gT a b (.slice As N cs) ss∧b.m=bO k 3 L∧(∀e,LinO e (L e))∧TimesO k M L T∧Arr i64v wr gT 3 T) (fun iv _=>n-(intOf iv).toNat)
   case atStart=>exact⟨0,b,_,_,rfl,by omega,HOt.out,HMb.out,LinO.start,by rw[HNk.out];exact TimesO.start k M,HAt.out⟩
   case round=>
    clear HOt HAt
    obtain⟨j,b,L4,T,rfl,hj,hO,hmb,hLin,hTi,hAr⟩:=hrel
    have HO:=qq hO
    have HMb:=qq hmb
    have HLin:=qq hLin
    have HTi:=qq hTi
    have HAr:=qq hAr
    by_cases hlt:j<n
    ·have hjl:j<xs.length:=by rw[HN.out];exact hlt
     obtain⟨b0,o0,rfl,hB0,hc0⟩:=(HR.out.below hO.bl).at_ hjl
     generalize xs[j]=x at hc0
     have lj:(j:Int)<(n:Int):=by omega
     clear hO hmb hLin hTi hAr
     have hwN:IntKind.u64.wrap (N:Int)=(N:Int):=by show(N:Int) % 18446744073709551616=N;omega
     obtain⟨i,hi,hidx⟩:=idxN x N hN0 (by omega)
     have HIdx:=qq hidx
     clear hidx
     go_upto_region 28 with fail
     try rw[hwN]
     rw[HIdx.out]
     obtain⟨s,hs⟩:∃s,ss[i]?=some s:=⟨ss[i]'(by rw[←HNe.out];exact hi),List.getElem?_eq_getElem _⟩
     have hsp:=HPk.out i s hs
     obtain⟨P,hP⟩:∃P,P=s.p:=⟨_,rfl⟩
     obtain⟨e,he⟩:∃e,e=i/M:=⟨_,rfl⟩
     obtain⟨m,hm⟩:∃m,m=i % M:=⟨_,rfl⟩
     have hPe:P=pkO e m:=by rw[hP,hsp,he,hm]
     have hi':i<k*M:=by rw[←HNk.out];exact hi
     have he6:e<k:=by rw[he];exact Nat.div_lt_of_lt_mul (by rw[Nat.mul_comm];exact hi')
     have hm8:m<8:=by have:=Nat.mod_lt i hM0;omega
     have HSm:=qq (List.mem_of_getElem? hs)
     obtain⟨C,hC⟩:∃C,C=s.cells:=⟨_,rfl⟩
     have HPl:=qq (show P.sl.length=18 by rw[hPe];exact pkO_len e m)
     have HPg:=qq (show P.grp.length=32 by rw[hPe];exact exG_len _)
     have hCe:C=packetC P.grp P.ep P.fr P.nu s.A 18 s.c:=by rw[hC,hP];unfold SP.cells;rw[←hP,HPl.out]
     have HCl:=qq (show C.length=36 by rw[hCe];exact pkC_len HPg.out _ _ _ _ _ _)
     have hcc:18≤s.c:=by have:=HO.out.sent.cap s HSm.out;rw[←hP,HPl.out]at this;exact this
     have c32':C[32]?=some (.int .i64 (e:Int)):=by rw[hCe,hPe];simp[packetC,exG,pkO]
     have c34':C[34]?=some (.int .i64 (m:Int)):=by rw[hCe,hPe];simp[packetC,exG,pkO]
     obtain⟨gs,cs',hsv,hgs1,hgs2,-,hrg⟩:=HO.out.sent.elem hs
     injection hsv with hAs hs1 hs2
     subst hAs
     clear hs1 hs2
     rw[←hC]at hrg
     have hrg':wr.rangeAt gs (i*36) C:=by rw[Nat.mul_comm];exact hrg
     obtain⟨Eo,hEo⟩:∃Eo,Eo=openE b.m P:=⟨_,rfl⟩
     obtain⟨To,hTo⟩:∃To,To=openT b.m P:=⟨_,rfl⟩
     have op:=open_step HO.out.two.r P HPg.out s.A 18 s.c gT (by rw[hP];exact HO.out.sent.rd s HSm.out) HO.out.sent.tle HPl.out hcc (by decide) (by rw[hPe];show(-9223372036854775808:Int)≤(e:Int);omega) (by rw[hPe];show(e:Int)<9223372036854775808;omega) (by rw[hPe];show(-9223372036854775808:Int)≤0;decide) (by rw[hPe];show(0:Int)<9223372036854775808;decide) (by rw[hPe];show(-9223372036854775808:Int)≤(m:Int);omega) (by rw[hPe];show(m:Int)<9223372036854775808;omega)
     rw[←hCe,←hEo,←hTo]at op
     have HOp:=qq op
     have HRg:=qq hrg'
     have HSs:=qq hs
     have HC:=qq hC
     have HPe:=qq hPe
     have HEo:=qq hEo
     have HTo:=qq hTo
     have HEe:=qq he
     have HEm:=qq hm
     have HC32:=qq c32'
     have HC34:=qq c34'
     clear op hrg hrg' hs hC hPe hEo hTo hsp c32' c34' hP hCe hwN
     go_wp2_with (refine wpList_load_mid rfl 35 (.tmp 104) rfl gs (i*36) rfl C _ HRg.out Tryd.underlying35 rfl (by rw[HCl.out];exact sizePk) ?_)
     refine HOp.out.mono ?_
     rintro ex w5 ⟨v5,rfl,ho5,b5,hm5,hs5,hn5⟩
     have HO5:=qq (HO.out.right hs5)
     have HM5:=qq hm5
     have HW5:=qq ho5
     have HAr5:=qq (show Arr i64v w5 gT 3 T from(hs5.frm.block gT HAr.out.lt (HO.out.two.r.typed_out HAr.out (by decide) (by decide) (by decide) (by decide) (by decide))).trans HAr.out)
     have HRg5:=qq (show w5.rangeAt gs (i*36) C from fun q u hu=>by rw[←HRg.out q u hu];exact World.cell?_of_block (hs5.frm.block gs hgs2 (fun hmm=>HO.out.sent.own gs rfl (List.mem_append_right _ hmm))))
     have c32:w5.cell? ⟨gs,i*36+32,none⟩=some (.int .i64 (e:Int)):=HRg5.out 32 _ HC32.out
     have c34:w5.cell? ⟨gs,i*36+34,none⟩=some (.int .i64 (m:Int)):=HRg5.out 34 _ HC34.out
     have hw4:IntKind.i64.wrap ((k:Int)-4)=(k:Int)-4:=IntWalk.i64_in _ (by omega)
     clear ho5 hm5 hs5 hn5 HOp HRg
     by_cases hold:e+4<k
     ·have h6:Eo=6:=by rw[HEo.out,HMb.out,HPe.out];exact bO_old L4 hE6 hold hm8
      have hM:b5.m=bO k 3 L4:=by rw[HM5.out,openM_bad (by rw[←HEo.out,h6];decide)];exact HMb.out
      have HMq:=qq hM
      rw[h6,show errV 6= .iface 41 (.int .i64 6)from rfl]
      have lo:(e:Int)<(k:Int)-4:=by omega
      clear h6 hM
      go_wp2_with fail
      refine(is_any 6 6 _).mono ?_
      rintro ex w9 ⟨rfl,rfl⟩
      go_wp2_with fail
      go_roundw
      case rel=>exact⟨j+1,b5,L4,T,by go_num,by omega,HO5.out,HMq.out,HLin.out,HTi.out,HAr5.out⟩
      case measure=>simp[intOf]<;>omega
     have hnew:k≤e+4:=by omega
     have lo:¬((e:Int)<(k:Int)-4):=by omega
     have hTi:=HTi.out.2 i (by rw[←HNk.out];exact hi) (by rw[←HEe.out];exact hnew)
     rw[←HEe.out,←HEm.out]at hTi
     have hlin:=HLin.out e
     by_cases hask:(m:Int)∈ (L4 e).asked
     ·have h7:Eo=7:=by rw[HEo.out,HMb.out,HPe.out];exact bO_again L4 hE6 he6 hnew hm8 hlin hask
      have hM:b5.m=bO k 3 L4:=by rw[HM5.out,openM_bad (by rw[←HEo.out,h7];decide)];exact HMb.out
      have HMq:=qq hM
      rw[h7,show errV 7= .iface 41 (.int .i64 7)from rfl]
      rw[if_pos hask]at hTi
      have cT:w5.cell? ⟨gT,i,none⟩=some (.int .i64 1):=HAr5.out.at_ hTi
      clear h7 hM hTi hlin
      go_wp2_with fail
      refine(is_any 7 7 _).mono ?_
      rintro ex w9 ⟨rfl,rfl⟩
      go_wp2_with fail
      go_roundw
      case rel=>exact⟨j+1,b5,L4,T,by go_num,by omega,HO5.out,HMq.out,HLin.out,HTi.out,HAr5.out⟩
      case measure=>simp[intOf]<;>omega
     ·obtain⟨q0,qT,qM⟩:=bO_ok L4 hE6 he6 hnew hm8 hlin hask
      obtain⟨-,-,lin',ask'⟩:=hlin.free hm8 hask
      have h0:Eo=0:=by rw[HEo.out,HMb.out,HPe.out];exact q0
      have HMq:=qq (show b5.m=bO k 3 (updL L4 e (takeL (L4 e) (m:Int))) by rw[HM5.out,HMb.out,HPe.out];exact qM)
      have hT2:To=[BitVec.ofNat 8 e,BitVec.ofNat 8 m]:=by rw[HTo.out,HMb.out,HPe.out];exact qT
      have HLq:=qq (show∀e',LinO e' (updL L4 e (takeL (L4 e) (m:Int)) e')from fun e'=>by
       by_cases h:e'=e
       ·subst h;rw[updL_same];exact lin'
       ·rw[updL_other _ _ h];exact HLin.out e')
      have HTq:=qq (show TimesO k M (updL L4 e (takeL (L4 e) (m:Int))) (T.set i 1)from by
       have h:=HTi.out.more (i:=i) (l:=takeL (L4 e) (m:Int)) (by rw[←HNk.out];exact hi) (by rw[←HEe.out,←HEm.out];exact ask')
       rw[←HEe.out]at h
       exact h)
      rw[h0,errV_zero]
      rw[if_neg hask]at hTi
      have cT:w5.cell? ⟨gT,i,none⟩=some (.int .i64 0):=HAr5.out.at_ hTi
      have HcT:=qq cT
      obtain⟨A5,c5,e5,hr5,-,-,-⟩:=HW5.out.shape' (n:=2) (by rw[hT2];rfl)
      subst e5
      obtain⟨g5,hA5,r0,r1⟩:∃g5,A5=some ⟨g5,0,none⟩∧w5.cell? ⟨g5,0,none⟩=some (b8 (BitVec.ofNat 8 e))∧w5.cell? ⟨g5,1,none⟩=some (b8 (BitVec.ofNat 8 m)):=by
       have hOw:=HW5.out
       rw[hT2]at hOw
       rcases hOw.2 with⟨h,-⟩|⟨g',cap,cur,h,-⟩
       ·injection h with _ h _;exact absurd h (by decide)
       ·injection h with h1 h2 h3
        subst h1
        obtain⟨b9,o9,h4,-,h5⟩:=hOw.rd (by simp)
        injection h4 with h4;injection h4 with h4 h6 _
        subst h4
        subst h6
        exact⟨g',rfl,h5 0 _ rfl,h5 1 _ rfl⟩
      subst hA5
      rw[b8_small (show e<8 by omega)]at r0
      rw[b8_small hm8]at r1
      clear hr5 hTi hlin qT qM q0 lin' ask' hask h0 hT2
      go_upto_region 29 with fail
      go_quiet (fail)
      have HO6:=qq (HO5.out.below (below_drewN (Below.refl _ w5) nq))
      have HAr6:=qq (HAr5.out.drewN nq)
      have c6:(w5.drewN nq).cell? ⟨gT,i,none⟩=some (.int .i64 0):=HcT.out
      generalize w5.drewN nq=w6 at HO6 HAr6 c6 ⊢
      clear c32 c34 cT r0 r1
      have fT:=HAr6.out.frozen i
      have HO7:=qq (show OnceAt w (w6.setCell ⟨gT,i,none⟩ (i64v 1)) gA gB gT a b5 (.slice (some ⟨gs,0,none⟩) N cs) ss from
       HO6.out.turn (grownBy_set w6 gT i (i64v 1)) (HO6.out.two.l.typed_out HAr6.out (by decide) (by decide) (by decide) (by decide) (by decide)) (HO6.out.two.r.typed_out HAr6.out (by decide) (by decide) (by decide) (by decide) (by decide)) (Nat.le_refl _)
        (fun e=>by
         obtain⟨-,-,cs9,h9⟩:=row_in HO6.out.sent.row e
         have h8:=HAr6.out
         unfold Arr at h8
         rw[h8]at h9;injection h9 with h9;injection h9 with _ hT9 _;exact absurd hT9 (by decide)) hgw)
      have HAr7:=qq (HAr6.out.set_ i 1)
      go_wp2_with fail
      go_roundw
      case rel=>exact⟨j+1,b5,_,_,by go_num,by omega,HO7.out,HMq.out,HLq.out,HTq.out,HAr7.out⟩
      case measure=>simp[intOf]<;>omega
    ·obtain rfl:j=n:=by omega
     have lj:¬((j:Int)<(j:Int)):=by omega
     obtain⟨q,hq⟩:∃q,N=q+1:=⟨N-1,by omega⟩
     obtain⟨s,hs⟩:∃s,ss[q]?=some s:=⟨ss[q]'(by rw[←HNe.out];omega),List.getElem?_eq_getElem _⟩
     have hsp:=HPk.out q s hs
     have hqd:q/M=k-1:=by
      have h1:=HNk.out
      obtain⟨k',rfl⟩:∃k',k=k'+1:=⟨k-1,by omega⟩
      have h2:q=M*k'+(M-1):=by rw[Nat.add_mul,Nat.one_mul,Nat.mul_comm]at h1;omega
      rw[h2,Nat.mul_add_div hM0,Nat.div_eq_of_lt (by omega)];omega
     have hm8:q % M<8:=by have:=Nat.mod_lt q hM0;omega
     rw[hqd]at hsp
     obtain⟨m,hm⟩:∃m,m=q % M:=⟨_,rfl⟩
     rw[←hm]at hsp hm8
     obtain⟨P,hP⟩:∃P,P=s.p:=⟨_,rfl⟩
     have hPe:P=pkO (k-1) m:=by rw[hP,hsp]
     have HSm:=qq (List.mem_of_getElem? hs)
     obtain⟨C,hC⟩:∃C,C=s.cells:=⟨_,rfl⟩
     have HPl:=qq (show P.sl.length=18 by rw[hPe];exact pkO_len _ m)
     have HPg:=qq (show P.grp.length=32 by rw[hPe];exact exG_len _)
     have hCe:C=packetC P.grp P.ep P.fr P.nu s.A 18 s.c:=by rw[hC,hP];unfold SP.cells;rw[←hP,HPl.out]
     have HCl:=qq (show C.length=36 by rw[hCe];exact pkC_len HPg.out _ _ _ _ _ _)
     have hcc:18≤s.c:=by have:=HO.out.sent.cap s HSm.out;rw[←hP,HPl.out]at this;exact this
     obtain⟨gs,cs',hsv,hgs1,hgs2,-,hrg⟩:=HO.out.sent.elem hs
     injection hsv with hAs hs1 hs2
     subst hAs
     clear hs1 hs2
     rw[←hC]at hrg
     have hrg':wr.rangeAt gs (q*36) C:=by rw[Nat.mul_comm];exact hrg
     have op:=open_step HO.out.two.l P HPg.out s.A 18 s.c gT (by rw[hP];exact HO.out.sent.rd s HSm.out) HO.out.sent.tle HPl.out hcc (by decide) (by rw[hPe];show(-9223372036854775808:Int)≤((k-1:Nat):Int);omega) (by rw[hPe];show((k-1:Nat):Int)<9223372036854775808;omega) (by rw[hPe];show(-9223372036854775808:Int)≤0;decide) (by rw[hPe];show(0:Int)<9223372036854775808;decide) (by rw[hPe];show(-9223372036854775808:Int)≤(m:Int);omega) (by rw[hPe];show(m:Int)<9223372036854775808;omega)
     rw[←hCe,show openE a.m P=9 by rw[HMa.out,hPe];exact bO_member L hE0 hE6 hm8,show errV 9= .iface 41 (.int .i64 9)from rfl]at op
     have HOp:=qq op
     have HRg:=qq hrg'
     have hN1:(N:Int)-1=(q:Int):=by omega
     have hqN:q<N:=by omega
     have hN1w:wrap64 ((N:Int)-1)=(q:Int):=by unfold wrap64;omega
     clear op hrg hrg' hs hC hPe hsp hP hCe hO hmb hLin hTi hAr hqd hm
     go_wp2_with (refine wpList_load_mid rfl 35 (.tmp 174) rfl gs (q*36) rfl C _ HRg.out Tryd.underlying35 rfl (by rw[HCl.out];exact sizePk) ?_)
     refine HOp.out.mono ?_
     rintro ex w5 ⟨v5,rfl,ho5,b5,hm5,hs5,hn5⟩
     have HB5:=qq (hs5.toBelow HO.out.two.l HO.out.bl)
     clear ho5 hm5 hs5 hn5
     go_wp2_with fail
     refine(is_any 9 9 _).mono ?_
     rintro ex w9 ⟨rfl,rfl⟩
     go_wp2_with fail
     go_ret
     exact⟨rfl,HB5.out⟩
end Go.Proofs.YtelgjaiknaalkaaDoor
