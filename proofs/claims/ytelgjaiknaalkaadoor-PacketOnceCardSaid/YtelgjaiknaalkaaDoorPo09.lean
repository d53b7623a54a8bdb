/- Lemmas, joined and made smaller by a program. -/
import Derived.Test.YtelgjaiknaalkaaDoorPo08
import Derived.Test.YtelgjaiknaalkaaDoorPo06
import Derived.Scope
import Derived.Test.YtelgjaiknaalkaaDoorPo04
import Derived.Test.YtelgjaiknaalkaaDoorPo07
import Derived.Test.YtelgjaiknaalkaaDoorPo02
import Derived.Test.YtelgjaiknaalkaaDoorRows
import Derived.WalkSpells
import Derived.WalkLawsBesides
import Derived.StillTailTactics
import Derived.Deep.QuietTactic
import Derived.BigQuiet
open Go.Lib renaming hid → qq
open List renaming setIfInBounds_toArray → qj
open List renaming set_cons_zero → qz
open List renaming set_cons_succ → qv
set_option linter.unusedVariables false
set_option linter.unusedSimpArgs false
namespace Go.Proofs.YtelgjaiknaalkaaDoor
open Go.RowKit
attribute [local go_sem] Oper.semAt_some
structure ExI(nb e1 e2 N L:Nat)(xs:List (BitVec 8))(W:World):Prop where
 n:Boxed W nb 3 (.int .i64 (N:Int))
 v:Boxed W e1 33 (.slice (some ⟨e2,0,none⟩) L N)
 o:Own b8 W e2 5 (.slice (some ⟨e2,0,none⟩) L N) xs
theorem ExI.own{nb e1 e2 N L:Nat}{xs:List (BitVec 8)}{W W':World}{row:Option Nat}(h:ExI nb e1 e2 N L xs W)(hg:W.grownBy W' row)(hr:∀r,row=some r→∃o:Obj,W.heap[r]?=some o∧o.isCells=false):ExI nb e1 e2 N L xs W':=
 ⟨boxO h.n hg hr,boxO h.v hg hr,ownO h.o hg hr⟩
theorem ownsCells{W:World}{B g E n c:Nat}{xs:List (BitVec 8)}{o:Obj}(h:Own b8 W B E (.slice (some ⟨g,0,none⟩) n c) xs)(ho:W.heap[g]?=some o):o.isCells=true:=by
 rcases h.2 with⟨h1,_⟩|⟨g',cap,cur,h1,_,hg',_⟩
 ·cases h1
 ·cases h1;rw[hg']at ho;cases ho;rfl
theorem wpAnyZ_takeD{P:Program}{ops:Array Oper}{md:Region.Mode}{Q:Exit→Act→World→Prop}{S:World→Prop}{z i:Nat}(d:Nat){oi:Oper}{v:Value}{f:Nat}{L:Array Bool}{a:Act}{w:World}(hi:ops[i]?=some oi)(hd:oi.dst=some d)(hs:Region.noSelect ops=true)(hw:waitsB md ops z i=true)(hf:Region.free md ops L i=true)(hr:(Region.ready md ops L).contains i=true)
 (hQ:∀c a w,Q (.panic c) (a.put oi.dst v) w→Q (.panic c) a w)(hy:YieldsIf P ops S oi v a)(hS:S w)(h:wpAnyZ P md ops Q S z f (L.setIfInBounds i true) {tmps:=a.tmps.setIfInBounds d v,defers:=a.defers} w):wpAnyZ P md ops Q S z (f+1) L a w:=
 wpAnyZ_take hi hs hw hf hr hQ hy hS (by rw[hd];exact h)
set_option maxRecDepth 100000 in
set_option maxHeartbeats 4000000 in
theorem expand_any(w:World)(B1 n1 c1 B2 n2 c2 N:Nat)(A1 A2:Option Addr)(key inf:List (BitVec 8))(hr1:Rd b8 w B1 A1 key)(hB1:B1≤w.heap.size)(hn1:n1=key.length)(hr2:Rd b8 w B2 A2 inf)(hB2:B2≤w.heap.size)(hn2:n2=inf.length)(hk:n1≤100000)(hi:n2≤100000)(hN:N≤8160):
 Calls Tryd.prog 70 #[.slice A1 n1 c1,.slice A2 n2 c2,.int .i64 (N:Int)] w fun e w'=>∃g,e= .returned (.tuple #[.slice (some ⟨g,0,none⟩) N N,.nilIface])∧Own b8 w' w.heap.size 5 (.slice (some ⟨g,0,none⟩) N N) (expV key inf N)∧Below w.heap.size w w':=by
 obtain⟨i0,hi0,hz0,hz1,hz2⟩:=info_parts infoU8
 have H1:=qq hn1
 have H2:=qq hn2
 have R1:=qq (hr1.more hB1)
 have R2:=qq (hr2.more hB2)
 have lN:(N:Int)≤8160:=by omega
 have lN0:¬((N:Int)<0):=by omega
 have lN1:¬((N:Int)>8160):=by omega
 clear hn1 hn2 hr1 hr2 hB1 hB2
 refine(callsIn_wide (n:=9)).1 ?_
 refine callsIn_of_wp_marks Tryd.func70 rfl trivial ?_ rfl
 simp only[Tryd.ntmps70,List.size_toArray,List.length_cons,List.length_nil,Nat.reduceAdd,Nat.reduceSub,Array.replicate_succ,Array.replicate_zero,List.push_toArray,List.append_toArray,List.nil_append,List.cons_append]
 refine wpIn_wide.2 ?_
 go_wp2_with fail
 have HN:=qq (Boxed.new w 3 (.int .i64 (N:Int)))
 have HBn:=qq ((Below.refl w.heap.size w).alloc (Nat.le_refl _) (.cells #[.int .i64 (N:Int)] 3))
 have hs1:(w.alloc (.cells #[.int .i64 (N:Int)] 3)).heap.size=w.heap.size+1:=World.size_alloc ..
 have c5:=HN.out.cell
 generalize w.alloc (.cells #[.int .i64 (N:Int)] 3)=w1 at HN HBn hs1 c5 ⊢
 have hs1':w.heap.size<w1.heap.size:=by omega
 clear hs1
 refine wp_scope_straight ?_
 go_wp2_with (refine wpList_make_own _ rfl (.const (.int .i64 0)) (.tmp 17) 33 rfl w1.heap.size 5 i0 _ 1 Tryd.underlying33 hi0 hz0 hz1 .i64 .i64 (N:Int) N rfl rfl (by omega) (by rw[hz2];omega) (by simp[maxLen];omega) (by simp) ?_;intro w2 hown2 hg2;have HO2:=qq (show Own b8 w2 w1.heap.size 5 (.slice (some ⟨w1.heap.size,0,none⟩) 0 N) []from hown2);have HG2:=qq hg2;have hs2:=hg2.size;clear hown2 hg2)
 have hs2':w1.heap.size<w2.heap.size:=(HO2.out.lt _ rfl).2
 have HV3:=qq (Boxed.new w2 33 (.slice (some ⟨w1.heap.size,0,none⟩) 0 N))
 have HN3:=qq (((show Boxed w1 w.heap.size 3 (.int .i64 (N:Int))from HN.out).kept HG2.out (by simp)).alloc (.cells #[.slice (some ⟨w1.heap.size,0,none⟩) 0 N] 33))
 have HO3:=qq (HO2.out.alloc (.cells #[.slice (some ⟨w1.heap.size,0,none⟩) 0 N] 33))
 have HB3:=qq ((HBn.out.grown HG2.out (by omega) (fun k e=>by cases e)).alloc (by omega) (.cells #[.slice (some ⟨w1.heap.size,0,none⟩) 0 N] 33))
 have hs3:(w2.alloc (.cells #[.slice (some ⟨w1.heap.size,0,none⟩) 0 N] 33)).heap.size=w2.heap.size+1:=World.size_alloc ..
 generalize w2.alloc (.cells #[.slice (some ⟨w1.heap.size,0,none⟩) 0 N] 33)=w3 at HV3 HN3 HO3 HB3 hs3 ⊢
 have hs3':w2.heap.size<w3.heap.size:=by omega
 clear hs3 HO2 HG2 HBn HN c5
 refine wp_label ?_
 go_wp2_with fail
 refine(tags_any A1 A2 n1 c1 n2 c2 w3).mono ?_
 rintro e w4 ⟨rfl,rfl⟩
 go_wp2_with fail
 generalize hW5:World.alloc (World.alloc w3 _) _=W5
 have hf:Boxed W5 w2.heap.size 33 (.slice (some ⟨w1.heap.size,0,none⟩) 0 N)∧Boxed W5 w.heap.size 3 (.int .i64 (N:Int))∧Own b8 W5 w1.heap.size 5 (.slice (some ⟨w1.heap.size,0,none⟩) 0 N) []∧Boxed W5 w3.heap.size 33 (.slice A1 n1 c1)∧Boxed W5 (w3.heap.size+1) 33 (.slice A2 n2 c2)∧Below w.heap.size w W5∧W5.heap.size=w3.heap.size+2:=by
  rw[←hW5]
  refine⟨(HV3.out.alloc _).alloc _,(HN3.out.alloc _).alloc _,(HO3.out.alloc _).alloc _,(Boxed.new w3 33 _).alloc _,?_,(HB3.out.alloc HB3.out.size _).alloc (by have:=HB3.out.size;simp;omega) _,by simp⟩
  have:=Boxed.new (w3.alloc (.cells #[.slice A1 n1 c1] 33)) 33 (.slice A2 n2 c2)
  rw[World.size_alloc]at this
  exact this
 obtain⟨hv5,hn5,ho5,hk5,hi5,hb5,hz5⟩:=hf
 clear hW5 HV3 HN3 HO3 HB3
 refine(wpIn_wide (n:=9)).1 ?_
 have hws:w.heap.size≤W5.heap.size:=hb5.size
 refine wpIn_rangeFunc_ownH rfl (by omega) (gf:=81) (lb:= #[.pointer (some ⟨w3.heap.size,0,none⟩),.pointer (some ⟨w3.heap.size+1,0,none⟩)]) rfl trivial (enters_of Tryd.func81 (by kernel_rfl) rfl)
  (tags_stops 8 (by omega) w3.heap.size (w3.heap.size+1) w2.heap.size w1.heap.size w.heap.size n1 c1 n2 c2 A1 A2 key inf H1.out H2.out hk hi W5 hk5 hi5 (R1.out.below hb5) (R2.out.below hb5) hws ⟨by omega,by omega⟩ ⟨by omega,by omega⟩ ⟨by omega,by omega,by omega,by omega⟩)
  KpT.t (fun W l o o' hl ho hc hw=>KpT.put hl hws ho hc) (Below.refl _ _) (fun _=>rfl)
  (fun pre W=>(ExI w.heap.size w2.heap.size w1.heap.size N (32*pre.length) (exL key inf (pre.map Subtype.val)) W∧(32*pre.length<N∨pre=[]))∧Below w.heap.size w W)
  (fun c' pre W=>(ExI w.heap.size w2.heap.size w1.heap.size N N ((exL key inf (pre.map Subtype.val)).take N) W∧c'= .exit 0∧N≤32*pre.length)∧Below w.heap.size w W)
  (OwnFrom.and (Go.Own.from (fun s A' B' row hs hg hr=>⟨hs.1.own hg hr,hs.2⟩) _) (ownFrom_below (Nat.le_refl _) (by omega)))
  (fun c=>OwnFrom.and (Go.Own.from (fun s A' B' row hs hg hr=>⟨hs.1.own hg hr,hs.2⟩) _) (ownFrom_below (Nat.le_refl _) (by omega))) ⟨⟨⟨hn5,hv5,ho5⟩,.inr rfl⟩,hb5⟩
  (fun x a' W=>∃g,a'={tmps:= #[.slice A1 n1 c1,.slice A2 n2 c2,.int .i64 (N:Int),undef,undef,.pointer (some ⟨w.heap.size,0,none⟩),.slice none 0 0,.nilIface,.pointer (some ⟨w2.heap.size,0,none⟩),.pointer (some ⟨g,0,none⟩),.int .i64 (N:Int),.bool (decide ((N:Int)<0)),.bool (decide ((N:Int)<0)),.int .i64 (N:Int),.bool (decide (8160<(N:Int))),.bool (decide ((N:Int)<0)||decide (8160<(N:Int))),undef,.int .i64 (N:Int),.slice (some ⟨w1.heap.size,0,none⟩) 0 N,.slice A1 n1 c1,.slice A2 n2 c2,.func (.func 81) #[] #[.pointer (some ⟨w3.heap.size,0,none⟩),.pointer (some ⟨w3.heap.size+1,0,none⟩)],.agg ((tagI key inf x.1).map b8).toArray,undef,undef,undef,undef,undef,undef,undef,undef,undef,undef,undef,undef,undef],defers:=[]}∧Arr b8 W g 29 (tagI key inf x.1))
  (fun x a' s W W' row hs hg hr=>by obtain⟨g,e,hA⟩:=hs;exact⟨g,e,arrO hA hg (fun r e=>(hr r e).2)⟩) ?assign ?body ?done ?stop
 case assign=>
  rintro l pre x W K ⟨⟨hM,hlen⟩,hB'⟩ hK
  have HZ:=qq (Arr.new b8 W 29 (List.replicate 32 0#8))
  obtain⟨S,hS⟩:∃S,S=tagI key inf x.1:=⟨_,rfl⟩
  have HSl:=qq (show S.length=32 by rw[hS];obtain⟨j,hj⟩:∃j,x.1=j+1:=⟨x.1-1,by have:=x.2.1;omega⟩;rw[hj];exact tagI_len _ _ _)
  have HSe:=qq hS
  have HKK:=qq hK
  have HM:=qq hM
  simp only[encT,←hS,arrV_mk,List.zip_toArray,List.zip_cons_cons,List.zip_nil_right,List.zip_nil_left,List.foldl_toArray',List.foldl_toArray,List.foldl_cons,List.foldl_nil,qj,qz,qv]
  clear hK hM hS
  gi_wp2_with (refine wpListIn_store_arr rfl 29 (.tmp 9) (.tmp 22) rfl W.heap.size rfl S rfl _ _ HZ.out (by rw[HSl.out];rfl) (by rw[size32,HSl.out]) b8_one' ?_;intro w2' hp2 hg2;have HP2:=qq hp2;have HG2:=qq hg2;clear hp2 hg2)
  have hg:W.grownBy w2' none:=grownBy_trans (World.grownBy_alloc W _ none) HG2.out (fun g e=>by cases e;exact .inr (Nat.le_refl _))
  have hbw:Below W.heap.size W w2':=(Below.refl _ W).grown hg (Nat.le_refl _) (fun k e=>by cases e)
  have hM2:=HM.out.own hg (fun r e=>by cases e)
  exact HKK.out _ w2' ((KeepsOthers.of_grownBy hg (fun j o e=>by cases e)).from _) (KpT.of_below hbw hB'.size) ⟨⟨hM2,hlen⟩,hB'.trans (hbw.mono hB'.size)⟩ ⟨W.heap.size,by rw[←HSe.out],HSe.out▸HP2.out⟩
 case done=>
  rintro D ys W hD hys ⟨⟨hI,hlen⟩,hB⟩ hK
  have hl:=congrArg List.length hys
  rw[List.length_map,List.length_range']at hl
  rcases hlen with h|h
  ·omega
  ·rw[h]at hl;simp at hl
 case body=>
  rintro l pre x a' W hl hrec ⟨⟨hM,hlen⟩,hB'⟩ ⟨g,rfl,hA⟩ hN'
  obtain⟨S,hSe⟩:∃S,S=tagI key inf x.1:=⟨_,rfl⟩
  have HSl:=qq (show S.length=32 by rw[hSe];obtain⟨j,hj⟩:∃j,x.1=j+1:=⟨x.1-1,by have:=x.2.1;omega⟩;rw[hj];exact tagI_len _ _ _)
  obtain⟨L,hL⟩:∃L,L=32*pre.length:=⟨_,rfl⟩
  obtain⟨X,hX⟩:∃X,X=exL key inf (pre.map Subtype.val):=⟨_,rfl⟩
  have HXl:=qq (show X.length=L by rw[hX,hL,exL_len _ _ _ (by intro i hi;obtain⟨y,_,rfl⟩:=List.mem_map.1 hi;exact y.2.1),List.length_map])
  have hLN:L≤N:=by rcases hlen with h|h;omega;subst h;simp at hL;omega
  obtain⟨T,hT⟩:∃T:Nat,T=min 32 (N-L):=⟨_,rfl⟩
  have hT1:T≤32:=by omega
  have hT2:L+T≤N:=by omega
  have HTe:=qq hT
  have hmn:min (32:Int) ((N:Int)-(L:Int))=(T:Int):=by omega
  have hTi:(T:Int)≤32:=by omega
  have hLi:(L:Int)≤(N:Int):=by omega
  rw[←hL,←hX]at hM
  rw[←hSe]at hA ⊢
  have HL:=qq hL
  have HX:=qq hX
  have HS:=qq hSe
  have HM:=qq hM
  have HA:=qq hA
  have HB':=qq hB'
  have c5:=hM.n.cell
  have c8:=hM.v.cell
  clear hM hA hT hL hX hSe hlen hB' hrec
  gi_wp2_with fail
  have hS:(fun w':World=>w'.cell? ⟨w2.heap.size,0,none⟩=some (.slice (some ⟨w1.heap.size,0,none⟩) L N)∧w'.cell? ⟨w.heap.size,0,none⟩=some (.int .i64 (N:Int))) W.drew:=⟨c8,c5⟩
  refine wpIn_region_round (by kernel_rfl) (by kernel_rfl) (fun w':World=>w'.cell? ⟨w2.heap.size,0,none⟩=some (.slice (some ⟨w1.heap.size,0,none⟩) L N)∧w'.cell? ⟨w.heap.size,0,none⟩=some (.int .i64 (N:Int))) 8 ?_
  refine wpAnyZ_takeD (0+23) (i:=0) (v:= .slice (some ⟨w1.heap.size,0,none⟩) L N) rfl rfl (by kernel_rfl) (by kernel_rfl) (by kernel_rfl) (by kernel_rfl) (fun _ _ _ h=>nomatch h.1) (Or.inl ⟨by rfl,?_⟩) hS ?_
  ·intro w' hw'
   obtain⟨s0,s1⟩:=hw'
   go_simp
   try first|exact hwr|exact hif
  simp only[Nat.reduceAdd,qj,qz,qv]
  refine wpAnyZ_takeD (1+23) (i:=1) (v:= .int .i64 (N:Int)) rfl rfl (by kernel_rfl) (by kernel_rfl) (by kernel_rfl) (by kernel_rfl) (fun _ _ _ h=>nomatch h.1) (Or.inl ⟨by rfl,?_⟩) hS ?_
  ·intro w' hw'
   obtain⟨s0,s1⟩:=hw'
   go_simp
   try first|exact hwr|exact hif
  simp only[Nat.reduceAdd,qj,qz,qv]
  refine wpAnyZ_takeD (2+23) (i:=2) (v:= .slice (some ⟨w1.heap.size,0,none⟩) L N) rfl rfl (by kernel_rfl) (by kernel_rfl) (by kernel_rfl) (by kernel_rfl) (fun _ _ _ h=>nomatch h.1) (Or.inl ⟨by rfl,?_⟩) hS ?_
  ·intro w' hw'
   obtain⟨s0,s1⟩:=hw'
   go_simp
   try first|exact hwr|exact hif
  simp only[Nat.reduceAdd,qj,qz,qv]
  refine wpAnyZ_takeD (3+23) (i:=3) (v:= .int .i64 (L:Int)) rfl rfl (by kernel_rfl) (by kernel_rfl) (by kernel_rfl) (by kernel_rfl) (fun _ _ _ h=>nomatch h.1) (Or.inl ⟨by rfl,?_⟩) hS ?_
  ·intro w' hw'
   obtain⟨s0,s1⟩:=hw'
   go_simp
   try first|exact hwr|exact hif
  simp only[Nat.reduceAdd,qj,qz,qv]
  have hwr:IntKind.i64.wrap ((N:Int)-(L:Int))=(N:Int)-(L:Int):=by rw[IntKind.wrap_i64];omega
  have hif:(if(N:Int)-(L:Int)<32 then(N:Int)-(L:Int)else 32)=(T:Int):=by have:=HTe.out;split<;>omega
  refine wpAnyZ_takeD (4+23) (i:=4) (v:= .int .i64 ((N:Int)-(L:Int))) rfl rfl (by kernel_rfl) (by kernel_rfl) (by kernel_rfl) (by kernel_rfl) (fun _ _ _ h=>nomatch h.1) (Or.inl ⟨by rfl,?_⟩) hS ?_
  ·intro w' hw'
   obtain⟨s0,s1⟩:=hw'
   go_simp
   try first|exact hwr|exact hif
  simp only[Nat.reduceAdd,qj,qz,qv]
  refine wpAnyZ_takeD (5+23) (i:=5) (v:= .int .i64 (T:Int)) rfl rfl (by kernel_rfl) (by kernel_rfl) (by kernel_rfl) (by kernel_rfl) (fun _ _ _ h=>nomatch h.1) (Or.inl ⟨by rfl,?_⟩) hS ?_
  ·intro w' hw'
   obtain⟨s0,s1⟩:=hw'
   go_simp
   try first|exact hwr|exact hif
  simp only[Nat.reduceAdd,qj,qz,qv]
  refine wpAnyZ_takeD (6+23) (i:=6) (v:= .slice (some ⟨g,0,none⟩) T 32) rfl rfl (by kernel_rfl) (by kernel_rfl) (by kernel_rfl) (by kernel_rfl) (fun _ _ _ h=>nomatch h.1) (Or.inl ⟨by rfl,?_⟩) hS ?_
  ·intro w' hw'
   obtain⟨s0,s1⟩:=hw'
   go_simp
   try first|exact hwr|exact hif
  simp only[Nat.reduceAdd,qj,qz,qv]
  refine wpAnyZ_one (i:=7) (by kernel_rfl) rfl (fun K' hK=>?_)
  refine step_append_fit rfl (.tmp 23) (.tmp 29) 33 rfl w1.heap.size 5 i0 Tryd.underlying33 hi0 hz1 w1.heap.size L N X HXl.out rfl HM.out.o.drew (g+1) ⟨g,0,none⟩ T 32 (S.take T) rfl (by rw[List.length_take,HSl.out];omega) ((HA.out.rd 0).take T) hT2 ?_
  intro w7 hown7 hg7
  have hng:=hN'
  clear hN'
  have hg7':W.grownBy w7 (some w1.heap.size):=⟨hg7.os,hg7.tape,hg7.output,hg7.size,hg7.block⟩
  have hbs:w1.heap.size<W.heap.size:=(HM.out.o.lt _ rfl).2
  have hn7:Boxed w7 w.heap.size 3 (.int .i64 (N:Int)):=HM.out.n.kept hg7' (by intro e;have:=Option.some.inj e;omega)
  have hv7:Boxed w7 w2.heap.size 33 (.slice (some ⟨w1.heap.size,0,none⟩) L N):=HM.out.v.kept hg7' (by intro e;have:=Option.some.inj e;omega)
  have c57:=hn7.cell
  have c87:=hv7.cell
  have f87:=hv7.frozen
  refine hK _ _ (fun _=>⟨c87,c57⟩) ?_
  clear hK K'
  simp only[Act.put,qj,qz,qv]
  refine wpAnyZ_one (i:=8) (by kernel_rfl) rfl (fun K' hK=>?_)
  go_simp
  refine hK _ _ (fun h=>absurd rfl h) (wpAnyZ_done (by kernel_rfl) ⟨rfl,?_⟩ _)
  clear hK K'
  have HI8:=qq (show ExI w.heap.size w2.heap.size w1.heap.size N (L+T) (X++S.take T) (w7.setCell ⟨w2.heap.size,0,none⟩ (.slice (some ⟨w1.heap.size,0,none⟩) (L+T) N))from⟨hn7.other (by omega) _,hv7.set _,hown7.kept' (grownBy_setCell' _ _ _) (fun r e hv=>by cases e;have:=Option.some.inj (show some w1.heap.size=some w2.heap.size from hv);omega)⟩)
  have HK8:=qq (show KeepsOthers W (w7.setCell ⟨w2.heap.size,0,none⟩ (.slice (some ⟨w1.heap.size,0,none⟩) (L+T) N))from(KeepsOthers.of_grownBy hg7' (fun j o e ho=>by cases e;exact ownsCells HM.out.o ho)).trans (KeepsOthers.setCell _ _ _))
  have HB8:=qq (show Below w.heap.size W (w7.setCell ⟨w2.heap.size,0,none⟩ (.slice (some ⟨w1.heap.size,0,none⟩) (L+T) N))from((Below.refl w.heap.size W).grown hg7' HB'.out.size (fun k e=>by cases e;omega)).setCell (p:=⟨w2.heap.size,0,none⟩) (by simp;omega) _)
  have HP8:=qq (show KpT w.heap.size w2.heap.size w1.heap.size W (w7.setCell ⟨w2.heap.size,0,none⟩ (.slice (some ⟨w1.heap.size,0,none⟩) (L+T) N))from⟨HB8.out,fun g' o hg' _ h1 h2=>by
   have hlt:g'<W.heap.size:=(Array.getElem?_eq_some_iff.1 hg').1
   rw[Below.heap_setCell _ _ _ _ (show g'≠(⟨w2.heap.size,0,none⟩:Addr).block from h1)]
   exact(hg7'.block g' hlt (fun e=>h2 (Option.some.inj e))).trans hg'⟩)
  have HL8:=qq (show exL key inf ((pre++ [x]).map Subtype.val)=X++S by rw[List.map_append,List.map_cons,List.map_nil,exL_snoc,HX.out,HS.out])
  generalize hw8:w7.setCell _ _=w8 at HI8 HK8 HB8 HP8 ⊢
  have c58:=HI8.out.n.cell
  have c88:=HI8.out.v.cell
  clear hown7 hg7 hg7' hn7 hv7 c57 c87 f87 c5 c8 hS hw8
  by_cases hend:L+T=N
  ·have hend':((L:Int)+(T:Int)==(N:Int))=true:=by rw[beq_iff_eq];omega
   have hcast:((L+T:Nat):Int)=(N:Int):=by omega
   gi_wp2_with fail
   refine⟨HK8.out.from _,⟨?_,rfl,?_⟩,HB'.out.trans HB8.out⟩
   ·have h:=HI8.out
    rw[HL8.out]
    have e:(X++S).take N=X++S.take T:=by rw[←hend,List.take_append,List.take_of_length_le (by rw[HXl.out];omega),HXl.out,show L+T-L=T by omega]
    rw[e]
    rw[hend]at h
    exact h
   ·have:=HL.out;rw[List.length_append];simp;omega
  ·have hend':((L:Int)+(T:Int)==(N:Int))=false:=by rw[beq_eq_false_iff_ne];omega
   gi_wp2_with fail
   have hT32:T=32:=by have:=HTe.out;omega
   refine⟨HK8.out.from _,HP8.out,⟨?_,.inl ?_⟩,HB'.out.trans HB8.out⟩
   ·have h:=HI8.out
    rw[HL8.out,List.length_append,List.length_singleton,Nat.mul_add,←HL.out]
    rw[hT32,List.take_of_length_le (by rw[HSl.out];omega)]at h
    exact h
   ·have:=HL.out;rw[List.length_append];simp;omega
 case stop=>
  rintro D c' pre W hD hpre ⟨⟨hI,rfl,hlen⟩,hB'⟩ hK
  obtain⟨k,hpm⟩:=hpre
  have hpl:pre.length=k:=by have:=congrArg List.length hpm;rw[List.length_map,List.length_range']at this;exact this
  have hk255:k≤255:=by
   rcases Nat.lt_or_ge 255 k with h|h
   ·exfalso
    have hm:256∈pre.map Subtype.val:=by rw[hpm,List.mem_range'_1];omega
    obtain⟨y,_,hy⟩:=List.mem_map.1 hm
    have:=y.2.2;omega
   ·exact h
  have HE:=qq (show(exL key inf (pre.map Subtype.val)).take N=expV key inf N by rw[hpm,exL_range];exact(expV_of key inf k N hk255 (by omega)).symm)
  have c8:=hI.v.cell
  have HI:=qq hI
  have hK':=hK
  clear hI hpm hlen
  gi_wp2_with fail
  go_wp2_with fail
  refine⟨by simp,.inl ⟨_,_,rfl,run_takeDeferred hK',?_⟩⟩
  refine⟨.tuple #[.slice (some ⟨w1.heap.size,0,none⟩) N N,.nilIface],by simp[results,Tryd.f70,go_sem],w1.heap.size,rfl,?_,?_⟩
  ·have h:=ownO HI.out.o (grownBy_putObj' _ D (.deferred none)) (fun r e=>by cases e;exact⟨_,hK',rfl⟩)
   rw[HE.out]at h
   exact h.less (by omega)
  ·exact hB'.trans (belowK_b (w:=w) (Nat.le_refl _) _ D _ _ (by omega) hK' rfl rfl)
theorem concat_two(W:World)(B m1 d1 m2 d2:Nat)(C1 C2:Option Addr)(xs ys:List (BitVec 8))(hr1:Rd b8 W B C1 xs)(hr2:Rd b8 W B C2 ys)(hB:B≤W.heap.size)(hm1:m1=xs.length)(hm2:m2=ys.length)(htot:xs.length+ys.length≤40000000):
 Calls Tryd.prog 29 #[.slice (some ⟨W.heap.size,0,none⟩) 2 2] (W.alloc (.cells #[.slice C1 m1 d1,.slice C2 m2 d2] 33)) fun e w'=>∃v,e= .returned v∧Own b8 w' (W.heap.size+1) 5 v (xs++ys)∧Below W.heap.size W w':=by
 refine(concat_any _ B W.heap.size 0 2 2 _ (pts_new W B [((C1,m1,d1),xs),((C2,m2,d2),ys)] (by simpa using⟨hr1,hr2⟩) (by simpa using⟨hm1,hm2⟩) hB) (by simp;omega) rfl (by omega) (by simp;omega)).mono ?_
 rintro e w' ⟨v,rfl,ho,hb⟩
 refine⟨v,rfl,?_,((Below.refl _ W).alloc (Nat.le_refl _) _).trans (hb.mono (by simp))⟩
 rw[World.size_alloc]at ho
 exact ho.cast (by simp)
def PAs(w:World)(g:Nat)(ss:List Sl):Prop:=w.heap[g]?=some (.cells (ss.map sl).toArray 33 (0,0))
theorem bel_al{w w':World}{o:Obj}(h:Below w.heap.size w w'):Below w.heap.size w (w'.alloc o):=h.alloc h.size o
theorem bel_dr{w w':World}(h:Below w.heap.size w w'):Below w.heap.size w w'.drew:=h.drew
theorem PAs.lt{w:World}{g:Nat}{ss:List Sl}(h:PAs w g ss):g<w.heap.size:=(Array.getElem?_eq_some_iff.1 h).1
theorem pas_new{w:World}{g:Nat}{ss:List Sl}{cs:Array Value}(hg:g=w.heap.size)(hc:cs=(ss.map sl).toArray):PAs (w.alloc (.cells cs 33)) g ss:=by subst hg hc;exact heap_alloc_new w _
theorem pas_al{w:World}{g:Nat}{ss:List Sl}{o:Obj}(h:PAs w g ss):PAs (w.alloc o) g ss:=(Below.heap_alloc w o g h.lt).trans h
theorem pas_dr{w:World}{g:Nat}{ss:List Sl}(h:PAs w g ss):PAs w.drew g ss:=h
theorem pts_pas{w:World}{B g:Nat}{ps:List Pt}(h:PAs w g (ps.map (·.1)))(hr:∀u∈ps,Rd b8 w B u.1.1 u.2)(hl:∀u∈ps,u.1.2.1=u.2.length):Pts w B g 0 ps:=
 ⟨fun k u hu=>by
  have h2:w.heap[g]?=some (.cells (((ps.map (·.1)).map sl).toArray) 33 (0,0)):=h
  rw[Nat.zero_add,cell_of_row _ g k _ 33 (0,0) h2]
  simp[hu],h.lt,hr,hl⟩
def errV(n:Nat):Value:=if n=0 then .nilIface else .iface 41 (.int .i64 (n:Int))
theorem errV_zero:errV 0= .nilIface:=rfl
theorem errV_pos{n:Nat}(h:n≠0):errV n= .iface 41 (.int .i64 (n:Int)):=if_neg h
theorem assert_errno(n:Int)(w:World):(Instr.typeAssert (.iface 41 (.int .i64 n)) 31 41 true).run Tryd.prog w= .ok (.tuple #[.int .i64 n,.bool true]) w:=by kernel_rfl
set_option maxRecDepth 100000 in
theorem num_any(n:Nat)(w:World):Calls Tryd.prog 23 #[errV n] w fun e w'=>e= .returned (.int .i64 (n:Int))∧w=w':=by
 by_cases h:n=0
 ·subst h
  rw[errV_zero]
  go_enter Tryd.func23,Tryd.ntmps23
  go_wp2
  go_ret
  exact⟨rfl,rfl⟩
 ·rw[errV_pos h]
  have h0:((n:Int)==0)=false:=by simp;omega
  have hne:(n=0)=False:=by simp[h]
  have hta:=assert_errno (n:Int)
  clear h
  go_enter Tryd.func23,Tryd.ntmps23
  go_wp2
  go_ret
  exact⟨rfl,rfl⟩
theorem is_any(n m:Nat)(w:World):Calls Tryd.prog 9 #[errV n,.int .i64 (m:Int)] w fun e w'=>e= .returned (.bool ((n:Int)==(m:Int)))∧w=w':=by
 go_enter Tryd.func9,Tryd.ntmps9
 go_wp2_with (go_at_call 23;refine(num_any _ _).mono ?_;rintro e w' ⟨rfl,rfl⟩)
 go_ret
 exact⟨rfl,rfl⟩
def winCheck(t:Bool)(h:Int)(s:BitVec 64)(n:Int):Nat:=
 if n<0∨4294967295≤n then 8 else if t=false∨h<n then 0 else if n=h then 7 else if 64<h-n then 11 else if s.getLsbD (h-n-1).toNat then 7 else 0
theorem bit_eq(s:BitVec 64)(e:Nat):(bv (s>>>e&&&1#64)==1)=s.getLsbD e:=by
 rw[show(1:Int)=@OfNat.ofNat Int 1 instOfNat from rfl,bv_beq_lit _ 1 (by decide)]
 rw[Bool.eq_iff_iff,beq_iff_eq]
 constructor
 ·intro h
  have:=congrArg (fun x:BitVec 64=>x.getLsbD 0) h
  simpa using this
 ·intro h
  apply BitVec.eq_of_getLsbD_eq
  intro i hi
  by_cases h0:i=0
  ·subst h0;simpa using h
  ·simp[h0]
def winMark(t:Bool)(h:Int)(s:BitVec 64)(n:Int):Bool×Int×BitVec 64:=
 if t=false then(true,n,s)else if n<h then(true,h,s|||1#64<<<(h-n-1).toNat)else(true,n,s<<<(n-h).toNat|||1#64<<<(n-h-1).toNat)
section
variable{w:World}{g:Nat}{t:Bool}{h:Int}{s:BitVec 64}
end
def hiL(L:List Int):Int:=L.foldl (fun m x=>if m<x then x else m) (-1)
def refCheck(L:List Int)(n:Int):Nat:=
 if n<0∨4294967294<n then 8 else if n<hiL L-64 then 11 else if n∈L then 7 else 0
theorem hiL_snoc(L:List Int)(n:Int):hiL (L++ [n])=if hiL L<n then n else hiL L:=by unfold hiL;rw[List.foldl_append];rfl
structure Inv(L:List Int)(t:Bool)(h:Int)(s:BitVec 64):Prop where
 none_:t=false→L=[]∧s=0#64
 some_:t=true→h=hiL L∧0≤h∧h<4294967295∧h∈L∧(∀x∈L,x≤h)∧∀n:Int,0≤n→n<h→h-n≤64→(n∈L↔s.getLsbD (h-n-1).toNat=true)
theorem Inv.start:Inv [] false 0 0#64:=⟨fun _=>⟨rfl,rfl⟩,fun h=>by cases h⟩
theorem Inv.bound{L:List Int}{t:Bool}{h:Int}{s:BitVec 64}(x:Inv L t h s):t=true→0≤h∧h<4294967295:=fun ht=>⟨(x.some_ ht).2.1,(x.some_ ht).2.2.1⟩
theorem Inv.check{L:List Int}{t:Bool}{h:Int}{s:BitVec 64}(x:Inv L t h s)(n:Int):winCheck t h s n=refCheck L n:=by
 by_cases h1:n<0∨4294967295≤n
 ·unfold winCheck refCheck
  rw[if_pos h1,if_pos (show n<0∨4294967294<n by omega)]
 have er:refCheck L n=if n<hiL L-64 then 11 else if n∈L then 7 else 0:=by unfold refCheck;rw[if_neg (show¬(n<0∨4294967294<n) by omega)]
 have ew:winCheck t h s n=if t=false∨h<n then 0 else if n=h then 7 else if 64<h-n then 11 else if s.getLsbD (h-n-1).toNat then 7 else 0:=by unfold winCheck;rw[if_neg h1]
 rw[er,ew]
 cases t with
 |false=>
  obtain⟨rfl,-⟩:=x.none_ rfl
  rw[if_pos (show false=false∨h<n from .inl rfl),if_neg (show¬n<hiL []-64 by simp[hiL];omega),if_neg (show n∉ ([]:List Int) by simp)]
 |true=>
  obtain⟨e,b0,b1,hm,hle,hbit⟩:=x.some_ rfl
  rw[←e]
  by_cases h2:h<n
  ·rw[if_pos (show true=false∨h<n from .inr h2),if_neg (show¬n<h-64 by omega),if_neg (show n∉L from fun hn=>by have:=hle n hn;omega)]
  rw[if_neg (show¬(true=false∨h<n) by simp;omega)]
  by_cases h3:n=h
  ·rw[if_pos h3,if_neg (show¬n<h-64 by omega),if_pos (show n∈L by rw[h3];exact hm)]
  rw[if_neg h3]
  by_cases h4:64<h-n
  ·rw[if_pos h4,if_pos (show n<h-64 by omega)]
  rw[if_neg h4,if_neg (show¬n<h-64 by omega)]
  have:=hbit n (by omega) (by omega) (by omega)
  by_cases h5:s.getLsbD (h-n-1).toNat=true
  ·rw[if_pos h5,if_pos (this.2 h5)]
  ·rw[if_neg h5,if_neg (fun hn=>h5 (this.1 hn))]
theorem Inv.mark{L:List Int}{t:Bool}{h:Int}{s:BitVec 64}(x:Inv L t h s)(n:Int)(h0:refCheck L n=0):
 Inv (L++ [n]) (winMark t h s n).1 (winMark t h s n).2.1 (winMark t h s n).2.2:=by
 have hb:0≤n∧n≤4294967294∧hiL L-64≤n∧n∉L:=by
  unfold refCheck at h0
  split at h0
  ·cases h0
  ·split at h0
   ·cases h0
   ·split at h0
    ·cases h0
    ·rename_i a b c
     exact⟨by omega,by omega,by omega,c⟩
 obtain⟨c0,c1,c2,c3⟩:=hb
 cases t with
 |false=>
  obtain⟨rfl,rfl⟩:=x.none_ rfl
  refine⟨fun hf=>by simp[winMark]at hf,fun _=>?_⟩
  simp only[winMark,if_true,List.nil_append]
  refine⟨by simp[hiL];omega,c0,by omega,by simp,by simp,fun m hm0 hm1 _=>?_⟩
  simp;omega
 |true=>
  obtain⟨e,b0,b1,hm,hle,hbit⟩:=x.some_ rfl
  have hnh:n≠h:=fun e=>c3 (e▸hm)
  by_cases hlt:n<h
  ·have ew:winMark true h s n=(true,h,s|||1#64<<<(h-n-1).toNat):=by unfold winMark;rw[if_neg (by simp),if_pos hlt]
   rw[ew]
   dsimp only
   refine⟨fun hf=>by simp at hf,fun _=>⟨?_,b0,b1,by simp[hm],fun y hy=>?_,fun m hm0 hm1 hm2=>?_⟩⟩
   ·simp only[hiL_snoc];rw[if_neg (by omega)];exact e
   ·rcases List.mem_append.1 hy with hy|hy
    ·exact hle y hy
    ·simp at hy;omega
   ·simp only[BitVec.getLsbD_or,BitVec.getLsbD_shiftLeft,BitVec.getLsbD_one,Bool.or_eq_true,Bool.and_eq_true,decide_eq_true_eq,List.mem_append,List.mem_singleton,hbit m hm0 hm1 hm2,Bool.not_eq_true',decide_eq_false_iff_not]
    constructor
    ·rintro(h|h)
     ·exact .inl h
     ·right;refine⟨⟨by omega,by omega⟩,by omega⟩
    ·rintro(h|⟨⟨h1,h2⟩,h3⟩)
     ·exact .inl h
     ·right;omega
  ·have ew:winMark true h s n=(true,n,s<<<(n-h).toNat|||1#64<<<(n-h-1).toNat):=by unfold winMark;rw[if_neg (by simp),if_neg hlt]
   rw[ew]
   dsimp only
   refine⟨fun hf=>by simp at hf,fun _=>⟨?_,c0,by omega,by simp,fun y hy=>?_,fun m hm0 hm1 hm2=>?_⟩⟩
   ·simp only[hiL_snoc];rw[if_pos (by omega)]
   ·rcases List.mem_append.1 hy with hy|hy
    ·have:=hle y hy;omega
    ·simp at hy;omega
   ·simp only[BitVec.getLsbD_or,BitVec.getLsbD_shiftLeft,BitVec.getLsbD_one,Bool.or_eq_true,Bool.and_eq_true,decide_eq_true_eq,List.mem_append,List.mem_singleton,Bool.not_eq_true',decide_eq_false_iff_not]
    by_cases hmh:m=h
    ·subst hmh
     constructor
     ·intro _;right;refine⟨⟨by omega,by omega⟩,by omega⟩
     ·intro _;exact .inl hm
    ·by_cases hml:m<h
     ·have hq:=hbit m hm0 hml (by omega)
      have ei:(n-m-1).toNat-(n-h).toNat=(h-m-1).toNat:=by omega
      rw[ei,hq]
      constructor
      ·rintro(h|h)
       ·left;exact⟨⟨by omega,by omega⟩,h⟩
       ·omega
      ·rintro(⟨_,h⟩|⟨⟨h1,h2⟩,h3⟩)
       ·exact .inl h
       ·omega
     ·constructor
      ·rintro(h|h)
       ·have:=hle m h;omega
       ·omega
      ·rintro(⟨⟨h1,h2⟩,_⟩|⟨⟨h1,h2⟩,h3⟩)
       ·omega
       ·omega
end Go.Proofs.YtelgjaiknaalkaaDoor
