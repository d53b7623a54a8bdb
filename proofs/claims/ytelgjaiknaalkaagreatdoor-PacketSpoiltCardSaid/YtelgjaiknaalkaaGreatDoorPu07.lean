/- Lemmas. -/
import Derived.Test.YtelgjaiknaalkaaGreatDoorPu06
import Derived.Deep.CutRange
import Derived.Lib.SliceRun
import Derived.Lib.Walk
open Go.Proofs.Tryz
open List renaming setIfInBounds_toArray → qj
open List renaming set_cons_zero → qz
open List renaming set_cons_succ → qv
open List renaming replicate → QL, foldl_cons → J4, mem_cons → Ja, getElem_mem → Q5, length_map → QN, mem_map → QW, length → JT, length_append → QO, flatMap_append → JG, mem_append → QS, mem_singleton → Je, getElem?_eq_getElem → QT, append_nil → Zb, take_of_length_le → Js, length_cons → Jr, getElem?_append_left → Zg, getElem?_append_right → JA, take_append_drop → JV, mem_flatMap → Jk, nodup_append → J9, getElem?_map → Jn, flatMap_cons → JW, length_set → Jy
open Go.Value renaming int → QM, slice → JZ
open Go.RowKit.Below renaming refl → QK
open Nat renaming le_refl → QI, lt_or_ge → Jo, zero_add → JD, le_trans → QX, mul_comm → Jw
open Go.Act renaming put → QJ
open Go.NoPanic renaming normal → Q4
open Go.World renaming cell?_of_block → JK, size_alloc → QQ
set_option linter.unusedVariables false
set_option linter.unusedSimpArgs false
set_option maxRecDepth 100000
set_option maxHeartbeats 8000000
namespace Go.Proofs.YtelgjaiknaalkaaGreatDoor
section
open Go.RowKit
def jE:List Value:=jp (QL 32 0#8) 0 (.slice none 0 0) (.slice none 0 0) 0
theorem qbD:jE.toArray= #[QM .u8 0,QM .u8 0,QM .u8 0,QM .u8 0,QM .u8 0,QM .u8 0,QM .u8 0,QM .u8 0,QM .u8 0,QM .u8 0,QM .u8 0,QM .u8 0,QM .u8 0,QM .u8 0,QM .u8 0,QM .u8 0,QM .u8 0,QM .u8 0,QM .u8 0,QM .u8 0,QM .u8 0,QM .u8 0,QM .u8 0,QM .u8 0,QM .u8 0,QM .u8 0,QM .u8 0,QM .u8 0,QM .u8 0,QM .u8 0,QM .u8 0,QM .u8 0,QM .i64 0,JZ none 0 0,JZ none 0 0,QM .i64 0]:=rfl
theorem zf:prog.built 104 []=some qg.toArray:=by kernel_rfl
theorem jK{P:Program}{fn:Func}{p p2 u:Tmp}{ty ty2:TypeId}{g g2:Nat}(h:fn.results= #[.cell p ty,.cell p2 ty2,.tmp u])(tmps:Array Value)(w:World)(T T2:TypeId)(cs cs2:List Value)(d d2:TypeDesc)(v:Value)
 (hp:tmps.getD p undef= .pointer (some ⟨g,0,none⟩))(hp2:tmps.getD p2 undef= .pointer (some ⟨g2,0,none⟩))(hv:tmps.getD u undef=v)(hA:Blk w g T cs)(hA2:Blk w g2 T2 cs2)
 (hu:P.underlying ty=some d)(hd:d.isRow=true)(hi:(P.info? ty).map (·.size)=some cs.length)(hu2:P.underlying ty2=some d2)(hd2:d2.isRow=true)(hi2:(P.info? ty2).map (·.size)=some cs2.length):
 (results fn tmps).run P w= .ok (.tuple #[.agg cs.toArray,.agg cs2.toArray,v]) w:=by
 subst hv;have hp':tmps[p]?.getD undef= .pointer (some ⟨g,0,none⟩):=by simpa using hp
 have hp2':tmps[p2]?.getD undef= .pointer (some ⟨g2,0,none⟩):=by simpa using hp2
 have hl:=run_loadVar_mid (P:=P) w g 0 ty cs d hA.whole hu hd hi;have hl2:=run_loadVar_mid (P:=P) w g2 0 ty2 cs2 d2 hA2.whole hu2 hd2 hi2;simp[results,h,hp',hp2',asAddr,hl,hl2]
def uQ(rs:List RO)(n:Int):Option RO:=rs.foldl (fun out o=>if o.o.no=n then some o else out) none
def qnC:Option RO→List Value
 |none=>qg
 |some o=>o.cells
theorem qd1(rs:List RO)(o:RO)(n:Int):uQ (rs++ [o]) n=if o.o.no=n then some o else uQ rs n:=by unfold uQ;rw[List.foldl_append];rfl
theorem qd2(n:Int):∀(rs:List RO) (z:jm) (out:Option RO),z=(out.map RO.o).getD Ql→(rs.map RO.o).foldl (fun out o=>if o.no=n then o else out) z=((rs.foldl (fun out o=>if o.o.no=n then some o else out) out).map RO.o).getD Ql
 | [],z,out,h=>h
 |r::rs,z,out,h=>by
  rw[List.map_cons,J4,J4];refine qd2 n rs _ _ ?_;by_cases e:r.o.no=n
  ·rw[if_pos e,if_pos e];rfl
  ·rw[if_neg e,if_neg e];exact h
theorem qe6(n:Int):∀(rs:List RO) (out:Option RO) (r:RO),rs.foldl (fun out o=>if o.o.no=n then some o else out) out=some r→(r∈rs∧r.o.no=n)∨out=some r
 | [],out,r,h=> .inr h
 |x::rs,out,r,h=>by
  rw[J4]at h;rcases qe6 n rs _ r h with⟨h1,h2⟩|h1
  ·exact .inl ⟨List.mem_cons_of_mem _ h1,h2⟩
  ·by_cases e:x.o.no=n
   ·rw[if_pos e]at h1;injection h1 with h1;subst h1;exact .inl ⟨by simp,e⟩
   ·rw[if_neg e]at h1;exact .inr h1
theorem qd3(n:Int):∀(rs:List RO) (out:Option RO),((∃r∈rs,r.o.no=n)∨∃r,out=some r)→∃r,rs.foldl (fun out o=>if o.o.no=n then some o else out) out=some r
 | [],out,h=>by
   rcases h with⟨r,h,-⟩|h
   ·cases h
   ·exact h
 |x::rs,out,h=>by
  rw[J4];refine qd3 n rs _ ?_;by_cases e:x.o.no=n
  ·rw[if_pos e];exact .inr ⟨x,rfl⟩
  ·rw[if_neg e]
   rcases h with⟨r,h,hn⟩|h
   ·rcases Ja.1 h with h|h
    ·subst h;exact absurd hn e
    ·exact .inl ⟨r,h,hn⟩
   ·exact .inr h
theorem qjF(rs:List RO)(n:Int):Qt (rs.map RO.o) n=((uQ rs n).map RO.o).getD Ql∧(∀r,uQ rs n=some r→r∈rs∧r.o.no=n)∧((∃r∈rs,r.o.no=n)→∃r,uQ rs n=some r):=
 ⟨qd2 n rs Ql none rfl,fun r h=>(qe6 n rs none r h).resolve_right (fun e=>by cases e),fun h=>qd3 n rs none (.inl h)⟩
theorem qiE{l:jo}(k:LOK l){n:Int}(hE:qQ l n=0):∃o∈kB l n,o.no=n:=by
 obtain⟨n0,n1,nh,nl,na,nf⟩:=qap hE;have hk:=k.hi;have hl:=k.lowp;by_cases hlo:n<l.place
 ·obtain⟨o,ho,he⟩:=k.all n nl hlo na (by omega)
  exact⟨o,List.mem_append_left _ ho,he⟩
 ·refine⟨ofL (jt l.link (n-l.place).toNat) (l.place+((n-l.place).toNat:Int)),List.mem_append_right _ ((uw _ _ _ _).2 ⟨(n-l.place).toNat,by omega,rfl⟩),?_⟩
  rw[yS];omega
def qd4(w w':World)(x:RL)(n:Int)(e:Ending):Prop:=
 (qQ x.l n≠0→e= .returned (.tuple #[.agg qg.toArray,.agg x.cells.toArray,.int .i64 (qQ x.l n:Int)]))∧
 (qQ x.l n=0→∃(g off c:Nat) (y:RL),e= .returned (.tuple #[.agg (qy n (qS x.l n).key (.slice (some ⟨g,off,none⟩) 12 c)).toArray,.agg y.cells.toArray,.int .i64 0])∧y.l=jR x.l n∧y.At w'∧RO.At w' ⟨qS x.l n,g,off,c⟩∧
  (∀o∈y.rs,o.r∈x.rs.map RO.r∨w.heap.size≤o.r)∧(∀(b off:Nat),y.hA=some ⟨b,off,none⟩→w.heap.size≤b)∧(∀(b off:Nat),y.aA=some ⟨b,off,none⟩→w.heap.size≤b)∧(g∈x.rs.map RO.r∨w.heap.size≤g))∧Below w.heap.size w w'
theorem qhe(w:World)(x:RL)(hx:x.At w)(has:x.l.asked.length≤1000)(n:Int)(n0: -9223372036854775808≤n)(n1:n<9223372036854775808):
 Calls prog 44 #[.agg x.cells.toArray,.int .i64 n] w fun e w'=>qd4 w w' x n e:=by
 unfold qd4;obtain⟨hok,hfst,hrows,hnone,heach,hasked⟩:=hx;have hpt:=hok.top;have hlp:=hok.lowp;have hl0:=hok.low0;have hhi:=hok.hi;obtain⟨m,hm⟩:∃m,m=x.l.asked.length:=⟨_,rfl⟩;have hll:=hok.len;obtain⟨C,hC⟩:∃C,C=x.cells:=⟨_,rfl⟩;have HCl:=qe (show C.length=36 by rw[hC];exact jS hll);have HC1:=qe (show∀u∈C,u.oneCell'=true by rw[hC];exact vX rfl rfl);obtain⟨w1,hw1⟩:∃w1,w1=((w.alloc (.cells C.toArray 89)).alloc (.cells qg.toArray 104)).alloc (.cells jE.toArray 89):=⟨_,rfl⟩
 have HX:=qe (show Blk w1 w.heap.size 89 C by rw[hw1];exact((Blk.new w _ _).alloc _).alloc _);have HZ4:=qe (show Blk w1 (w.heap.size+1) 104 qg by rw[hw1];exact(Blk.at_size _ _ (by simp)).alloc _);have HZ5:=qe (show Blk w1 (w.heap.size+2) 89 jE by rw[hw1];exact Blk.at_size _ _ (by simp));have HB:=qe (show Below w.heap.size w w1 by rw[hw1];exact(((QK _ w).alloc (QI _) _).alloc (by simp) _).alloc (by simp;omega) _)
 have hz1:w.heap.size+3≤w1.heap.size:=by rw[hw1];simp
 have HW1:=qe hw1;have HXx:=qe hC;have HLl:=qe hll;have HOk:=qe hok;have HFs:=qe hfst;have HRw:=qe hrows;have HNn:=qe hnone;have HEa:=qe heach;have HAs:=qe hasked;have HM:=qe hm;have HMs:=qe (show m≤1000 by omega);have hTE:∀E,qQ x.l n=E→qQ x.l n=E:=fun _ h=>h
 rw[←hC];have HHi:=qe hhi;have hdef:=qQ.eq_1 x.l n;have HDef:=qe hdef;clear hC hw1 hok hfst hrows hnone heach hasked hm hll hhi hdef hTE has;by_cases h1:n<0
 ·have hE:qQ x.l n=8:=by rw[HDef.1,if_pos (.inl h1)]
  have HE:=qe hE;clear hE;go_enter func44,ntmps44
  go_upto_region 1 with fail
  have hw1:=HW1.1;simp only[q7,qbD]at hw1
  rw[←hw1];clear hw1;go_upto_region 2 with fail
  have hkS:=HX.1.drew.whole;have hu:=underlying89;have hi36:(prog.info? 89).map (·.size)=some C.length:=by rw[HCl.1];exact qT
  refine wp_region_noPanic ?_;refine wp_region_held_drew (S:=fun w'=>w'.rangeAt w.heap.size 0 C) (by kernel_rfl) hkS (fun hS=>?_);refine tkK 0 (.agg qg.toArray) rfl rfl (Or.inl ⟨by rfl,fun w' _=>zn rfl _ rfl zf w'⟩) hS ?_;refine tkK 1 (.agg C.toArray) rfl rfl (yieldsIf_load_mid (by rfl) 89 (.tmp 2) rfl w.heap.size 0 rfl C _ (fun _ h=>h) hu rfl hi36) hS ?_;try simp only[QJ,qj,qz,qv]
  refine rdH 2 (fun K' hK=>?_);rw[if_pos (by rfl)];refine qo 104 (.tmp 4) (.tmp 18) rfl (w.heap.size+1) 0 rfl qg rfl _ _ [] qg [] HZ4.1.drew (by simp) rfl rfl jg (qF _ _ _ _ _) ?_;intro w6 hx6 hg6;have HX6:=qe (show Blk w6 (w.heap.size+1) 104 qg from hx6.cast (by simp));have HL6:=qe (HX.1.drew.grown hg6 (fun e=>by injection e with e;omega));have HZ6:=qe (HZ5.1.drew.grown hg6 (fun e=>by injection e with e;omega))
  have HB6:=qe (HB.1.drew.grown hg6 HB.1.size (fun k e=>by cases e;omega));clear hx6 hg6;refine hK.out _ _ (HL6.1.whole) (fun hS=>?_);clear hK K';try simp only[QJ,qj,qz,qv]
  refine rdH 3 (fun K' hK=>?_);rw[if_pos (by rfl)];refine qo 89 (.tmp 5) (.tmp 19) rfl (w.heap.size+2) 0 rfl C rfl _ _ [] jE [] HZ6.1 (by simp) rfl (by rw[HCl.1];rfl) (by rw[HCl.1];exact qT) HC1.1 ?_;intro w7 hx7 hg7;have HX7:=qe (show Blk w7 (w.heap.size+2) 89 C from hx7.cast (by simp));have HY7:=qe (HX6.1.grown hg7 (fun e=>by injection e with e;omega));have HL7:=qe (HL6.1.grown hg7 (fun e=>by injection e with e;omega))
  have HB7:=qe (HB6.1.grown hg7 HB6.1.size (fun k e=>by cases e;omega));clear hx7 hg7;refine hK.out _ _ (HL7.1.whole) (fun hS=>?_);clear hK K';try simp only[QJ,qj,qz,qv]
  refine rdH 4 (fun K' hK=>?_);go_simp;refine hK.out _ _ (HL7.1.whole) (fun hS=>?_);clear hK K';try simp only[QJ,qj,qz,qv]
  refine wpAnyH_done (by kernel_rfl) ?_ _;refine Q4 ?_;go_wp2_with fail
  refine bodyPost_ret (v:= .tuple #[.agg qg.toArray,.agg C.toArray,.int .i64 8]) (jK (g:=w.heap.size+1) (g2:=w.heap.size+2) rfl _ _ _ _ _ _ _ _ _ rfl rfl rfl HY7.1 HX7.1 underlying104 rfl jg underlying89 rfl (by rw[HCl.1];exact qT)) rfl ?_;exact⟨fun _=>by rw[HE.1];rfl,fun h0=>absurd h0 (by rw[HE.1];decide),HB7.1⟩
 by_cases h2:n>4294967294
 ·have hE:qQ x.l n=8:=by rw[HDef.1,if_pos (.inr h2)]
  have HE:=qe hE;clear hE;go_enter func44,ntmps44
  go_upto_region 1 with fail
  have hw1:=HW1.1;simp only[q7,qbD]at hw1
  rw[←hw1];clear hw1;go_upto_region 2 with fail
  have hkS:=HX.1.drew.whole;have hu:=underlying89;have hi36:(prog.info? 89).map (·.size)=some C.length:=by rw[HCl.1];exact qT
  refine wp_region_noPanic ?_;refine wp_region_held_drew (S:=fun w'=>w'.rangeAt w.heap.size 0 C) (by kernel_rfl) hkS (fun hS=>?_);refine tkK 0 (.agg qg.toArray) rfl rfl (Or.inl ⟨by rfl,fun w' _=>zn rfl _ rfl zf w'⟩) hS ?_;refine tkK 1 (.agg C.toArray) rfl rfl (yieldsIf_load_mid (by rfl) 89 (.tmp 2) rfl w.heap.size 0 rfl C _ (fun _ h=>h) hu rfl hi36) hS ?_;try simp only[QJ,qj,qz,qv]
  refine rdH 2 (fun K' hK=>?_);rw[if_pos (by rfl)];refine qo 104 (.tmp 4) (.tmp 18) rfl (w.heap.size+1) 0 rfl qg rfl _ _ [] qg [] HZ4.1.drew (by simp) rfl rfl jg (qF _ _ _ _ _) ?_;intro w6 hx6 hg6;have HX6:=qe (show Blk w6 (w.heap.size+1) 104 qg from hx6.cast (by simp));have HL6:=qe (HX.1.drew.grown hg6 (fun e=>by injection e with e;omega));have HZ6:=qe (HZ5.1.drew.grown hg6 (fun e=>by injection e with e;omega))
  have HB6:=qe (HB.1.drew.grown hg6 HB.1.size (fun k e=>by cases e;omega));clear hx6 hg6;refine hK.out _ _ (HL6.1.whole) (fun hS=>?_);clear hK K';try simp only[QJ,qj,qz,qv]
  refine rdH 3 (fun K' hK=>?_);rw[if_pos (by rfl)];refine qo 89 (.tmp 5) (.tmp 19) rfl (w.heap.size+2) 0 rfl C rfl _ _ [] jE [] HZ6.1 (by simp) rfl (by rw[HCl.1];rfl) (by rw[HCl.1];exact qT) HC1.1 ?_;intro w7 hx7 hg7;have HX7:=qe (show Blk w7 (w.heap.size+2) 89 C from hx7.cast (by simp));have HY7:=qe (HX6.1.grown hg7 (fun e=>by injection e with e;omega));have HL7:=qe (HL6.1.grown hg7 (fun e=>by injection e with e;omega))
  have HB7:=qe (HB6.1.grown hg7 HB6.1.size (fun k e=>by cases e;omega));clear hx7 hg7;refine hK.out _ _ (HL7.1.whole) (fun hS=>?_);clear hK K';try simp only[QJ,qj,qz,qv]
  refine rdH 4 (fun K' hK=>?_);go_simp;refine hK.out _ _ (HL7.1.whole) (fun hS=>?_);clear hK K';try simp only[QJ,qj,qz,qv]
  refine wpAnyH_done (by kernel_rfl) ?_ _;refine Q4 ?_;go_wp2_with fail
  refine bodyPost_ret (v:= .tuple #[.agg qg.toArray,.agg C.toArray,.int .i64 8]) (jK (g:=w.heap.size+1) (g2:=w.heap.size+2) rfl _ _ _ _ _ _ _ _ _ rfl rfl rfl HY7.1 HX7.1 underlying104 rfl jg underlying89 rfl (by rw[HCl.1];exact qT)) rfl ?_;exact⟨fun _=>by rw[HE.1];rfl,fun h0=>absurd h0 (by rw[HE.1];decide),HB7.1⟩
 go_enter func44,ntmps44
 go_upto_region 1 with fail
 have hw1:=HW1.1;simp only[q7,qbD]at hw1
 rw[←hw1];clear hw1;have h1':¬(n<0):=h1;have h2':¬(n>4294967294):=h2;have hH:=qe5 w1 x.l.link HLl.1 x.l.place x.l.low (.slice x.hA x.rs.length x.hc) w.heap.size x.aA m x.ac x.l.asked (HAs.1.below HB.1) HB.1.size HM.1.symm (by have:=HMs.1;omega) (by omega) (by omega);rw[show jp x.l.link x.l.place (.slice x.hA x.rs.length x.hc) (.slice x.aA m x.ac) x.l.low=C by rw[HXx.1,HM.1];rfl,show hiA x.l.asked x.l.low=x.l.place-1 from HHi.1]at hH
 have HH:=qe hH;have hnlow:¬(n<0∨4294967294<n):=by omega
 have HNl:=qe hnlow;obtain⟨P,hP⟩:∃P,P=x.l.place:=⟨_,rfl⟩;obtain⟨Lw,hLw⟩:∃Lw,Lw=x.l.low:=⟨_,rfl⟩;rw[←hP]at HH hpt hlp;rw[←hLw]at hlp hl0;have HPe:=qe hP;have HLe:=qe hLw;have hi36:(prog.info? 89).map (·.size)=some C.length:=by rw[HCl.1];exact qT
 have HI36:=qe hi36;clear hH hnlow hP hLw h1 h2 hi36;go_wp2_with (refine wpList_load_mid rfl 89 (.tmp 2) rfl w.heap.size 0 rfl C _ HX.1.whole underlying89 rfl HI36.1 ?_)
 refine HH.1.mono ?_;rintro e w2 ⟨rfl,hb2⟩;have HX2:=qe (HX.1.below hb2 (by omega));have HZ42:=qe (HZ4.1.below hb2 (by omega));have HZ52:=qe (HZ5.1.below hb2 (by omega));have HB2:=qe (HB.1.trans (hb2.mono (by omega)));have hz2:=hb2.size;clear hb2 HX HZ4 HZ5 HB HW1;have HX:=HX2;have HZ4:=HZ42;have HZ5:=HZ52;have HB:=HB2;clear HX2 HZ42 HZ52 HB2;by_cases h3:n<P-1-64
 ·have hE:qQ x.l n=11:=by rw[HDef.1,if_neg HNl.1,if_pos (by rw[HHi.1,←HPe.1];exact h3)]
  have HE:=qe hE;clear hE;go_upto_region 4 with fail
  have hkS:=HX.1.drew.whole;have hu:=underlying89;have hi36:(prog.info? 89).map (·.size)=some C.length:=by rw[HCl.1];exact qT
  refine wp_region_noPanic ?_;refine wp_region_held_drew (S:=fun w'=>w'.rangeAt w.heap.size 0 C) (by kernel_rfl) hkS (fun hS=>?_);refine tkK 0 (.agg qg.toArray) rfl rfl (Or.inl ⟨by rfl,fun w' _=>zn rfl _ rfl zf w'⟩) hS ?_;refine tkK 1 (.agg C.toArray) rfl rfl (yieldsIf_load_mid (by rfl) 89 (.tmp 2) rfl w.heap.size 0 rfl C _ (fun _ h=>h) hu rfl hi36) hS ?_;try simp only[QJ,qj,qz,qv]
  refine rdH 2 (fun K' hK=>?_);rw[if_pos (by rfl)];refine qo 104 (.tmp 4) (.tmp 25) rfl (w.heap.size+1) 0 rfl qg rfl _ _ [] qg [] HZ4.1.drew (by simp) rfl rfl jg (qF _ _ _ _ _) ?_;intro w6 hx6 hg6;have HX6:=qe (show Blk w6 (w.heap.size+1) 104 qg from hx6.cast (by simp));have HL6:=qe (HX.1.drew.grown hg6 (fun e=>by injection e with e;omega));have HZ6:=qe (HZ5.1.drew.grown hg6 (fun e=>by injection e with e;omega))
  have HB6:=qe (HB.1.drew.grown hg6 HB.1.size (fun k e=>by cases e;omega));clear hx6 hg6;refine hK.out _ _ (HL6.1.whole) (fun hS=>?_);clear hK K';try simp only[QJ,qj,qz,qv]
  refine rdH 3 (fun K' hK=>?_);rw[if_pos (by rfl)];refine qo 89 (.tmp 5) (.tmp 26) rfl (w.heap.size+2) 0 rfl C rfl _ _ [] jE [] HZ6.1 (by simp) rfl (by rw[HCl.1];rfl) (by rw[HCl.1];exact qT) HC1.1 ?_;intro w7 hx7 hg7;have HX7:=qe (show Blk w7 (w.heap.size+2) 89 C from hx7.cast (by simp));have HY7:=qe (HX6.1.grown hg7 (fun e=>by injection e with e;omega));have HL7:=qe (HL6.1.grown hg7 (fun e=>by injection e with e;omega))
  have HB7:=qe (HB6.1.grown hg7 HB6.1.size (fun k e=>by cases e;omega));clear hx7 hg7;refine hK.out _ _ (HL7.1.whole) (fun hS=>?_);clear hK K';try simp only[QJ,qj,qz,qv]
  refine rdH 4 (fun K' hK=>?_);go_simp;refine hK.out _ _ (HL7.1.whole) (fun hS=>?_);clear hK K';try simp only[QJ,qj,qz,qv]
  refine wpAnyH_done (by kernel_rfl) ?_ _;refine Q4 ?_;go_wp2_with fail
  refine bodyPost_ret (v:= .tuple #[.agg qg.toArray,.agg C.toArray,.int .i64 11]) (jK (g:=w.heap.size+1) (g2:=w.heap.size+2) rfl _ _ _ _ _ _ _ _ _ rfl rfl rfl HY7.1 HX7.1 underlying104 rfl jg underlying89 rfl (by rw[HCl.1];exact qT)) rfl ?_;exact⟨fun _=>by rw[HE.1];rfl,fun h0=>absurd h0 (by rw[HE.1];decide),HB7.1⟩
 have h3e:¬(n<hiM x.l-64):=by rw[HHi.1,←HPe.1];exact h3
 have H3:=qe h3e;have c35:=HX.1.cell 35 (u:= .int .i64 Lw) (by rw[HXx.1,HLe.1];exact qg9 HLl.1);clear h3e;by_cases h4:n<Lw
 ·have hE:qQ x.l n=7:=by rw[HDef.1,if_neg HNl.1,if_neg (show¬(n<hiM x.l-64)from by have:=H3.1;omega),if_pos (by rw[←HLe.1];exact h4)]
  have HE:=qe hE;clear hE;go_upto_region 6 with fail
  have hkS:=HX.1.drew.whole;have hu:=underlying89;have hi36:(prog.info? 89).map (·.size)=some C.length:=by rw[HCl.1];exact qT
  refine wp_region_noPanic ?_;refine wp_region_held_drew (S:=fun w'=>w'.rangeAt w.heap.size 0 C) (by kernel_rfl) hkS (fun hS=>?_);refine tkK 0 (.agg qg.toArray) rfl rfl (Or.inl ⟨by rfl,fun w' _=>zn rfl _ rfl zf w'⟩) hS ?_;refine tkK 1 (.agg C.toArray) rfl rfl (yieldsIf_load_mid (by rfl) 89 (.tmp 2) rfl w.heap.size 0 rfl C _ (fun _ h=>h) hu rfl hi36) hS ?_;try simp only[QJ,qj,qz,qv]
  refine rdH 2 (fun K' hK=>?_);rw[if_pos (by rfl)];refine qo 104 (.tmp 4) (.tmp 31) rfl (w.heap.size+1) 0 rfl qg rfl _ _ [] qg [] HZ4.1.drew (by simp) rfl rfl jg (qF _ _ _ _ _) ?_;intro w6 hx6 hg6;have HX6:=qe (show Blk w6 (w.heap.size+1) 104 qg from hx6.cast (by simp));have HL6:=qe (HX.1.drew.grown hg6 (fun e=>by injection e with e;omega));have HZ6:=qe (HZ5.1.drew.grown hg6 (fun e=>by injection e with e;omega))
  have HB6:=qe (HB.1.drew.grown hg6 HB.1.size (fun k e=>by cases e;omega));clear hx6 hg6;refine hK.out _ _ (HL6.1.whole) (fun hS=>?_);clear hK K';try simp only[QJ,qj,qz,qv]
  refine rdH 3 (fun K' hK=>?_);rw[if_pos (by rfl)];refine qo 89 (.tmp 5) (.tmp 32) rfl (w.heap.size+2) 0 rfl C rfl _ _ [] jE [] HZ6.1 (by simp) rfl (by rw[HCl.1];rfl) (by rw[HCl.1];exact qT) HC1.1 ?_;intro w7 hx7 hg7;have HX7:=qe (show Blk w7 (w.heap.size+2) 89 C from hx7.cast (by simp));have HY7:=qe (HX6.1.grown hg7 (fun e=>by injection e with e;omega));have HL7:=qe (HL6.1.grown hg7 (fun e=>by injection e with e;omega))
  have HB7:=qe (HB6.1.grown hg7 HB6.1.size (fun k e=>by cases e;omega));clear hx7 hg7;refine hK.out _ _ (HL7.1.whole) (fun hS=>?_);clear hK K';try simp only[QJ,qj,qz,qv]
  refine rdH 4 (fun K' hK=>?_);go_simp;refine hK.out _ _ (HL7.1.whole) (fun hS=>?_);clear hK K';try simp only[QJ,qj,qz,qv]
  refine wpAnyH_done (by kernel_rfl) ?_ _;refine Q4 ?_;go_wp2_with fail
  refine bodyPost_ret (v:= .tuple #[.agg qg.toArray,.agg C.toArray,.int .i64 7]) (jK (g:=w.heap.size+1) (g2:=w.heap.size+2) rfl _ _ _ _ _ _ _ _ _ rfl rfl rfl HY7.1 HX7.1 underlying104 rfl jg underlying89 rfl (by rw[HCl.1];exact qT)) rfl ?_;exact⟨fun _=>by rw[HE.1];rfl,fun h0=>absurd h0 (by rw[HE.1];decide),HB7.1⟩
 have h4e:¬(n<x.l.low):=by rw[←HLe.1];exact h4
 have H4:=qe h4e;have c34:=HX.1.cell 34 (u:= .slice x.aA m x.ac) (by rw[HXx.1,HM.1];exact qb9 HLl.1);have HAs2:=qe (HAs.1.below HB.1);clear h4e;go_wp2_with fail
 go_loopw [7] (fun v wr=>∃k:Nat,v= .int .i64 (k:Int)∧k≤m∧(∀(i:Nat) (h:i<x.l.asked.length),i<k→x.l.asked[i]≠n)∧wr=w2) (fun v _=>m-(intOf v).toNat)
 case atStart=>exact⟨0,rfl,by omega,fun i h hi=>by omega,rfl⟩
 case round=>
  obtain⟨k,rfl,hk,hno,rfl⟩:=hrel;have HNo:=qe hno;have hm1000:=HMs.1;clear hno;by_cases hlt:k<m
  ·have hkl:k<x.l.asked.length:=by rw[←HM.1];exact hlt
   obtain⟨b,off,hAeq,hBk,hck⟩:=HAs2.1.at_ hkl;obtain⟨q,hq⟩:∃q,q=x.l.asked[k]:=⟨_,rfl⟩;rw[←hq]at hck;have HQ:=qe hq;have hck':wr.cell? ⟨b,off+k,none⟩=some (.int .i64 q):=hck;have hlk:(k:Int)<(m:Int):=by omega
   rw[hAeq]at c34;have HAq:=qe hAeq;clear hck hq hAeq;by_cases hx:q=n
   ·have hE:qQ x.l n=7:=by
     rw[HDef.1,if_neg HNl.1,if_neg (show¬(n<hiM x.l-64)from by have:=H3.1;omega),if_neg (show¬(n<x.l.low)from by have:=H4.1;omega),if_pos (by rw[←hx,HQ.1];exact Q5 hkl)]
    have HE:=qe hE;clear hE;subst hx;go_upto_region 11 with fail
    have hkS:=HX.1.drew.whole;have hu:=underlying89;have hi36:(prog.info? 89).map (·.size)=some C.length:=by rw[HCl.1];exact qT
    refine wp_region_noPanic ?_;refine wp_region_held_drew (S:=fun w'=>w'.rangeAt w.heap.size 0 C) (by kernel_rfl) hkS (fun hS=>?_);refine tkK 0 (.agg qg.toArray) rfl rfl (Or.inl ⟨by rfl,fun w' _=>zn rfl _ rfl zf w'⟩) hS ?_;refine tkK 1 (.agg C.toArray) rfl rfl (yieldsIf_load_mid (by rfl) 89 (.tmp 2) rfl w.heap.size 0 rfl C _ (fun _ h=>h) hu rfl hi36) hS ?_;try simp only[QJ,qj,qz,qv]
    refine rdH 2 (fun K' hK=>?_);rw[if_pos (by rfl)];refine qo 104 (.tmp 4) (.tmp 47) rfl (w.heap.size+1) 0 rfl qg rfl _ _ [] qg [] HZ4.1.drew (by simp) rfl rfl jg (qF _ _ _ _ _) ?_;intro w6 hx6 hg6;have HX6:=qe (show Blk w6 (w.heap.size+1) 104 qg from hx6.cast (by simp));have HL6:=qe (HX.1.drew.grown hg6 (fun e=>by injection e with e;omega));have HZ6:=qe (HZ5.1.drew.grown hg6 (fun e=>by injection e with e;omega))
    have HB6:=qe (HB.1.drew.grown hg6 HB.1.size (fun k e=>by cases e;omega));clear hx6 hg6;refine hK.out _ _ (HL6.1.whole) (fun hS=>?_);clear hK K';try simp only[QJ,qj,qz,qv]
    refine rdH 3 (fun K' hK=>?_);rw[if_pos (by rfl)];refine qo 89 (.tmp 5) (.tmp 48) rfl (w.heap.size+2) 0 rfl C rfl _ _ [] jE [] HZ6.1 (by simp) rfl (by rw[HCl.1];rfl) (by rw[HCl.1];exact qT) HC1.1 ?_;intro w7 hx7 hg7;have HX7:=qe (show Blk w7 (w.heap.size+2) 89 C from hx7.cast (by simp));have HY7:=qe (HX6.1.grown hg7 (fun e=>by injection e with e;omega));have HL7:=qe (HL6.1.grown hg7 (fun e=>by injection e with e;omega))
    have HB7:=qe (HB6.1.grown hg7 HB6.1.size (fun k e=>by cases e;omega));clear hx7 hg7;refine hK.out _ _ (HL7.1.whole) (fun hS=>?_);clear hK K';try simp only[QJ,qj,qz,qv]
    refine rdH 4 (fun K' hK=>?_);go_simp;refine hK.out _ _ (HL7.1.whole) (fun hS=>?_);clear hK K';try simp only[QJ,qj,qz,qv]
    refine wpAnyH_done (by kernel_rfl) ?_ _;refine Q4 ?_;go_wp2_with fail
    refine bodyPost_ret (v:= .tuple #[.agg qg.toArray,.agg C.toArray,.int .i64 7]) (jK (g:=w.heap.size+1) (g2:=w.heap.size+2) rfl _ _ _ _ _ _ _ _ _ rfl rfl rfl HY7.1 HX7.1 underlying104 rfl jg underlying89 rfl (by rw[HCl.1];exact qT)) rfl ?_;exact⟨fun _=>by rw[HE.1];rfl,fun h0=>absurd h0 (by rw[HE.1];decide),HB7.1⟩
   ·go_wp2_with fail
    have hst:∀(i:Nat) (h:i<x.l.asked.length),i<k+1→x.l.asked[i]≠n:=fun i h hi=>by
     rcases Jo i k with h9|h9
     ·exact HNo.1 i h h9
     ·have:i=k:=by omega
      subst this;rw[←HQ.1];exact hx
    refine⟨⟨k+1,by go_num,by omega,hst,trivial⟩,?_⟩;simp[intOf]<;>omega
  ·obtain rfl:m=k:=by omega
   have hna:n∉x.l.asked:=fun h=>by
    obtain⟨i,hi,e⟩:=List.getElem_of_mem h;exact HNo.1 i hi (by rw[HM.1];exact hi) e
   have HNa:=qe hna;have c32:=HX.1.cell 32 (u:= .int .i64 P) (by rw[HXx.1,HPe.1];exact qb8 HLl.1);clear hna;by_cases hf:P<n∧256<n-P
   ·have hE:qQ x.l n=12:=by
     rw[HDef.1,if_neg HNl.1,if_neg (show¬(n<hiM x.l-64)from by have:=H3.1;omega),if_neg (show¬(n<x.l.low)from by have:=H4.1;omega),if_neg HNa.1,if_pos (by rw[←HPe.1];exact hf)]
    have HE:=qe hE;clear hE;obtain⟨hf1,hf2⟩:=hf;have hf1':n>P:=hf1;have hf2':n-P>256:=hf2;go_upto_region 13 with fail
    have hkS:=HX.1.drew.whole;have hu:=underlying89;have hi36:(prog.info? 89).map (·.size)=some C.length:=by rw[HCl.1];exact qT
    refine wp_region_noPanic ?_;refine wp_region_held_drew (S:=fun w'=>w'.rangeAt w.heap.size 0 C) (by kernel_rfl) hkS (fun hS=>?_);refine tkK 0 (.agg qg.toArray) rfl rfl (Or.inl ⟨by rfl,fun w' _=>zn rfl _ rfl zf w'⟩) hS ?_;refine tkK 1 (.agg C.toArray) rfl rfl (yieldsIf_load_mid (by rfl) 89 (.tmp 2) rfl w.heap.size 0 rfl C _ (fun _ h=>h) hu rfl hi36) hS ?_;try simp only[QJ,qj,qz,qv]
    refine rdH 2 (fun K' hK=>?_);rw[if_pos (by rfl)];refine qo 104 (.tmp 4) (.tmp 60) rfl (w.heap.size+1) 0 rfl qg rfl _ _ [] qg [] HZ4.1.drew (by simp) rfl rfl jg (qF _ _ _ _ _) ?_;intro w6 hx6 hg6;have HX6:=qe (show Blk w6 (w.heap.size+1) 104 qg from hx6.cast (by simp));have HL6:=qe (HX.1.drew.grown hg6 (fun e=>by injection e with e;omega));have HZ6:=qe (HZ5.1.drew.grown hg6 (fun e=>by injection e with e;omega))
    have HB6:=qe (HB.1.drew.grown hg6 HB.1.size (fun k e=>by cases e;omega));clear hx6 hg6;refine hK.out _ _ (HL6.1.whole) (fun hS=>?_);clear hK K';try simp only[QJ,qj,qz,qv]
    refine rdH 3 (fun K' hK=>?_);rw[if_pos (by rfl)];refine qo 89 (.tmp 5) (.tmp 61) rfl (w.heap.size+2) 0 rfl C rfl _ _ [] jE [] HZ6.1 (by simp) rfl (by rw[HCl.1];rfl) (by rw[HCl.1];exact qT) HC1.1 ?_;intro w7 hx7 hg7;have HX7:=qe (show Blk w7 (w.heap.size+2) 89 C from hx7.cast (by simp));have HY7:=qe (HX6.1.grown hg7 (fun e=>by injection e with e;omega));have HL7:=qe (HL6.1.grown hg7 (fun e=>by injection e with e;omega))
    have HB7:=qe (HB6.1.grown hg7 HB6.1.size (fun k e=>by cases e;omega));clear hx7 hg7;refine hK.out _ _ (HL7.1.whole) (fun hS=>?_);clear hK K';try simp only[QJ,qj,qz,qv]
    refine rdH 4 (fun K' hK=>?_);go_simp;refine hK.out _ _ (HL7.1.whole) (fun hS=>?_);clear hK K';try simp only[QJ,qj,qz,qv]
    refine wpAnyH_done (by kernel_rfl) ?_ _;refine Q4 ?_;go_wp2_with fail
    refine bodyPost_ret (v:= .tuple #[.agg qg.toArray,.agg C.toArray,.int .i64 12]) (jK (g:=w.heap.size+1) (g2:=w.heap.size+2) rfl _ _ _ _ _ _ _ _ _ rfl rfl rfl HY7.1 HX7.1 underlying104 rfl jg underlying89 rfl (by rw[HCl.1];exact qT)) rfl ?_;exact⟨fun _=>by rw[HE.1];rfl,fun h0=>absurd h0 (by rw[HE.1];decide),HB7.1⟩
   have hE:qQ x.l n=0:=by
    rw[HDef.1,if_neg HNl.1,if_neg (show¬(n<hiM x.l-64)from by have:=H3.1;omega),if_neg (show¬(n<x.l.low)from by have:=H4.1;omega),if_neg HNa.1,if_neg (by rw[←HPe.1];exact hf)]
   have HE:=qe hE;clear hE;go_upto_region 12 with fail
   go_cut [59]from 49 to 59 (fun v wx=>v= .bool false∧wx=wr)
   case first=>
    by_cases hf1:P<n
    ·have hf2:¬(n-P>256):=by omega
     have hf1':n>P:=hf1;go_wp2_with fail
     go_meet
     case rel=>exact⟨rfl,rfl⟩
    ·have hf1':¬(n>P):=hf1
     go_wp2_with fail
     go_meet
     case rel=>exact⟨rfl,rfl⟩
   case rest=>
    obtain⟨rfl,rfl⟩:=hcut;obtain⟨ir,hir,hrz,hrs,hrb⟩:=info_parts qkV;obtain⟨ii,hii,hiz,his,hib⟩:=info_parts qmv;have hrl:x.rs.length=x.l.held.length:=by rw[←HFs.1,QN]
    have hrl64:x.rs.length≤64:=by rw[hrl];exact HOk.1.held_len
    have HFl:=qe (RO.flat_len HEa.1);obtain⟨B0,hB0⟩:∃B0,B0=wc.heap.size:=⟨_,rfl⟩;have hB3:w.heap.size+3≤B0:=by omega
    have hB4:B0≤wc.heap.size:=by omega
    have HOw0:=qe (show(wc.alloc (.cells #[] 104)).ownsRow B0 104 34 (.slice (some ⟨wc.heap.size,0,none⟩) 0 0) 0 []from by
     have h:=World.ownsRow_lit (base:=B0) (e:=104) (size:=34) wc #[] 0 (by omega) (by decide) (by simp);simpa using h)
    have HRw3:=qe (HRw.1.below (HB.1.alloc HB.1.size (.cells #[] 104)));have c33:=HX.1.cell 33 (u:= .slice x.hA x.rs.length x.hc) (by rw[HXx.1];exact qg8 HLl.1);have hzc:w.heap.size<wc.heap.size:=by omega
    clear hrl hB0 c35 c34;go_upto_region 15 with(at_builtin;refine qbC rfl _ _ 87 rfl 34 (by decide) B0 104 ir (.agg qg.toArray) 64 underlying87 hir hrz hrs hrb rfl _ _ _ rfl HOw0.1 w.heap.size x.hA x.rs.length x.hc (x.rs.flatMap RO.cells) rfl HFl.1 HNn.1 HRw3.1 (RO.flat_one _) (by unfold maxLen;omega) (by omega) (by simp;omega) ?_;intro v8 w3 hown3 hg3 hbb3)
    have hbw:Below B0 wc w3:=hbb3 B0 wc (QI _) ((QK _ wc).alloc hB4 _);have hbt:Below w.heap.size w w3:=hbb3 w.heap.size w (by omega) (HB.1.alloc HB.1.size _);rw[JD,List.nil_append]at hown3;have HOw3:=qe hown3;obtain⟨HV,hHV⟩:∃HV,HV=JZ x.hA x.rs.length x.hc:=⟨_,rfl⟩;obtain⟨AV,hAV⟩:∃AV,AV=JZ x.aA m x.ac:=⟨_,rfl⟩;have HAVe:=qe hAV;have HX3:=qe (show Blk w3 w.heap.size 89 (jp (jt x.l.link 0) (P+((0:Nat):Int)) HV AV Lw) by
     have h:=HX.1.below hbw (by omega);rw[HXx.1]at h;refine h.cast ?_;rw[hHV,hAV,HM.1,HPe.1,HLe.1];show jp x.l.link x.l.place _ _ _=jp x.l.link (x.l.place+0) _ _ _;rw[Int.add_zero])
    have HV1:=qe (show HV.oneCell'=true by rw[hHV];rfl);have HAV1:=qe (show AV.oneCell'=true by rw[hAV];rfl);have HZ43:=qe (HZ4.1.below hbw (by omega));have HZ53:=qe (HZ5.1.below hbw (by omega));have HE3:=qe (show∀o∈x.rs,o.At w3 from fun o ho=>(HEa.1 o ho).below hbt (QI _));have HB3:=qe hbt;have hz3:B0≤w3.heap.size:=QX hB4 hbw.size;obtain⟨K,hK⟩:∃K:Nat,K=(n+1-P).toNat:=⟨_,rfl⟩
    have hK1:K≤257:=by omega
    have hKn:∀k:Nat,(k<K)↔P+(k:Int)≤n:=fun k=>by omega
    have HKn:=qe hKn;have HKe:=qe hK;have HH3:=qe (show x.rs.map RO.o=x.l.held++uv x.l.link P 0 by rw[HFs.1];simp[uv]);have hP0:0≤P:=by omega
    obtain⟨H0,hH0⟩:∃H0,H0=x.l.held.length:=⟨_,rfl⟩;have hH64:H0≤64:=by rw[hH0];exact HOk.1.held_len
    have HH0:=qe hH0;obtain⟨A3,c3,hv3,-,-,-,-⟩:=qX hown3;rw[hv3]at HOw3;subst hv3;clear hown3 hg3 hbb3 hbw hbt hHV hAV hK hKn HX HZ4 HZ5 HB HOw0 HRw3 c33 c32 hH0 hzc hB4 hz2;go_wp2_with fail
    go_loopw [8] (fun v wr=>∃(k:Nat) (rs2:List RO),k≤K∧wr.ownsRow B0 104 34 v rs2.length (rs2.flatMap RO.cells)∧rs2.map RO.o=x.l.held++uv x.l.link P k∧(∀o∈rs2,o.At wr)∧(∀o∈rs2,o.r∈x.rs.map RO.r∨w.heap.size≤o.r)∧Blk wr w.heap.size 89 (jp (jt x.l.link k) (P+(k:Int)) HV AV Lw)∧Blk wr (w.heap.size+1) 104 qg∧Blk wr (w.heap.size+2) 89 jE∧Below w.heap.size w wr∧B0≤wr.heap.size) (fun v _=>H0+K-qoH v)
    case atStart=>exact⟨0,x.rs,by omega,HOw3.1,HH3.1,HE3.1,fun o ho=> .inl (QW.2 ⟨o,ho,rfl⟩),HX3.1,HZ43.1,HZ53.1,HB3.1,hz3⟩
    case round=>
     clear HOw3 HH3 HE3 HX3 HZ43 HZ53 HB3 hz3;obtain⟨k,rs2,hk,hown,hmp,hat,hrr,hln,hz4,hz5,hb,hz3⟩:=hrel;obtain⟨A2,c2,rfl,hrd2,-,-,-⟩:=qX hown;have hlen:rs2.length=H0+k:=by
      have h:=congrArg JT hmp;rw[QN,QO,qgK,←HH0.1]at h;exact h
     have HOw:=qe hown;have HMp:=qe hmp;have HAt:=qe hat;have HRr:=qe hrr;have HLn:=qe hln;have HZ4:=qe hz4;have HZ5:=qe hz5;have HB:=qe hb;have HLen:=qe hlen;have hrs400:rs2.length≤400:=by omega
     have hlk:=vL x.l.link HLl.1 k;obtain⟨lk,hlke⟩:∃lk,lk=jt x.l.link k:=⟨_,rfl⟩;rw[←hlke]at HLn hlk;have HLke:=qe hlke;have HLkl:=qe hlk;have c32:=HLn.1.cell 32 (u:= .int .i64 (P+(k:Int))) (qb8 hlk);clear hown hmp hat hrr hln hz4 hz5 hb hlen hlke hlk hrd2;by_cases hlt:k<K
     ·have hle:P+(k:Int)≤n:=(HKn.1 k).1 hlt
      have hof:=qiD wr lk HLkl.1 (P+(k:Int));rw[qn]at hof;have HOf:=qe hof;have HRl:=qe (qdZ wr _ _ HLkl.1 HLn.1);have hi32:(prog.info? 23).map (·.size)=some (lk.map b8).length:=by rw[QN,HLkl.1];exact qR
      have HI32:=qe hi32;clear hof hi32;go_wp2_with (refine wpList_load_mid rfl 23 (.tmp 71) rfl w.heap.size 0 rfl (lk.map b8) _ HRl.1 underlying23 rfl HI32.1 ?_)
      refine HOf.1.mono ?_;rintro e w5 ⟨g,c5,rfl,hg5,hcp5,hty5,hrd5,hb5⟩;obtain⟨nr,hnr⟩:∃nr:RO,nr=⟨ofL lk (P+(k:Int)),g,32,c5⟩:=⟨_,rfl⟩;have hnc:qy (P+(k:Int)) ((ki lk ku 44).take 32) (.slice (some ⟨g,32,none⟩) 12 c5)=nr.cells:=by
       rw[hnr];unfold RO.cells;rw[yS,qa3]
      rw[hnc];have HNr:=qe (show nr.At w5 by
       rw[hnr];exact⟨qbY _ _,qcv _ _,hty5,by rw[qbB];exact qmu hrd5,hcp5⟩)
      have HNe:=qe hnr;have HNl:=qe (show nr.cells.length=34 from RO.len HNr.1);have HOw5:=qe (show(w5.alloc (.cells nr.cells.toArray 104)).ownsRow B0 104 34 (.slice A2 rs2.length c2) rs2.length (rs2.flatMap RO.cells)from
       jz (jz HOw.1 hb5 (QI _)) ((QK w5.heap.size w5).alloc (QI _) _) (QI _))
      have HB5:=qe hb5;have hz5:=hb5.size;have HG5:=qe (show w.heap.size≤g by omega);clear hnc hnr hrd5 hty5 hb5 HOf;go_upto_region 17 with(first
       |(refine qac rfl 87 104 (.tmp 75) rfl ir (.agg qg.toArray) 34 nr.cells.toArray rfl (by simpa using HNl.1) (by decide) (by decide) underlying87 hir hrz hrs rfl ?_)
       |(at_builtin;refine jD rfl _ _ 87 rfl 34 (by decide) B0 104 ir (.agg qg.toArray) 64 underlying87 hir hrz hrs hrb rfl _ _ _ rfl HOw5.1 (w5.heap.size+1) (some ⟨w5.heap.size,0,none⟩) 1 1 nr.cells rfl (by rw[HNl.1]) (by decide) (vJ w5 104 nr.cells) (RO.one nr) (by unfold maxLen;omega) (by omega) (by simp;omega) ?_;intro v6 w6 hown6 hg6 hbb6))
      have hbk6:Below B0 wr w6:=hbb6 B0 wr (QI _) ((HB5.1.mono hz3).alloc (by omega) _);have hbt6:Below w.heap.size w w6:=hbb6 w.heap.size w (by omega) ((HB.1.trans (HB5.1.mono HB.1.size)).alloc (by omega) _);have HOw6:=qe (show w6.ownsRow B0 104 34 v6 (rs2++ [nr]).length ((rs2++ [nr]).flatMap RO.cells) by
       rw[QO,JG];simpa using hown6)
      have HMp6:=qe (show(rs2++ [nr]).map RO.o=x.l.held++uv x.l.link P (k+1) by
       rw[List.map_append,HMp.1,HNe.1,HLke.1,List.append_assoc];rfl)
      have HAt6:=qe (show∀o∈rs2++ [nr],o.At w6 from fun o ho=>by
       rcases QS.1 ho with h|h
       ·exact(((HAt.1 o h).below HB5.1 (QI _)).alloc _).grew hg6 HOw5.1 (by decide)
       ·rw[Je]at h;subst h
        exact(HNr.1.alloc _).grew hg6 HOw5.1 (by decide))
      have HRr6:=qe (show∀o∈rs2++ [nr],o.r∈x.rs.map RO.r∨w.heap.size≤o.r from fun o ho=>by
       rcases QS.1 ho with h|h
       ·exact HRr.1 o h
       ·rw[Je]at h;subst h
        rw[HNe.1];exact .inr HG5.1)
      have HL6:=qe (HLn.1.below hbk6 (by omega));have HZ46:=qe (HZ4.1.below hbk6 (by omega));have HZ56:=qe (HZ5.1.below hbk6 (by omega));have HB6:=qe hbt6;have hz6:B0≤w6.heap.size:=QX hz3 hbk6.size;obtain⟨A6,c6,hv6,-,-,-,-⟩:=qX hown6;subst hv6;have HRl6:=qe (qdZ w6 _ _ HLkl.1 HL6.1);have hdv:=qad w6 lk HLkl.1 ⟨#[110,101,120,116]⟩ yy qjz (by decide)
      rw[qn,qn]at hdv;have HDv:=qe hdv;have hrl6:(rs2++ [nr]).length=rs2.length+1:=by simp
      have HRl6':=qe hrl6;clear hown6 hg6 hbb6 hbk6 hbt6 hdv HOw5 HNr HAt HOw HLn HZ4 HZ5 HRl hrl6;go_wp2_with (refine wpList_load_mid rfl 23 (.tmp 78) rfl w.heap.size 0 rfl (lk.map b8) _ HRl6.1 underlying23 rfl HI32.1 ?_)
      refine HDv.1.mono ?_;rintro e w7 ⟨rfl,hb7⟩;have HL7:=qe (HL6.1.below hb7 (by omega));have HZ47:=qe (HZ46.1.below hb7 (by omega));have HZ57:=qe (HZ56.1.below hb7 (by omega));have HOw7:=qe (jz HOw6.1 hb7 (QI _));have HAt7:=qe (show∀o∈rs2++ [nr],o.At w7 from fun o ho=>(HAt6.1 o ho).below hb7 (QI _));have HB7:=qe (HB6.1.trans (hb7.mono HB6.1.size));have hz7:B0≤w7.heap.size:=QX hz6 hb7.size
      clear hb7 HL6 HZ46 HZ56 HOw6 HAt6 HRl6 HDv;go_upto_region 18 with(refine qi rfl 23 (.tmp 81) (.tmp 80) rfl w.heap.size 0 rfl ((vB lk yy).map b8) rfl 89 _ [] (lk.map b8) [.int .i64 (P+(k:Int)),HV,AV,.int .i64 Lw] HL7.1 (qmt _ _ _ _ _) rfl (by rw[QN,QN,HLkl.1,jl]) (by rw[QN,jl];exact qR) (fun u hu=>by obtain⟨y,-,rfl⟩:=QW.1 hu;exact qH y) ?_;intro w8 hx8 hg8)
      have HL8:=qe (show Blk w8 w.heap.size 89 (jp (vB lk yy) (P+(k:Int)) HV AV Lw)from hx8.cast (by unfold jp;simp));have HZ48:=qe (HZ47.1.grown hg8 (fun e=>by injection e with e;omega));have HZ58:=qe (HZ57.1.grown hg8 (fun e=>by injection e with e;omega));have HOw8:=qe (qaH HOw7.1 hg8 (fun q e e2=>by cases e;have:=(World.ownsRow.lt HOw7.1 _ e2).1;omega));have HAt8:=qe (show∀o∈rs2++ [nr],o.At w8 from fun o ho=>(HAt7.1 o ho).other hg8 HL7.1 (by decide))
      have HB8:=qe (HB7.1.grown hg8 HB7.1.size (fun q e=>by cases e;exact QI _));have hz8:B0≤w8.heap.size:=QX hz7 hg8.size;have hdl:(vB lk yy).length=32:=jl _ _;have c32:=HL8.1.cell 32 (u:= .int .i64 (P+(k:Int))) (qb8 hdl);have f32:=HL8.1.frozen 32;have HDl:=qe hdl;have hPk:P+(k:Int)≤4294967295:=by omega
      have hPk0:0≤P+(k:Int):=by omega
      clear hx8 hg8 HL7 HZ47 HZ57 HOw7 HAt7 HB7 hdl;go_wp2_with fail
      have hg9:=qM w8 w.heap.size 32 (.int .i64 (P+(k:Int)+1));have e9:P+((k+1:Nat):Int)=P+(k:Int)+1:=by omega
      have hl9:Blk (w8.setCell ⟨w.heap.size,32,none⟩ (.int .i64 (P+(k:Int)+1))) w.heap.size 89 (jp (jt x.l.link (k+1)) (P+((k+1:Nat):Int)) HV AV Lw):=by
       rw[e9,show jt x.l.link (k+1)=vB lk yy by rw[HLke.1];rfl];exact(HL8.1.set_ 32 _).cast (qha HDl.1 _)
      have hown9:=qaH HOw8.1 hg9 (fun q e e2=>by cases e;have:=(World.ownsRow.lt HOw8.1 _ e2).1;omega);refine⟨⟨k+1,rs2++ [nr],by omega,hown9,HMp6.1,fun o ho=>(HAt8.1 o ho).other hg9 HL8.1 (by decide),HRr6.1,hl9,HZ48.1.grown hg9 (fun e=>by injection e with e;omega),HZ58.1.grown hg9 (fun e=>by injection e with e;omega),HB8.1.grown hg9 HB8.1.size (fun q e=>by cases e;exact QI _),by simpa using hz8⟩,?_⟩
      have hl2:=HLen.1;simp[qoH]<;>omega
     ·obtain rfl:K=k:=by omega
      have hgt:¬(P+(K:Int)≤n):=fun h=>by have:=(HKn.1 K).2 h;omega
      have hln':Blk wr w.heap.size 89 (jp lk (P+(K:Int)) HV (.slice x.aA m x.ac) Lw):=by rw[←HAVe.1];exact HLn.1
      have HLn':=qe hln';have c34:=HLn'.1.cell 34 (qb9 HLkl.1);obtain⟨B1,hB1⟩:∃B1,B1=wr.heap.size:=⟨_,rfl⟩;have hB1a:B1≤wr.heap.size:=by omega
      have hB1c:wr.heap.size≤B1:=by omega
      have hB1b:B0≤B1:=by omega
      have HAo:=qe (show Own Qq (wr.alloc (.cells #[] 3)) B1 3 (.slice (some ⟨wr.heap.size,0,none⟩) 0 0) []from by
       have h:=Own.lit Qq wr B1 3 [] hB1a (by simp);simpa using h)
      have HAs3:=qe (HAs.1.below (HB.1.alloc HB.1.size (.cells #[] 3)));have hm1000:=HMs.1;clear hln' HLn;have hBw0:Below B1 wr (wr.alloc (.cells #[] 3)):=(QK _ wr).alloc hB1a _;have HBw0:=qe hBw0;have hzr:w.heap.size<wr.heap.size:=by omega
      clear hBw0;go_upto_region 20 with(first
       |(at_builtin;refine qh rfl _ _ 70 rfl qg7 B1 3 ii (.int .i64 0) 8 underlying70 hii hiz his hib rfl _ _ rfl HAo.1 w.heap.size x.aA m x.ac x.l.asked rfl HM.1 HAs3.1 (by have:=HM.1;unfold maxLen;simp;omega) (by have:=HM.1;simp;omega) (by simp;omega) ?_;intro va wa howna hga hbba
         have HOna:=qe howna;have HBwa:=qe (show Below B1 wr (wa.alloc (.cells #[.int .i64 n] 3))from(hbba B1 wr (QI _) HBw0.1).alloc (by have:=(hbba B1 wr (QI _) HBw0.1).size;omega) _);have hza:B1≤wa.heap.size:=by have:=(hbba B1 wr (QI _) HBw0.1).size;omega
         have hga':=hga;clear howna hga hbba)
       |(at_builtin;refine qh rfl _ _ 70 rfl qg7 B1 3 ii (.int .i64 0) 8 underlying70 hii hiz his hib rfl _ _ rfl (HOna.1.alloc (.cells #[.int .i64 n] 3)) (wa.heap.size+1) (some ⟨wa.heap.size,0,none⟩) 1 1 [n] rfl rfl (Rd.new Qq wa 3 [n]) (by have:=HM.1;unfold maxLen;simp;omega) (by have:=HM.1;simp;omega) (by simp;omega) ?_;intro vb wb hownb hgb hbbb
         have HOnb:=qe hownb;have HBwb:=qe (hbbb B1 wr (QI _) HBwa.1);have HLb:=qe (HLn'.1.below HBwb.1 (by omega));have f34:=HLb.1.frozen 34;have c34:=HLb.1.cell 34 (qb9 HLkl.1);obtain⟨Ab,cb,hvb,-,-,-,-⟩:=hownb.shape' (n:=m+1) (by have:=HM.1;simp;omega);rw[hvb]at HOnb;subst hvb;clear hownb hgb hbbb hga'))
      obtain⟨A2',c2',e2',hrd2,-,-,-⟩:=qX HOw.1;injection e2' with e2a _ e2c;subst e2a;subst e2c;have hg34:=qM wb w.heap.size 34 (.slice Ab (m+1) cb);obtain⟨ws0,hws0⟩:∃ws0,ws0=wb.setCell ⟨w.heap.size,34,none⟩ (.slice Ab (m+1) cb):=⟨_,rfl⟩;rw[←hws0]at hg34 ⊢;have hb1:Below w.heap.size w wb:=HB.1.trans (HBwb.1.mono (by omega));have hL0:Blk ws0 w.heap.size 89 (jp lk (P+(K:Int)) HV (.slice Ab (m+1) cb) Lw):=by rw[hws0];exact(HLb.1.set_ 34 _).cast (qhc HLkl.1 _)
      have hZ40:Blk ws0 (w.heap.size+1) 104 qg:=(HZ4.1.below HBwb.1 (by omega)).grown hg34 (fun e=>by injection e with e;omega);have hZ50:Blk ws0 (w.heap.size+2) 89 jE:=(HZ5.1.below HBwb.1 (by omega)).grown hg34 (fun e=>by injection e with e;omega);have hA0:∀o∈rs2,o.At ws0:=fun o ho=>((HAt.1 o ho).below HBwb.1 hB1c).other hg34 HLb.1 (by decide)
      have hI0:Own Qq ws0 B1 3 (.slice Ab (m+1) cb) (x.l.asked++ [n]):=HOnb.1.kept' hg34 (fun q e e2=>by cases e;have:=(HOnb.1.lt _ e2).1;omega);have hR0:RdV ws0 B1 A2 (rs2.flatMap RO.cells):=(qd0 (Rd.below hrd2 (HBwb.1.mono hB1c)) hB1c).grown hg34 (by have:=HBwb.1.size;omega) (fun a ha e=>by
       injection e with e;subst ha;obtain⟨c9,h9⟩:∃c9:Nat,c9=0:=⟨0,rfl⟩;rcases(HOw.1).2 with⟨e1,-⟩|⟨g',cap,cur,e1,hbg,-⟩
       ·cases e1
       ·injection e1 with e1 _ _
        injection e1 with e1;rw[e1]at e;have e9:g'=w.heap.size:=e;omega)
      have hbs0:Below w.heap.size w ws0:=hb1.grown hg34 hb1.size (fun q e=>by cases e;exact QI _);have hzs0:B1≤ws0.heap.size:=by have:=HBwb.1.size;have:=hg34.size;omega
      have HI1:=qe (hI0.rd);have HIsep:=qe (show∀(b off:Nat),Ab=some ⟨b,off,none⟩→B1≤b from fun b off e=>by
       subst e;exact(hI0.lt b rfl).1)
      obtain⟨g9,hg9⟩:∃g9,g9=ws0.heap.size:=⟨_,rfl⟩;have HAlt:=qe (show∀o∈rs2,o.r<g9 from fun o ho=>by have:=(hA0 o ho).lt;omega);obtain⟨ws,hws⟩:∃ws,ws=ws0.alloc (.cells qg.toArray 104):=⟨_,rfl⟩;have hal:Below g9 ws0 ws:=by rw[hws,hg9];exact(QK _ ws0).alloc (QI _) _
      have HLs:=qe (hL0.below hal (by omega));have HZ4s:=qe (hZ40.below hal (by omega));have HZ5s:=qe (hZ50.below hal (by omega));have HAs9:=qe (show∀o∈rs2,o.At ws from fun o ho=>(hA0 o ho).below hal (by omega));have HIs:=qe (show Rd Qq ws g9 Ab (x.l.asked++ [n])from(by rw[hg9]at hal ⊢;exact HI1.1.below hal));have HRs:=qe (show RdV ws B1 A2 (rs2.flatMap RO.cells)from Rd.below hR0 (hal.mono (by omega)))
      have HBs:=qe (show Below w.heap.size w ws from hbs0.trans (hal.mono (by omega)));have HO9:=qe (show Blk ws g9 104 (qnC (uQ (rs2.take 0) n)) by rw[hws,hg9];exact Blk.new _ _ _);have hzs:ws.heap.size=g9+1:=by rw[hws,hg9];simp
      obtain⟨B2,hB2⟩:∃B2,B2=ws.heap.size:=⟨_,rfl⟩;have hB2a:B2=g9+1:=by omega
      have hB2b:B2≤ws.heap.size:=by omega
      have hg9b:B1≤g9:=by omega
      have HWs:=qe hws;have HG9:=qe hg9;have hRO:∀r∈rs2,r.cells.length=34:=fun r hr=>RO.len (HAs9.1 r hr)
      have HROl:=qe hRO;obtain⟨tl,htl⟩:∃tl,tl=jR x.l n:=⟨_,rfl⟩;have htok:LOK tl:=by rw[htl];exact qb0 HOk.1 HE.1
      have htp:tl.place=P+(K:Int):=by
       have h:=HKe.1;rw[htl];show(if x.l.place≤n then n+1 else x.l.place)=_;rw[←HPe.1];split<;>omega
      have hHi2:hiA (x.l.asked++ [n]) Lw=P+(K:Int)-1:=by
       have h:=htok.hi;rw[htp]at h;rw[HLe.1,←h,htl];rfl
      have hPK1:P+(K:Int)≤4294967295:=by have:=htok.top;omega
      have HHi2:=qe hHi2;have HTl:=qe htl;have HTok:=qe htok;have HTp:=qe htp;obtain⟨LC,hLC⟩:∃LC,LC=jp lk (P+(K:Int)) HV (.slice Ab (m+1) cb) Lw:=⟨_,rfl⟩;have HLCe:=qe hLC;have HLCl:=qe (show LC.length=36 by rw[hLC];exact jS HLkl.1);rw[←hLC]at HLs;obtain⟨hh,hhh⟩:∃hh:Int,hh=P+(K:Int)-1:=⟨_,rfl⟩;have hhh0: -1≤hh:=by omega
      have hhh1:hh≤4294967295:=by omega
      have HHh:=qe hhh;have hasl:(x.l.asked++ [n]).length=m+1:=by rw[QO,HM.1];rfl
      have HAsl:=qe hasl;clear hws0 hg34 hb1 hL0 hZ40 hZ50 hA0 hI0 hR0 hbs0 hws hg9 hal hB2 hRO htl htok htp hHi2 hLC hhh hrd2 HAo HAs3 HBw0 HOna HBwa HOnb HBwb HLb f34 c34 HOw HAt HZ4 HZ5 HB HLn' HI1 hasl hzs hzs0 hzr hza;go_upto_region 21 with fail
      have hws:=HWs.1;simp only[q7]at hws
      rw[←hws,←HG9.1];clear hws;go_wp2_with fail
      go_loopw [10,11] (fun rv iv wr=>∃(k:Nat) (rs3:List RO),iv= .int .i64 (k:Int)∧k≤rs2.length∧wr.ownsRow B2 104 34 rv rs3.length (rs3.flatMap RO.cells)∧(rs3.length=0→rv= .slice none 0 0)∧rs3=(rs2.take k).filter (fun o=>ux n hh o.o)∧Blk wr g9 104 (qnC (uQ (rs2.take k) n))∧Below g9 ws wr∧B2≤wr.heap.size) (fun _ iv _=>rs2.length-(intOf iv).toNat)
      case atStart=>exact⟨0,[],rfl,by omega,World.ownsRow_nil ws B2 _ 34,fun _=>rfl,by simp,HO9.1,QK _ _,hB2b⟩
      case round=>
       clear HO9 hB2b;obtain⟨k,rs3,rfl,hk,hown,hnil,hfl,ho9,hbl,hzB⟩:=hrel;obtain⟨A3,c3,hrv,-,-,-,-⟩:=qX hown;have HNil:=qe hnil;subst hrv;have HOw:=qe hown;have HFl:=qe hfl;have HO9:=qe ho9;have HBl:=qe hbl;have HLr:=qe (HLs.1.below hbl (by omega));have hgw:ws.heap.size≤wr.heap.size:=hbl.size;clear hown hfl ho9 hbl hnil;by_cases hlt:k<rs2.length
       ·obtain⟨x0,hx0⟩:∃x0,rs2[k]?=some x0:=⟨rs2[k],QT hlt⟩
        have hx0m:x0∈rs2:=List.mem_of_getElem? hx0;have htk:rs2.take (k+1)=rs2.take k++ [x0]:=by
         rw[List.take_succ_eq_append_getElem hlt];rw[QT hlt]at hx0;rw[Option.some.inj hx0]
        obtain⟨b,o0,hA2e,hbB,hrg⟩:=RdV.elem (Rd.below HRs.1 (HBl.1.mono hg9b)) HROl.1 (by decide) hx0;rw[Jw]at hrg;subst hA2e;have HRg:=qe hrg;have HTk:=qe htk;have HXm:=qe hx0m;have HXl:=qe (HROl.1 x0 hx0m);have c0:=hrg 0 (.int .i64 x0.o.no) rfl;rw[Nat.add_zero]at c0;obtain⟨no,hno⟩:∃no,no=x0.o.no:=⟨_,rfl⟩;rw[←hno]at c0;have HNo:=qe hno;have hlk:(k:Int)<(rs2.length:Int):=by omega
        have hi34:(prog.info? 104).map (·.size)=some x0.cells.length:=by rw[HXl.1];exact jg
        have HI34:=qe hi34;clear hx0 hrg htk hx0m hno hi34;by_cases hx:no=n
        ·have HOl:=qe (show(qnC (uQ (rs2.take k) n)).length=x0.cells.length by
          rw[HXl.1];cases hq:uQ (rs2.take k) n with
          |none=>rfl
          |some r=>exact HROl.1 r (List.mem_of_mem_take ((qjF (rs2.take k) n).2.1 r hq).1))
         go_wp2_with (first
          |(refine wpList_load_mid rfl 104 (.tmp 109) rfl b (o0+k*34) rfl x0.cells _ HRg.1 underlying104 rfl HI34.1 ?_)
          |(refine qi rfl 104 (.tmp 9) (.tmp 110) rfl g9 0 rfl x0.cells rfl 104 _ [] (qnC (uQ (rs2.take k) n)) [] HO9.1 (by simp) rfl HOl.1 HI34.1 (RO.one x0) ?_;intro w9 hx9 hg9'))
         go_roundw
         case rel=>
          refine⟨k+1,rs3,by go_num,by omega,qaH HOw.1 hg9' (fun q e e2=>by cases e;have:=(World.ownsRow.lt HOw.1 _ e2).1;omega),HNil.1,?_,?_,HBl.1.grown hg9' (by omega) (fun q e=>by cases e;exact QI _),by have:=hg9'.size;omega⟩
          ·rw[HTk.1,List.filter_append,←HFl.1,List.filter_cons,if_neg (by unfold ux;rw[←HNo.1,hx];simp),List.filter_nil,Zb]
          ·rw[HTk.1,qd1,if_pos (by rw[←HNo.1];exact hx)]
           exact hx9.cast (by show _=x0.cells;simp)
         case measure=>simp[intOf]<;>omega
        ·have hx':(no==n)=false:=by simp[hx]
         have hpk:uQ (rs2.take (k+1)) n=uQ (rs2.take k) n:=by rw[HTk.1,qd1,if_neg (by rw[←HNo.1];exact hx)]
         have hke:ux n hh x0.o=decide (hh-64≤no):=by unfold ux;rw[←HNo.1,hx'];simp
         have HPk:=qe hpk;have HKe2:=qe hke;clear hpk hke;have hbd:Below wr.heap.size wr wr.drew:=(QK _ wr).drew;have hH2:=qe5 wr.drew lk HLkl.1 (P+(K:Int)) Lw HV g9 Ab (m+1) cb (x.l.asked++ [n]) ((HIs.1.below HBl.1).below (hbd.mono (by omega))) (by have:=hbd.size;omega) HAsl.1 (by have:=HMs.1;omega) hl0 (by omega);rw[←HLCe.1,HHi2.1,←HHh.1]at hH2;have HH2:=qe hH2;have HKeep:=qe (show∀W':World,Below wr.heap.size wr W'→W'.cell? ⟨b,o0+k*34,none⟩=some (.int .i64 no)∧W'.rangeAt w.heap.size 0 LC from fun W' hb=>
          ⟨by rw[←c0];exact JK (hb.block b (by omega)),(HLr.1.below hb (by omega)).whole⟩)
         have hk27:=HKeep.1 _ hbd;have HBd:=qe hbd;have hu:=underlying89;have hi36:(prog.info? 89).map (·.size)=some LC.length:=by rw[HLCl.1];exact qT
         have hwr:IntKind.i64.wrap (hh-64)=hh-64:=IntWalk.i64_in _ (by omega);clear hH2 hbd;go_upto_region 27 with fail
         refine wp_region_noPanic ?_;refine wp_region_held_drew (S:=fun w'=>w'.cell? ⟨b,o0+k*34,none⟩=some (.int .i64 no)∧w'.rangeAt w.heap.size 0 LC) (by kernel_rfl) hk27 (fun hS=>?_);refine tkA 0 (.slice (some ⟨b,o0,none⟩) rs2.length c2) hS ?_;refine tkA 1 (.int .i64 (k:Int)) hS ?_;refine tkA 2 (.pointer (some ⟨b,o0+k*34,none⟩)) hS ?_;try simp only[QJ,qj,qz,qv]
         refine tkA 3 (.pointer (some ⟨b,o0+k*34,none⟩)) hS ?_;refine tkA 4 (.int .i64 no) hS ?_;refine tkK 5 (.agg LC.toArray) rfl rfl (yieldsIf_load_mid (by rfl) 89 (.tmp 2) rfl w.heap.size 0 rfl LC _ (fun _ h=>h.2) hu rfl hi36) hS ?_;try simp only[QJ,qj,qz,qv]
         refine rdH 6 (fun K' hK=>?_);go_simp;go_at_call 77;refine HH2.1.mono ?_;rintro e wA ⟨rfl,hbA⟩;have HQ:=qe (show Below wr.heap.size wr wA from HBd.1.trans (hbA.mono HBd.1.size));clear hbA;refine hK.out _ _ (HKeep.1 _ HQ.1) (fun hS=>?_);clear hK K';try simp only[QJ,qj,qz,qv]
         refine rdH 7 (fun K' hK=>?_);go_simp;refine hK.out _ _ (HKeep.1 _ HQ.1) (fun hS=>?_);clear hK K';try simp only[QJ,qj,qz,qv]
         refine rdH 8 (fun K' hK=>?_);go_simp;refine hK.out _ _ (HKeep.1 _ HQ.1) (fun hS=>?_);clear hK K';try simp only[QJ,qj,qz,qv]
         refine wpAnyH_done (by kernel_rfl) ?_ _;refine Q4 ?_;have HW:=HQ.1;have HOwA:=qe (jz HOw.1 HW (QI _));have HO9A:=qe (HO9.1.below HW (by omega));have HBlA:=qe (HBl.1.trans (HW.mono (by omega)));have HRgA:=qe (show wA.rangeAt b (o0+k*34) x0.cells from fun j u hu=>by rw[←HRg.1 j u hu];exact JK (HW.block b (by omega)));have hzA:B2≤wA.heap.size:=QX hzB HW.size
         clear HW HQ hk27 hu hi36 HKeep HBd HH2;by_cases hkp:hh-64≤no
         ·have hkp':no≥hh-64:=hkp
          have hzl3:rs3.length≤400:=by
           have h:=congrArg JT HFl.1;have h2:=List.length_filter_le (fun o:RO=>ux n hh o.o) (rs2.take k);have h3:=List.length_take_le k rs2;omega
          have HOwB:=qe (show(wA.alloc (.cells x0.cells.toArray 104)).ownsRow B2 104 34 (.slice A3 rs3.length c3) rs3.length (rs3.flatMap RO.cells)from jz HOwA.1 ((QK wA.heap.size wA).alloc (QI _) _) (QI _));go_wp2_with (first
           |(refine wpList_load_mid rfl 104 (.tmp 123) rfl b (o0+k*34) rfl x0.cells _ HRgA.1 underlying104 rfl HI34.1 ?_)
           |(refine qac rfl 87 104 (.tmp 124) rfl ir (.agg qg.toArray) 34 x0.cells.toArray rfl (by simpa using HXl.1) (by decide) (by decide) underlying87 hir hrz hrs rfl ?_)
           |(at_builtin;refine jD rfl _ _ 87 rfl 34 (by decide) B2 104 ir (.agg qg.toArray) 64 underlying87 hir hrz hrs hrb rfl _ _ _ rfl HOwB.1 (wA.heap.size+1) (some ⟨wA.heap.size,0,none⟩) 1 1 x0.cells rfl (by rw[HXl.1]) (by decide) (vJ wA 104 x0.cells) (RO.one x0) (by unfold maxLen;omega) (by omega) (by simp;omega) ?_;intro v6 w6 hown6 hg6 hbb6))
          have hbk6:Below B2 wA w6:=hbb6 B2 wA (QI _) ((QK _ wA).alloc hzA _);go_roundw
          case rel=>
           refine⟨k+1,rs3++ [x0],by go_num,by omega,?_,fun e=>by simp at e,?_,?_,HBlA.1.trans (hbk6.mono (by omega)),QX hzA hbk6.size⟩
           ·rw[QO,JG]
            simpa using hown6
           ·rw[HTk.1,List.filter_append,←HFl.1,List.filter_cons,if_pos (by rw[HKe2.1];simp[hkp]),List.filter_nil]
           ·rw[HPk.1];exact HO9A.1.below hbk6 (by omega)
          case measure=>simp[intOf]<;>omega
         ·have hkp':¬(no≥hh-64):=hkp
          have hkp2:decide (hh-64≤no)=false:=by simp;omega
          go_wp2_with fail
          go_roundw
          case rel=>
           refine⟨k+1,rs3,by go_num,by omega,HOwA.1,HNil.1,?_,?_,HBlA.1,hzA⟩
           ·rw[HTk.1,List.filter_append,←HFl.1,List.filter_cons,if_neg (by rw[HKe2.1,hkp2];decide),List.filter_nil,Zb]
           ·rw[HPk.1];exact HO9A.1
          case measure=>simp[intOf]<;>omega
       ·obtain rfl:k=rs2.length:=by omega
        have htk:rs2.take rs2.length=rs2:=Js (QI _);rw[htk]at HFl HO9;have hmap:rs2.map RO.o=kB x.l n:=by
         rw[HMp.1];unfold kB;rw[←HPe.1,←HKe.1]
        obtain⟨hp1,hp2,hp3⟩:=qjF rs2 n;obtain⟨r,hr⟩:=hp3 (by
         obtain⟨o,ho,he⟩:=qiE HOk.1 HE.1;rw[←hmap]at ho;obtain⟨q,hq,rfl⟩:=QW.1 ho;exact⟨q,hq,he⟩)
        obtain⟨hrm,hrn⟩:=hp2 r hr;have hro:r.o=qS x.l n:=by
         unfold qS;rw[if_pos HE.1,←hmap,hp1,hr];rfl
        have HRo:=qe hro;have HRn:=qe hrn;have HRt:=qe (show r.At wr from(HAs9.1 r hrm).of HBl.1.size (HBl.1.block _ (HAlt.1 r hrm)));have HRl:=qe (RO.len HRt.1);rw[hr]at HO9;have c33:=HLr.1.cell 33 (u:=HV) (by rw[HLCe.1];exact qg8 HLkl.1);have f33:=HLr.1.frozen 33;have HAtR:=qe (show∀o∈rs3,o.At wr from fun o ho=>by
         rw[HFl.1]at ho;have hm:=(List.mem_filter.1 ho).1;exact(HAs9.1 o hm).of HBl.1.size (HBl.1.block _ (HAlt.1 o hm)))
        have HZ4r:=qe (HZ4s.1.below HBl.1 (by omega));have HZ5r:=qe (HZ5s.1.below HBl.1 (by omega));have HBr:=qe (HBs.1.trans (HBl.1.mono (by omega)));have HIr:=qe (HIs.1.below HBl.1);have hzr:w.heap.size<wr.heap.size:=by omega
        have HMap:=qe hmap;have HRm:=qe hrm;clear htk hmap hp1 hp2 hp3 hr hrm hrn hro;go_upto_region 30 with fail
        have hg33:=qM wr w.heap.size 33 (.slice A3 rs3.length c3);have hLf:Blk (wr.setCell ⟨w.heap.size,33,none⟩ (.slice A3 rs3.length c3)) w.heap.size 89 (jp lk (P+(K:Int)) (.slice A3 rs3.length c3) (.slice Ab (m+1) cb) Lw):=by
         have h:=HLr.1;rw[HLCe.1]at h;exact(h.set_ 33 _).cast (qhb HLkl.1 _)
        obtain⟨wf,hwf⟩:∃wf,wf=wr.setCell ⟨w.heap.size,33,none⟩ (.slice A3 rs3.length c3):=⟨_,rfl⟩;rw[←hwf]at hg33 hLf ⊢;obtain⟨FC,hFC⟩:∃FC,FC=jp lk (P+(K:Int)) (.slice A3 rs3.length c3) (.slice Ab (m+1) cb) Lw:=⟨_,rfl⟩;rw[←hFC]at hLf;have HFC:=qe hFC;have HFl36:=qe (show FC.length=36 by rw[hFC];exact jS HLkl.1);have HF1:=qe (show∀u∈FC,u.oneCell'=true by rw[hFC];exact vX rfl rfl)
        have HXf:=qe hLf;have hltO:=(World.ownsRow.lt HOw.1);have HO9f:=qe (show Blk wf g9 104 r.cells from HO9.1.grown hg33 (fun e=>by injection e with e;omega));have HZ4f:=qe (HZ4r.1.grown hg33 (fun e=>by injection e with e;omega));have HZ5f:=qe (HZ5r.1.grown hg33 (fun e=>by injection e with e;omega));have HBf:=qe (HBr.1.grown hg33 HBr.1.size (fun q e=>by cases e;exact QI _))
        have HOwf:=qe (qaH HOw.1 hg33 (fun q e e2=>by cases e;have:=(hltO _ e2).1;omega));have HAtf:=qe (show∀o∈rs3,o.At wf from fun o ho=>(HAtR.1 o ho).other hg33 HLr.1 (by decide));have HRtf:=qe (HRt.1.other hg33 HLr.1 (by decide));have HIf:=qe (show Rd Qq wf g9 Ab (x.l.asked++ [n])from HIr.1.grown hg33 (by omega) (fun a ha e=>by
         injection e with e;obtain⟨b9,off9,e9,hb9,hc9⟩:=HIr.1 (by simp);rw[ha]at e9;injection e9 with e9
         have hcell:=hc9 0 ((x.l.asked++ [n])[0]'(by simp)) (QT _);rw[e9]at e;have e10:b9=w.heap.size:=e;exact absurd (HIsep.1 b9 off9 (by rw[ha,e9])) (by omega)))
        have hszf:wr.heap.size≤wf.heap.size:=hg33.size;have hkf:wf.drew.rangeAt w.heap.size 0 FC∧wf.drew.rangeAt g9 0 r.cells:=⟨HXf.1.drew.whole,HO9f.1.drew.whole⟩;have hu:=underlying89;have hu2:=underlying104;have hi36:(prog.info? 89).map (·.size)=some FC.length:=by rw[HFl36.1];exact qT
        have hi34:(prog.info? 104).map (·.size)=some r.cells.length:=by rw[HRl.1];exact jg
        clear hwf hg33 hLf hFC c33 f33;refine wp_region_noPanic ?_;refine wp_region_held_drew (S:=fun w'=>w'.rangeAt w.heap.size 0 FC∧w'.rangeAt g9 0 r.cells) (by kernel_rfl) hkf (fun hS=>?_);refine tkK 0 (.agg r.cells.toArray) rfl rfl (yieldsIf_load_mid (by rfl) 104 (.tmp 9) rfl g9 0 rfl r.cells _ (fun _ h=>h.2) hu2 rfl hi34) hS ?_;refine tkK 1 (.agg FC.toArray) rfl rfl (yieldsIf_load_mid (by rfl) 89 (.tmp 2) rfl w.heap.size 0 rfl FC _ (fun _ h=>h.1) hu rfl hi36) hS ?_
        try simp only[QJ,qj,qz,qv]
        refine rdH 2 (fun K' hK=>?_);rw[if_pos (by rfl)];refine qo 104 (.tmp 4) (.tmp 129) rfl (w.heap.size+1) 0 rfl r.cells rfl _ _ [] qg [] HZ4f.1.drew (by simp) rfl (by rw[HRl.1];rfl) hi34 (RO.one r) ?_;intro w6 hx6 hg6;have HX6:=qe (show Blk w6 (w.heap.size+1) 104 r.cells from hx6.cast (by simp));have HL6:=qe (HXf.1.drew.grown hg6 (fun e=>by injection e with e;omega));have HP6:=qe (HO9f.1.drew.grown hg6 (fun e=>by injection e with e;omega))
        have HZ6:=qe (HZ5f.1.drew.grown hg6 (fun e=>by injection e with e;omega));have HB6:=qe (HBf.1.drew.grown hg6 HBf.1.size (fun k e=>by cases e;omega));have HG6:=qe (show wf.grownBy w6 (some (w.heap.size+1))from⟨hg6.os,hg6.tape,hg6.output,hg6.size,hg6.block⟩);clear hx6 hg6;refine hK.out _ _ (⟨HL6.1.whole,HP6.1.whole⟩) (fun hS=>?_);clear hK K';try simp only[QJ,qj,qz,qv]
        refine rdH 3 (fun K' hK=>?_);rw[if_pos (by rfl)];refine qo 89 (.tmp 5) (.tmp 130) rfl (w.heap.size+2) 0 rfl FC rfl _ _ [] jE [] HZ6.1 (by simp) rfl (by rw[HFl36.1];rfl) hi36 HF1.1 ?_;intro w7 hx7 hg7;have HX7:=qe (show Blk w7 (w.heap.size+2) 89 FC from hx7.cast (by simp));have HY7:=qe (HX6.1.grown hg7 (fun e=>by injection e with e;omega));have HL7:=qe (HL6.1.grown hg7 (fun e=>by injection e with e;omega))
        have HP7:=qe (HP6.1.grown hg7 (fun e=>by injection e with e;omega));have HB7:=qe (HB6.1.grown hg7 HB6.1.size (fun k e=>by cases e;omega));have HG7:=qe hg7;clear hx7 hg7;refine hK.out _ _ (⟨HL7.1.whole,HP7.1.whole⟩) (fun hS=>?_);clear hK K';try simp only[QJ,qj,qz,qv]
        refine rdH 4 (fun K' hK=>?_);go_simp;refine hK.out _ _ (⟨HL7.1.whole,HP7.1.whole⟩) (fun hS=>?_);clear hK K';try simp only[QJ,qj,qz,qv]
        refine wpAnyH_done (by kernel_rfl) ?_ _;refine Q4 ?_;go_wp2_with fail
        refine bodyPost_ret (v:= .tuple #[.agg r.cells.toArray,.agg FC.toArray,.int .i64 0]) (jK (g:=w.heap.size+1) (g2:=w.heap.size+2) rfl _ _ _ _ _ _ _ _ _ rfl rfl rfl HY7.1 HX7.1 underlying104 rfl (by rw[HRl.1];exact jg) underlying89 rfl (by rw[HFl36.1];exact qT)) rfl ?_;have HGa:=qe (show wf.grownBy w7 none→True from fun _=>trivial);have toW7:∀q,q<wf.heap.size→q≠w.heap.size+1→q≠w.heap.size+2→w7.heap[q]?=wf.heap[q]?:=fun q hq h1 h2=>by
         rw[HG7.1.block q (by have:=HG6.1.size;omega) (fun e=>by injection e with e;exact h2 e)];exact HG6.1.block q hq (fun e=>by injection e with e;exact h1 e)
        have hsz7:wf.heap.size≤w7.heap.size:=QX HG6.1.size HG7.1.size;have ty4:=HZ4f.1;have ty5:=HZ5f.1;have keepRO:∀o:RO,o.At wf→o.At w7:=fun o ho=>ho.of hsz7 (toW7 _ ho.lt (fun e=>by
         obtain⟨cs,hc⟩:=ho.ty;have h3:wf.heap[w.heap.size+1]?=some (.cells qg.toArray 104 (0,0)):=ty4;rw[e,h3]at hc;injection hc with hc;injection hc with _ hT;exact absurd hT (by decide)) (fun e=>by
         obtain⟨cs,hc⟩:=ho.ty;have h3:wf.heap[w.heap.size+2]?=some (.cells jE.toArray 89 (0,0)):=ty5;rw[e,h3]at hc;injection hc with hc;injection hc with _ hT;exact absurd hT (by decide)))
        have hnone3:rs3.length=0→A3=none∧c3=0:=fun e=>by
         have h:=HNil.1 e;injection h with h1 _ h3;exact⟨h1,h3⟩
        have hrow7:RdV w7 w7.heap.size A3 (rs3.flatMap RO.cells):=by
         obtain⟨A4,c4,e4,hr4,-,-,-⟩:=qX HOwf.1;injection e4 with e4 _ _;subst e4;intro hpos;obtain⟨b4,o4,e5,hb4,hc4⟩:=hr4 hpos;have hb4':=(hltO b4 (by rw[e5];rfl)).1;exact⟨b4,o4,e5,by omega,fun j u hu=>by rw[←hc4 j u hu];exact JK (toW7 b4 hb4 (by omega) (by omega))⟩
        have hask7:Rd Qq w7 w7.heap.size Ab (x.l.asked++ [n]):=by
         intro hpos;obtain⟨b4,o4,e5,hb4,hc4⟩:=HIf.1 hpos;have hb4':=HIsep.1 b4 o4 e5;exact⟨b4,o4,e5,by omega,fun j u hu=>by rw[←hc4 j u hu];exact JK (toW7 b4 (by omega) (by omega) (by omega))⟩
        have htl:=HTl.1;have e1:tl.link=lk:=by
         rw[htl];show jt x.l.link (n+1-x.l.place).toNat=lk;rw[←HPe.1,←HKe.1,HLke.1]
        have e2:tl.asked=x.l.asked++ [n]:=by rw[htl];rfl
        have e3:tl.low=Lw:=by rw[htl,HLe.1];rfl
        have e4:rs3.map RO.o=tl.held:=by
         rw[htl];show _=(kB x.l n).filter (ux n (hiA (x.l.asked++ [n]) x.l.low));rw[←HMap.1,HFl.1,←HLe.1,HHi2.1,←HHh.1,List.filter_map];rfl
        refine⟨fun h=>absurd HE.1 h,fun _=>⟨r.r,r.off,r.c,⟨tl,rs3,A3,c3,Ab,cb⟩,?_,htl,⟨HTok.1,e4,hrow7,hnone3,fun o ho=>keepRO o (HAtf.1 o ho),by rw[e2];exact hask7⟩,?_,fun o ho=>?_,fun b off e=>?_,fun b off e=>?_,HRr.1 r HRm.1⟩,HB7.1⟩
        ·have ef:FC=RL.cells ⟨tl,rs3,A3,c3,Ab,cb⟩:=by
          unfold RL.cells;rw[HFC.1,e1,HTp.1,e2,e3,HAsl.1]
         have er:r.cells=qy n (qS x.l n).key (.slice (some ⟨r.r,r.off,none⟩) 12 r.c):=by
          unfold RO.cells;rw[HRn.1,HRo.1]
         rw[ef,er]
        ·have h:=keepRO r HRtf.1
         rw[←HRo.1];exact⟨h.key,h.nn,h.ty,h.rd,h.cap⟩
        ·rw[HFl.1]at ho
         exact HRr.1 o (List.mem_filter.1 ho).1
        ·have e':A3=some ⟨b,off,none⟩:=e
         rcases HOwf.1.2 with⟨e6,-⟩|⟨g',cap,cur,e6,hbg,-⟩
         ·injection e6 with e6 _ _
          rw[e6]at e';cases e'
         ·injection e6 with e6 _ _
          rw[e6]at e';injection e' with e';injection e' with e' _ _
          omega
        ·have:=HIsep.1 b off e
         omega
theorem qiF(w:World)(s:qf)(n:Int)(n0: -9223372036854775808≤n)(n1:n<9223372036854775808)(hn:jB n=false):
 Calls prog 29 #[jL b8 s,.int .i64 n] w fun e w'=>e= .returned (.pointer (some ⟨w.heap.size+1,0,none⟩))∧Boxed w' (w.heap.size+1) 117 (.slice none 0 0)∧Below w.heap.size w w':=by
 obtain⟨w1,hw1⟩:∃w1,w1=(w.alloc (.cells (s.map b8).toArray 23)).alloc (.cells #[.slice none 0 0] 117):=⟨_,rfl⟩;have HC1:=qe (show Boxed w1 (w.heap.size+1) 117 (.slice none 0 0) by rw[hw1];have h:=Boxed.new (w.alloc (.cells (s.map b8).toArray 23)) 117 (.slice none 0 0);rw[QQ]at h;exact h);have HK1:=qe (show Below w.heap.size w w1 by rw[hw1];exact((QK _ w).alloc (QI _) _).alloc (by simp) _)
 have HW1:=qe hw1;have HR:=qe (qdX n n0 (by omega) w1);have hrt:uP n= -1:=by unfold uP;rw[if_neg (by rw[hn];decide)]
 rw[qn];clear hw1 hn;go_enter func29,ntmps29
 go_upto_region 2 with fail
 rw[←HW1.1];go_wp2_with fail
 refine HR.1.mono ?_;rintro e w2 ⟨rfl,rfl⟩;rw[hrt];go_wp2_with fail
 go_ret;exact⟨rfl,HC1.1,HK1.1⟩
def ChX(w:World)(gC gl:Nat)(xs:List LP):Prop:=(xs=[]∧Boxed w gC 117 (.slice none 0 0))∨zo w gC gl xs
theorem ChX.at_{w:World}{gC gl:Nat}{xs:List LP}(h:ChX w gC gl xs){i:Nat}(hi:i<xs.length):zo w gC gl xs:=by
 rcases h with⟨h1,h2⟩|h
 ·subst h1;exact absurd hi (by simp)
 ·exact h
theorem qbt(x n:Int)(w:World):
 Calls prog 85 #[.int .i64 x,.int .i64 n] w fun e w'=>e= .returned (.int .i64 (uO x n))∧w=w':=by
 have Hn:=qe (qgX x n w);cases hs:uH x n with
 |false=>
  have e:uO x n= -1:=by simp[uO,hs]
  rw[e];rw[hs]at Hn;clear e hs;go_enter func85,ntmps85
  go_wp2_with (go_at_call 107;refine Hn.1.mono ?_;rintro e w' ⟨rfl,rfl⟩)
  go_ret;exact⟨rfl,rfl⟩
 |true=>
  rw[hs]at Hn;obtain⟨a,b,rfl,rfl,hb,ha⟩:=qoa x n hs;have hb32:1≤b∧b≤32:=by simp at hb;omega
  obtain⟨b1,b2⟩:=hb32;have hpar:∀p:Nat,p<2*b-1→(vx (p:Int)=(a:Int)∨uA (p:Int)=(a:Int)↔(p:Int)=uO (a:Int) (b:Int)):=by
   intro p hp;have:=qnB b hb a ha p hp;rw[Bool.eq_iff_iff]at this;simpa using this
  have hrange:=qfP b hb a ha;simp only[Bool.and_eq_true,decide_eq_true_eq]at hrange;obtain⟨⟨⟨⟨hr1,hr2⟩,-⟩,-⟩,-⟩:=hrange;generalize uO (a:Int) (b:Int)=P at*;have Hpar:=qe hpar;clear hs hb hpar;go_enter func85,ntmps85
  go_wp2_with (go_at_call 107;refine Hn.1.mono ?_;rintro e w' ⟨rfl,rfl⟩)
  go_loop [5] (fun p=>∃q:Nat,q≤2*b-1∧p= .int .i64 q∧∀r:Nat,r<q→(r:Int)≠P) (fun p=>2*b-1-(intOf p).toNat)
  case atStart=>exact⟨0,by omega,rfl,fun r hr=>by omega⟩
  case round=>
   obtain⟨q,hq,rfl,hnot⟩:=hrel;have Hnot:=qe hnot;clear hnot;by_cases hlt:q<2*b-1
   ·have hiff:=Hpar.1 q hlt
    have Hc:=qe (qaT (q:Int) (by omega) w);have hle:decide ((q:Int)≤2*(b:Int)-2)=true:=by simp;omega
    generalize vx (q:Int)=l at*;generalize uA (q:Int)=r at*;by_cases hl:l=(a:Int)
    ·have hP:(q:Int)=P:=hiff.1 (.inl hl)
     have hl':(l==(a:Int))=true:=by simpa using hl
     have HP:=qe hP;clear hiff hl hP hr1 hr2;go_wp2_with (go_at_call 56;refine Hc.1.mono ?_;rintro e w' ⟨rfl,rfl⟩)
     go_ret;exact⟨by rw[←HP.1];rfl,rfl⟩
    ·have hl':(l==(a:Int))=false:=by simpa using hl
     by_cases hr:r=(a:Int)
     ·have hP:(q:Int)=P:=hiff.1 (.inr hr)
      have hr':(r==(a:Int))=true:=by simpa using hr
      have HP:=qe hP;clear hiff hl hr hP hr1 hr2;go_wp2_with (go_at_call 56;refine Hc.1.mono ?_;rintro e w' ⟨rfl,rfl⟩)
      go_ret;exact⟨by rw[←HP.1];rfl,rfl⟩
     ·have hr':(r==(a:Int))=false:=by simpa using hr
      have hP:(q:Int)≠P:=fun e=>by rcases hiff.2 e with h|h;exact hl h;exact hr h
      have HP:=qe hP;clear hiff hl hr hP;go_wp2_with (go_at_call 56;refine Hc.1.mono ?_;rintro e w' ⟨rfl,rfl⟩)
      go_round
      case rel=>exact⟨q+1,by omega,by go_num,fun r hr=>by rcases Nat.lt_succ_iff_lt_or_eq.1 hr with h|h;exact Hnot.1 r h;rw[h];exact HP.1⟩
      case measure=>simp[intOf];omega
   ·have hP:P= -1:=by
     apply Decidable.byContradiction;intro hne;exact Hnot.1 P.toNat (by omega) (by omega)
    have HP:=qe hP;have hle:decide ((q:Int)≤2*(b:Int)-2)=false:=by simp;omega
    clear hP
    go_wp2
    go_ret;exact⟨by rw[HP.1];rfl,rfl⟩
attribute [local go_sem] Oper.semAt_some
theorem qdn:(prog.info? 3).map (fun i=>(i.zero,i.size,i.bytes))=some (some (.int .i64 0),1,8):=by kernel_rfl
def uZ(z:Int):Value:= .int .i64 z
theorem qca(x:Int):(uZ x).oneCell'=true:=rfl
def upL:Nat→Int→Int→List Int
 |0,_,_=> []
 |f+1,p,n=>if p<0 then[]else p::upL f (uO p n) n
def kw(x n:Int):List Int:=upL 8 (uO x n) n
def uJ(n:Int):Int→List Int→Bool
 |p,[]=>decide (p<0)
 |p,q::l=>q==p&&decide (0≤p)&&decide (p<64)&&uJ n (uO p n) l
theorem qkW:∀n∈ ([1,2,4,8,16,32]:List Nat),∀x:Nat,x<2*n-1→(uJ (n:Int) (uO (x:Int) (n:Int)) (kw (x:Int) (n:Int))&&decide ((kw (x:Int) (n:Int)).length≤6))=true:=by decide+kernel
theorem qhf(x n:Int):uJ n (uO x n) (kw x n)=true∧(kw x n).length≤6:=by
 cases hn:uH x n with
 |false=>
  have e:uO x n= -1:=if_pos (.inl hn);have e2:kw x n=[]:=by unfold kw;rw[e];rfl
  rw[e,e2];exact⟨rfl,by simp⟩
 |true=>
  obtain⟨a,b,rfl,rfl,hb,ha⟩:=qoa x n hn;have:=qkW b hb a ha;simpa using this
theorem qe7{n p:Int}(h:uJ n p []=true):p<0:=by simpa[uJ]using h
theorem qbE{n p q:Int}{l:List Int}(h:uJ n p (q::l)=true):q=p∧0≤p∧p<64∧uJ n (uO p n) l=true:=by
 simp only[uJ,Bool.and_eq_true,beq_iff_eq,decide_eq_true_eq]at h;exact⟨h.1.1.1,h.1.1.2,h.1.2,h.2⟩
theorem qd5{n:Int}:∀(f:Nat) (p:Int) (l:List Int),uJ n p l=true→l.length<f→upL f p n=l
 |0,_,_,_,h=>absurd h (by omega)
 |f+1,p,[],h,_=>by unfold upL;rw[if_pos (qe7 h)]
 |f+1,p,q::l,h,hl=>by
  obtain⟨rfl,h0,_,hc⟩:=qbE h;simp only[Jr]at hl;unfold upL;rw[if_neg (by omega),qd5 f _ l hc (by omega)]
theorem qhg(x n:Int)(w:World):
 Calls prog 55 #[.int .i64 x,.int .i64 n] w fun e w'=>∃v,e= .returned v∧Own uZ w' w.heap.size 3 v (kw x n)∧Below w.heap.size w w':=by
 obtain⟨i0,hi0,hz0,hz1,hz2⟩:=info_parts qdn;obtain⟨hch,hlen⟩:=qhf x n;obtain⟨L,hL⟩:∃L,L=kw x n:=⟨_,rfl⟩;rw[←hL]at hch hlen ⊢;obtain⟨p0,hp0⟩:∃p,p=uO x n:=⟨_,rfl⟩;have c0:=fun w=>qbt x n w
 simp only[←hp0]at c0;rw[←hp0]at hch;have C0:=qe c0;have Hch:=qe hch;clear c0 hch hL hp0;go_enter func55,ntmps55
 go_wp2_with (go_at_call 85;refine(C0.1 _).mono ?_;rintro e w' ⟨rfl,rfl⟩)
 go_loopw [5,6] (fun v p wr=>∃(pre rest:List Int) (q:Int),p= .int .i64 q∧L=pre++rest∧uJ n q rest=true∧Own uZ wr w.heap.size 3 v pre∧Below w.heap.size w wr) (fun _ p _=>(upL 8 (intOf p) n).length)
 case atStart=>exact⟨[],L,p0,rfl,rfl,Hch.1,Own.nil_ _ _ _ _,QK _ _⟩
 case round=>
  obtain⟨pre,rest,q,rfl,hx,hch,hown,hb⟩:=hrel;have hz:=hb.size;have hpl:pre.length+rest.length≤6:=by have:=congrArg JT hx;rw[QO]at this;omega
  have hu:=qd5 8 q rest hch (by omega);have Hu:=qe hu;have Hx:=qe hx;clear hu hx;cases rest with
  |nil=>
   have hq:=qe7 hch;clear hch
   go_wp2
   go_ret;exact⟨_,rfl,hown.cast (by rw[Hx.1,Zb]),hb⟩
  |cons y l=>
   obtain⟨rfl,h0,h64,hch2⟩:=qbE hch;have cp:=fun w=>qbt y n w
   obtain⟨p1,hp1⟩:∃p,p=uO y n:=⟨_,rfl⟩;simp only[←hp1]at cp;rw[←hp1]at hch2;have Cp:=qe cp;have Hch2:=qe hch2;simp only[Jr]at hpl;clear cp hch hch2 hp1;go_wp2_with (first
    |(at_builtin;refine qh rfl _ _ 70 rfl qca w.heap.size 3 i0 _ 8 underlying70 hi0 hz0 hz1 hz2 rfl _ pre rfl (hown.alloc _) (wr.heap.size+1) _ 1 1 [y] rfl rfl (Rd.new uZ _ _ [y]) (by simp[maxLen];omega) (by simp;omega) (by simp;omega) ?_;intro v7 w7 hown7 hg7 hbb7)
    |(go_at_call 85;refine(Cp.1 _).mono ?_;rintro e w' ⟨rfl,rfl⟩))
   go_roundw
   case rel=>exact⟨pre++ [y],l,p1,rfl,by rw[Hx.1];simp,Hch2.1,hown7,hbb7 _ _ (QI _) (by(repeat' (first|assumption|exact QK _ _|refine Below.drew ?_|refine Below.alloc ?_ ?_ _|omega|(simp;done)|(simp;omega))))⟩
   case measure=>
    show(upL 8 p1 n).length<(upL 8 y n).length;rw[Hu.1,qd5 8 p1 l Hch2.1 (by omega)];simp
def y8(path:List Int)(x:Int)(r:Nat)(s:qf):qf:=if(if r=0 then x else path.getD (r-1) 0)=vx (path.getD r 0)then vB s uF else vB s kh
def yq(path:List Int)(x:Int):Nat→qf→qf
 |0,s=>s
 |r+1,s=>yq path x r (y8 path x r s)
def vr(n i:Nat)(s:qf):qf:=yq (kw (2*(i:Int)) n) (2*(i:Int)) (kw (2*(i:Int)) n).length s
theorem qkX(path:List Int)(x:Int)(r:Nat)(s:qf):(y8 path x r s).length=32:=by
 unfold y8;generalize(if r=0 then x else path.getD (r-1) 0)=u;by_cases h:u=vx (path.getD r 0)
 ·rw[if_pos h];exact jl _ _
 ·rw[if_neg h];exact jl _ _
theorem uo(path:List Int)(x:Int):∀(r:Nat) (s:qf),s.length=32→(yq path x r s).length=32
 |0,s,h=>by rw[yq];exact h
 |r+1,s,h=>by rw[yq];exact uo path x r _ (qkX _ _ _ _)
def qhh(path:List Int)(x:Int):Nat→List Bool
 |0=> []
 |r+1=>decide ((if r=0 then x else path.getD (r-1) 0)=vx (path.getD r 0))::qhh path x r
def goS:List Bool→qf→qf
 | [],s=>s
 |b::l,s=>goS l (if b then vB s uF else vB s kh)
theorem qhi(path:List Int)(x:Int):∀(r:Nat) (s:qf),yq path x r s=goS (qhh path x r) s
 |0,s=>rfl
 |r+1,s=>by
  rw[yq,qhi path x r,qhh,goS];unfold y8;by_cases h:(if r=0 then x else path.getD (r-1) 0)=vx (path.getD r 0)<;>simp[h]
def qhj:Nat→Nat→List Bool
 |0,_=> []
 |k+1,i=>decide (i<2^k)::qhj k (if i<2^k then i else i-2^k)
theorem qkY:∀k:Nat,k≤5→∀i:Nat,i<2^k→qhh (kw (2*(i:Int)) ((2^k:Nat):Int)) (2*(i:Int)) (kw (2*(i:Int)) ((2^k:Nat):Int)).length=qhj k i:=by
 have h:∀k:Nat,k<6→∀i:Nat,i<2^k→qhh (kw (2*(i:Int)) ((2^k:Nat):Int)) (2*(i:Int)) (kw (2*(i:Int)) ((2^k:Nat):Int)).length=qhj k i:=by decide+kernel
 exact fun k hk i hi=>h k (by omega) i hi
theorem qfS:∀(k i:Nat) (s:qf),i<2^k→(vN k s)[i]?=some (goS (qhj k i) s)
 |0,i,s,h=>by
  have:i=0:=by simpa using h
  subst this;rfl
 |k+1,i,s,h=>by
  have e:vN (k+1) s=vN k (vB s uF)++vN k (vB s kh):=rfl;rw[e,qhj,goS];rw[Nat.pow_succ]at h;by_cases hi:i<2^k
  ·rw[Zg (by rw[vD];exact hi),qfS k i _ hi];simp[hi]
  ·rw[JA (by rw[vD];omega),vD,qfS k (i-2^k) _ (by omega)];simp[hi]
theorem qkZ(k:Nat)(hk:k≤5)(i:Nat)(hi:i<2^k)(s:qf):(vN k s)[i]?=some (vr (2^k) i s):=by
 rw[qfS k i s hi];unfold vr;rw[qhi,qkY k hk i hi]
theorem qnD(k i:Nat)(hk:k≤5)(hi:i<2^k)(s:qf)(gms:List Nat)(hg:gms.length=2^k)(h:i<(mkL (vN k s) gms).length):(mkL (vN k s) gms)[i].l=ju (vr (2^k) i s):=by
 have h1:=qkZ k hk i hi s;have h2:i<(vN k s).length:=by rw[vD];exact hi
 have h3:(vN k s)[i]=vr (2^k) i s:=by rw[QT h2]at h1;exact Option.some.inj h1
 have hg2:i<gms.length:=by rw[hg];exact hi
 have e:(mkL (vN k s) gms)[i]?=some ⟨ju (vN k s)[i],[],gms[i],false,0,0#64,[]⟩:=by
  unfold mkL;rw[List.getElem?_zipWith,QT h2,QT hg2]
 rw[QT h]at e;rw[Option.some.inj e];show ju (vN k s)[i]=_;rw[h3]
end
section
open Go.RowKit
set_option maxRecDepth 100000
theorem qmy(w:World)(gC gl:Nat)(xs:List LP)(hc:zo w gC gl xs)(i:Nat)(hi:i<xs.length)(hm:xs.length≤1000)(hE:qQ xs[i].l xs[i].l.place≠0):
 Calls prog 34 #[.pointer (some ⟨gC,0,none⟩),.int .i64 (i:Int)] w fun e w'=>e= .returned (.tuple #[.agg qg.toArray,zG (qQ xs[i].l xs[i].l.place)])∧Below w.heap.size w w':=by
 obtain⟨w1,hw1⟩:∃w1,w1=w.alloc (.cells qg.toArray 94):=⟨_,rfl⟩;have HZ1:=qe (show Blk w1 w.heap.size 94 qg by rw[hw1];exact Blk.new _ _ _);have HK1:=qe (show Below w.heap.size w w1 by rw[hw1];exact(QK _ w).alloc (QI _) _);have hz1:w1.heap.size=w.heap.size+1:=by rw[hw1];simp
 have HW1:=qe hw1;clear hw1;have HC1:=qe (hc.below HK1.1);have HL:=qe (uz w1 gC gl xs HC1.1 i hi hm);have hx:=hc.ok _ (Q5 hi);have c35:=HC1.1.range i hi 35 _ (zR hx.lok.len);have hT:=qkN w1 gC gl xs HC1.1 i hi hm _ hE;have hNe:=jO hE;generalize qQ xs[i].l xs[i].l.place=E at hT hNe hE ⊢;generalize xs[i].l.place=p at c35 hT ⊢;rw[hNe]at hT ⊢;have HT:=qe hT
 clear hE hx hc hT hNe;go_enter func34,ntmps34
 go_upto_region 1 with fail
 have hw1:=HW1.1;simp only[q7]at hw1
 rw[←hw1];clear hw1;go_wp2_with fail
 refine HL.1.mono ?_;rintro e w2 ⟨rfl,rfl⟩;go_wp2_with fail
 refine HT.1.mono ?_;rintro e w3 ⟨rfl,hb3⟩;have HZ3:=qe (HZ1.1.below hb3 (by omega));have HB3:=qe (HK1.1.trans (hb3.mono (by omega)));clear hb3;go_wp2_with (refine qi rfl 94 (.tmp 4) (.tmp 21) rfl w.heap.size 0 rfl qg rfl 94 _ [] qg [] HZ3.1 (by simp) rfl rfl qA (qF _ _ _ _ _) ?_;intro w9 hx9 hg9)
 have HX9:=qe (show Blk w9 w.heap.size 94 qg from hx9.cast (by simp));refine bodyPost_ret (v:= .tuple #[.agg qg.toArray,.iface 69 (.int .i64 (E:Int))]) (qu (g:=w.heap.size) rfl _ _ _ _ _ _ rfl rfl HX9.1 underlying94 rfl qA) rfl ?_;exact⟨rfl,HB3.1.grown hg9 HB3.1.size (fun k e=>by cases e;exact QI _)⟩
def zM(link:qf):RL:=⟨ju link,[],none,0,none,0⟩
theorem qiG(w:World)(link:qf)(h:link.length=32):(zM link).At w:=
 ⟨um link h,rfl,Rd.nil_ _ _ _ _,fun _=>⟨rfl,rfl⟩,(fun o ho=>by cases ho),Rd.nil_ _ _ _ _⟩
theorem qbu(link:qf)(h:link.length=32):prog.built 89 [(0,.agg (link.map b8).toArray)]=some (zM link).cells.toArray:=by
 obtain⟨x0,x1,x2,x3,x4,x5,x6,x7,x8,x9,x10,x11,x12,x13,x14,x15,x16,x17,x18,x19,x20,x21,x22,x23,x24,x25,x26,x27,x28,x29,x30,x31,rfl⟩:=un h
 kernel_rfl
def zS(a:Int):Nat:=if jB a then a.toNat else 0
theorem qcD{a:Int}(h:jB a=true):∃k,k≤5∧a=((2^k:Nat):Int):=by
 unfold jB at h;simp only[Bool.or_eq_true,beq_iff_eq]at h;rcases h with((((h|h)|h)|h)|h)|h
 ·exact⟨0,by decide,h⟩
 ·exact⟨1,by decide,h⟩
 ·exact⟨2,by decide,h⟩
 ·exact⟨3,by decide,h⟩
 ·exact⟨4,by decide,h⟩
 ·exact⟨5,by decide,h⟩
theorem qjG(w:World)(hT:Tab w)(s:qf)(hs:s.length=32)(a:Int)(a0: -9223372036854775808≤a)(a1:a<9223372036854775808):
 Calls prog 29 #[jL b8 s,.int .i64 a] w fun e w'=>∃gC gl xs,e= .returned (.pointer (some ⟨gC,0,none⟩))∧ChX w' gC gl xs∧xs.length=zS a∧(∀(i:Nat) (h:i<xs.length),xs[i].l=ju (vr (zS a) i s))∧(∀x∈xs,LP.hp x=[])∧
  (∀x∈xs,w.heap.size≤LP.gm x)∧w.heap.size≤gC∧gC<w'.heap.size∧w.heap.size≤gl∧gl<w'.heap.size∧zS a≤32∧Below w.heap.size w w':=by
 cases hsd:jB a with
 |true=>
  obtain⟨k,hk,rfl⟩:=qcD hsd;have hN:zS ((2^k:Nat):Int)=2^k:=by unfold zS;rw[if_pos hsd,Int.toNat_natCast]
  refine(qms w hT s hs k hk).mono ?_;rintro e w' ⟨gC,gl,gms,rfl,hg,hc,h1,h2,h3,hb⟩;have hl:(mkL (vN k s) gms).length=2^k:=by rw[qjE _ _ (by rw[vD,hg]),vD]
  rw[hN];refine⟨gC,gl,mkL (vN k s) gms,rfl,.inr hc,hl,fun i h=>qnD k i hk (by rw[hl]at h;exact h) s gms hg h,fun x hx=>?_,fun x hx=>?_,h1,hc.top.lt,h2,hc.lines.lt,Nat.pow_le_pow_right (n:=2) (by decide) hk,hb⟩
  ·obtain⟨s',_,g,_,rfl⟩:=yI _ _ x hx;rfl
  ·obtain⟨s',_,g,hg',rfl⟩:=yI _ _ x hx;exact h3 g hg'
 |false=>
  have hN:zS a=0:=by unfold zS;rw[hsd];rfl
  rw[hN];refine(qiF w s a a0 a1 hsd).mono ?_;rintro e w' ⟨rfl,hc,hb⟩;have hlt:=hc.lt;exact⟨w.heap.size+1,w.heap.size+1,[],rfl,.inl ⟨rfl,hc⟩,rfl,(fun i h=>by simp at h),(fun x hx=>by cases hx),(fun x hx=>by cases hx),by omega,hlt,by omega,hlt,by omega,hb⟩
theorem qnE{w:World}{B E K g n cap:Nat}{us:List Value}(h:w.ownsRow B E K (.slice (some ⟨g,0,none⟩) n cap) n us):∃spare,Blk w g E (us++spare)∧B≤g:=by
 rcases h.2 with⟨e,-⟩|⟨g',cap',cur,e,hbg,hg,hnc,hcm,hcs,ht⟩
 ·cases e
 ·injection e with e1 e2 e3
  injection e1 with e1;injection e1 with e1;subst e1;refine⟨cur.toList.drop (n*K),?_,hbg⟩;show w.heap[g]?=some (.cells (us++cur.toList.drop (n*K)).toArray E (0,0));rw[hg,←ht,JV]
end
section
open Go.RowKit
structure Frm(w w':World)(S:List Nat):Prop where
 os:w'.os=w.os
 tape:w'.tape=w.tape
 output:w'.output=w.output
 size:w.heap.size≤w'.heap.size
 block:∀k,k<w.heap.size→k∉S→w'.heap[k]?=w.heap[k]?
theorem Frm.refl(w:World)(S:List Nat):Frm w w S:=⟨rfl,rfl,rfl,QI _,fun _ _ _=>rfl⟩
theorem Frm.below{w w' w'':World}{S:List Nat}{B:Nat}(h:Frm w w' S)(hb:Below B w' w'')(hB:w'.heap.size≤B):Frm w w'' S:=
 ⟨hb.os.trans h.os,hb.tape.trans h.tape,hb.output.trans h.output,QX h.size hb.size,fun k hk hn=>(hb.block k (by have:=h.size;omega)).trans (h.block k hk hn)⟩
theorem Frm.grown{w w' w'':World}{S:List Nat}{g:Nat}(h:Frm w w' S)(hg:w'.grownBy w'' (some g))(hm:g∈S):Frm w w'' S:=
 ⟨hg.os.trans h.os,hg.tape.trans h.tape,hg.output.trans h.output,QX h.size hg.size,fun k hk hn=>(hg.block k (by have:=h.size;omega) (fun e=>by injection e with e;subst e;exact hn hm)).trans (h.block k hk hn)⟩
theorem Frm.toBelow{w0 w w':World}{S:List Nat}{B:Nat}(hb:Below B w0 w)(h:Frm w w' S)(hB:B≤w.heap.size)(hS:∀q∈S,B≤q):Below B w0 w':=
 ⟨h.os.trans hb.os,h.tape.trans hb.tape,h.output.trans hb.output,QX hb.size h.size,fun k hk=>(h.block k (by omega) (fun hm=>by have:=hS k hm;omega)).trans (hb.block k hk)⟩
theorem Qb{w w':World}{S:List Nat}{B:Nat}{A:Option Addr}{ns:qf}(h:Rd b8 w B A ns)(hB:B≤w.heap.size)(f:Frm w w' S)(hA:∀(b off:Nat),A=some ⟨b,off,none⟩→b∉S):Rd b8 w' B A ns:=fun hn=>by
 obtain⟨b,off,e,hlt,hc⟩:=h hn;exact⟨b,off,e,hlt,fun j u hu=>by rw[←hc j u hu];exact JK (f.block b (by omega) (hA b off e))⟩
def zC(gC gl:Nat)(xs:List LP):List Nat:=gC::gl::(xs.map LP.gm++xs.flatMap fun x=>x.hp.map Prod.snd)
theorem zo.of_same{w w':World}{gC gl:Nat}{xs:List LP}(c:zo w gC gl xs)(h:∀k∈zC gC gl xs,w'.heap[k]?=w.heap[k]?):zo w' gC gl xs:=
 ⟨(h gC (by simp[zC])).trans c.top,(h gl (by simp[zC])).trans c.lines,c.ok,fun x hx=>⟨(c.held x hx).map.at_ (h _ (by
     unfold zC;simp only[Ja,QS];exact .inr (.inr (.inl (QW.2 ⟨x,hx,rfl⟩))))),fun p hp=>(h _ (by
     unfold zC;simp only[Ja,QS];exact .inr (.inr (.inr (Jk.2 ⟨x,hx,QW.2 ⟨p,hp,rfl⟩⟩))))).trans ((c.held x hx).mem p hp)⟩,c.gms,c.blks⟩
theorem zo.foot_lt{w:World}{gC gl:Nat}{xs:List LP}(c:zo w gC gl xs):∀k∈zC gC gl xs,k<w.heap.size:=by
 intro k hk;unfold zC at hk;simp only[Ja,QS]at hk;rcases hk with rfl|rfl|hk|hk
 ·exact c.top.lt
 ·exact c.lines.lt
 ·exact c.gm_lt k hk
 ·exact c.blk_lt k hk
theorem zo.foot_nd{w:World}{gC gl:Nat}{xs:List LP}(c:zo w gC gl xs):(zC gC gl xs).Nodup:=by
 have h1:w.heap[gC]?=some (.cells #[.slice (some ⟨gl,0,none⟩) xs.length xs.length] 117 (0,0)):=c.top;have h2:w.heap[gl]?=some (.cells (xs.flatMap LP.cells).toArray 130 (0,0)):=c.lines;have hm:∀k∈xs.map LP.gm,∀(cs:Array Value) (T:TypeId),w.heap[k]?≠some (.cells cs T (0,0)):=fun k hk cs T e=>by
  obtain⟨x,hx,rfl⟩:=QW.1 hk;exact(c.held x hx).map.not_cells e rfl
 have hb:∀k∈xs.flatMap (fun x=>x.hp.map Prod.snd),∃cs,w.heap[k]?=some (.cells cs 5 (0,0)):=fun k hk=>by
  obtain⟨x,hx,hk⟩:=Jk.1 hk;obtain⟨p,hp,rfl⟩:=QW.1 hk;exact⟨_,(c.held x hx).mem p hp⟩
 unfold zC;refine List.nodup_cons.2 ⟨?_,List.nodup_cons.2 ⟨?_,J9.2 ⟨c.gms,c.blks,fun a ha b hb' e=>?_⟩⟩⟩
 ·simp only[Ja,QS,not_or]
  refine⟨fun e=>?_,fun h=>hm _ h _ _ h1,fun h=>?_⟩
  ·rw[←e,h1]at h2;injection h2 with h2;injection h2 with _ hT _;exact absurd hT (by decide)
  ·obtain⟨cs,h3⟩:=hb _ h
   rw[h1]at h3;injection h3 with h3;injection h3 with _ hT _;exact absurd hT (by decide)
 ·simp only[QS,not_or]
  refine⟨fun h=>hm _ h _ _ h2,fun h=>?_⟩;obtain⟨cs,h3⟩:=hb _ h;rw[h2]at h3;injection h3 with h3;injection h3 with _ hT _;exact absurd hT (by decide)
 ·subst e
  obtain⟨cs,h3⟩:=hb _ hb';exact hm _ ha _ _ h3
theorem zo.out{w:World}{gC gl:Nat}{xs:List LP}(c:zo w gC gl xs){cs:Array Value}{T:TypeId}{g:Nat}(hg:w.heap[g]?=some (.cells cs T (0,0)))(h1:T≠117)(h2:T≠130)(h3:T≠5):g∉zC gC gl xs:=by
 intro hm;unfold zC at hm;simp only[Ja,QS]at hm;rcases hm with rfl|rfl|hm|hm
 ·have h4:w.heap[g]?=some (.cells #[.slice (some ⟨gl,0,none⟩) xs.length xs.length] 117 (0,0)):=c.top
  rw[h4]at hg;injection hg with hg;injection hg with _ hT _;exact h1 hT.symm
 ·have h4:w.heap[g]?=some (.cells (xs.flatMap LP.cells).toArray 130 (0,0)):=c.lines
  rw[h4]at hg;injection hg with hg;injection hg with _ hT _;exact h2 hT.symm
 ·obtain⟨x,hx,rfl⟩:=QW.1 hm
  exact(c.held x hx).map.not_cells hg rfl
 ·obtain⟨x,hx,hm⟩:=Jk.1 hm
  obtain⟨p,hp,rfl⟩:=QW.1 hm;have h4:w.heap[p.2]?=some (.cells ((p.1.key++p.1.nonce).map b8).toArray 5 (0,0)):=(c.held x hx).mem p hp;rw[h4]at hg;injection hg with hg;injection hg with _ hT _;exact h3 hT.symm
structure EP where
 gC:Nat
 gl:Nat
 xs:List LP
 no:Int
 leaf:Nat
def EP.cells(e:EP):List Value:=[.pointer (some ⟨e.gC,0,none⟩),.int .i64 e.no,.int .i64 (e.leaf:Int)]
def EP.foot(e:EP):List Nat:=zC e.gC e.gl e.xs
theorem EP.cells_len(e:EP):e.cells.length=3:=rfl
theorem EP.cells_one(e:EP):∀u∈e.cells,u.oneCell'=true:=by
 intro u hu;simp only[EP.cells,Ja,List.not_mem_nil,or_false]at hu;rcases hu with rfl|rfl|rfl<;>rfl
structure BX where
 grp:qf
 v:Value
 es:List EP
 clr:Bool
def BX.cells(b:BX):List Value:=b.grp.map b8++ [b.v,.bool b.clr]
def BX.efoot(b:BX):List Nat:=b.es.flatMap EP.foot
def BX.foot(gB:Nat)(b:BX):List Nat:=gB::(b.v.ownBlock.toList++b.efoot)
structure qI(w:World)(base gB:Nat)(b:BX):Prop where
 blk:Blk w gB 76 b.cells
 glen:b.grp.length=32
 row:w.ownsRow base 80 3 b.v b.es.length (b.es.flatMap EP.cells)
 ch:∀e∈b.es,zo w e.gC e.gl e.xs
 bnd:∀e∈b.es,e.leaf<e.xs.length∧e.xs.length≤32∧0≤e.no∧e.no≤4294967295
 rise:b.es.Pairwise fun x y=>x.no<y.no
 many:b.es.length≤5
 nd:b.efoot.Nodup
 low:base≤gB∧∀k∈b.efoot,base≤k
section
variable{w w':World}{base gB:Nat}{b:BX}
theorem BX.c32(h:b.grp.length=32):b.cells[32]?=some b.v:=by
 unfold BX.cells;rw[JA (by simp[h])];simp[h]
theorem BX.c33(h:b.grp.length=32):b.cells[33]?=some (.bool b.clr):=by
 unfold BX.cells;rw[JA (by simp[h])];simp[h]
theorem kW{E:TypeId}{K n g:Nat}{v:Value}{us:List Value}(h:w.ownsRow base E K v n us)(hv:v.ownBlock=some g):base≤g∧g<w.heap.size∧∃cs,w.heap[g]?=some (.cells cs E (0,0)):=by
 rcases h.2 with⟨rfl,-⟩|⟨g',cap,cur,rfl,hb,hg,-⟩
 ·cases hv
 ·injection hv with hv
  have hv':g'=g:=hv;subst hv';refine⟨hb,?_,cur,hg⟩;rcases Jo g' w.heap.size with h1|h1
  ·exact h1
  ·rw[Array.getElem?_eq_none h1]at hg;cases hg
theorem uR{E:TypeId}{K n:Nat}{v:Value}{us:List Value}(h:w.ownsRow base E K v n us)(hs:∀g,v.ownBlock=some g→w'.heap[g]?=w.heap[g]?):w'.ownsRow base E K v n us:=by
 refine⟨h.1,?_⟩;rcases h.2 with h0|⟨g,cap,cur,hv,hbg,hg,rest⟩
 ·exact .inl h0
 ·exact .inr ⟨g,cap,cur,hv,hbg,(hs g (by rw[hv];rfl)).trans hg,rest⟩
theorem qI.foot_lt(h:qI w base gB b):∀k∈BX.foot gB b,base≤k∧k<w.heap.size:=by
 intro k hk;simp only[BX.foot,Ja,QS,Option.mem_toList]at hk;rcases hk with rfl|hk|hk
 ·exact⟨h.low.1,h.blk.lt⟩
 ·obtain⟨h1,h2,-⟩:=kW h.row hk
  exact⟨h1,h2⟩
 ·refine⟨h.low.2 k hk,?_⟩
  obtain⟨e,he,hk⟩:=Jk.1 hk;exact(h.ch e he).foot_lt k hk
theorem qI.of_same(h:qI w base gB b)(hs:∀k∈BX.foot gB b,w'.heap[k]?=w.heap[k]?):qI w' base gB b:=
 ⟨(hs gB (by simp[BX.foot])).trans h.blk,h.glen,uR h.row (fun g hg=>hs g (by simp[BX.foot,hg])),fun e he=>(h.ch e he).of_same (fun k hk=>hs k (by
   simp only[BX.foot,Ja,QS];exact .inr (.inr (Jk.2 ⟨e,he,hk⟩)))),h.bnd,h.rise,h.many,h.nd,h.low⟩
theorem qI.below(h:qI w base gB b)(hb:Below w.heap.size w w'):qI w' base gB b:=h.of_same (fun k hk=>hb.block k (h.foot_lt k hk).2)
theorem qI.frm{S:List Nat}(h:qI w base gB b)(f:Frm w w' S)(hS:∀k∈BX.foot gB b,k∉S):qI w' base gB b:=h.of_same (fun k hk=>f.block k (h.foot_lt k hk).2 (hS k hk))
theorem qI.drew(h:qI w base gB b):qI w.drew base gB b:=h.of_same (fun k hk=>rfl)
theorem qI.alloc(h:qI w base gB b)(o:Obj):qI (w.alloc o) base gB b:=h.below ((QK _ w).alloc (QI _) o)
theorem qI.gB_lt(h:qI w base gB b):gB<w.heap.size:=h.blk.lt
theorem qI.gB_out(h:qI w base gB b){e:EP}(he:e∈b.es):∀{cs:Array Value} {T:TypeId} {g:Nat},w.heap[g]?=some (.cells cs T (0,0))→T≠117→T≠130→T≠5→g∉e.foot:=by
 intro cs T g hg h1 h2 h3;exact(h.ch e he).out hg h1 h2 h3
end
structure EM where
 no:Int
 leaf:Nat
 ls:List jo
structure BM where
 grp:qf
 es:List EM
 clr:Bool
def EP.m(e:EP):EM:=⟨e.no,e.leaf,e.xs.map LP.l⟩
def BX.m(b:BX):BM:=⟨b.grp,b.es.map EP.m,b.clr⟩
def yT:BM:=⟨QL 32 0#8,[],false⟩
def vY(n:Nat)(s:qf):List jo:=(List.range n).map fun i=>ju (vr n i s)
def kX(es:List EM):Int:=match es.getLast? with
 |none=> -1
 |some e=>e.no
def vy(b:BM)(grp:qf)(no leaves leaf:Int):Nat:=
 if b.clr then 10 else if jB leaves=false∨leaf<0∨leaves≤leaf then 3 else if no<0∨4294967295<no then 6 else if b.es≠ []∧(grp≠b.grp∨no≤kX b.es)then 6 else 0
def yr{α:Type}(es:List α)(e:α):List α:=if 4≤es.length then(es++ [e]).tail else es++ [e]
def vO(b:BM)(grp:qf)(no leaves leaf:Int)(s:qf):BM:=
 if vy b grp no leaves leaf=0 then⟨grp,yr b.es ⟨no,leaf.toNat,vY leaves.toNat s⟩,false⟩else b
section
variable{w w':World}{base gB:Nat}{b:BX}
theorem qI.at_row(h:qI w base gB b){g m c:Nat}(hv:b.v= .slice (some ⟨g,0,none⟩) m c){i:Nat}(hi:i<b.es.length):
 w.cell? ⟨g,i*3,none⟩=some (.pointer (some ⟨b.es[i].gC,0,none⟩))∧w.cell? ⟨g,i*3+1,none⟩=some (.int .i64 b.es[i].no)∧w.cell? ⟨g,i*3+2,none⟩=some (.int .i64 (b.es[i].leaf:Int)):=by
 have hr:=h.row;rw[hv]at hr;have hc:∀j u,b.es[i].cells[j]?=some u→w.cell? ⟨g,i*3+j,none⟩=some u:=fun j u hu=>by
  have h1:=qb6 (f:=EP.cells) (K:=3) (xs:=b.es) (k:=i) (x:=b.es[i]) (fun x _=>x.cells_len) (QT hi) j u hu;have h2:=World.ownsRow.cells (g:=g) hr rfl _ u h1;rw[Addr.add_lit,JD,Jw]at h2;exact h2
 exact⟨hc 0 _ rfl,hc 1 _ rfl,hc 2 _ rfl⟩
theorem qI.v_some(h:qI w base gB b)(hn:0<b.es.length):∃g c,b.v= .slice (some ⟨g,0,none⟩) b.es.length c∧base≤g∧g<w.heap.size∧b.es.length≤c:=by
 obtain⟨A,c,hv,hr,-,hc,-⟩:=qX h.row;obtain⟨g,off,e,hg,-⟩:=hr (by rw[vm (K:=3) (fun x _=>x.cells_len)];omega);rcases h.row.2 with⟨-,h0⟩|⟨g',cap,cur,hv',hbg,hg',hnc,-⟩
 ·omega
 ·refine⟨g',cap,hv',hbg,?_,hnc⟩
  rcases Jo g' w.heap.size with h1|h1
  ·exact h1
  ·rw[Array.getElem?_eq_none h1]at hg';cases hg'
theorem qI.cell32(h:qI w base gB b):w.cell? ⟨gB,32,none⟩=some b.v:=h.blk.cell 32 (BX.c32 h.glen)
theorem qI.cell33(h:qI w base gB b):w.cell? ⟨gB,33,none⟩=some (.bool b.clr):=h.blk.cell 33 (BX.c33 h.glen)
theorem qI.drewN(h:qI w base gB b)(q:Nat):qI (w.drewN q) base gB b:=h.of_same (fun k hk=>rfl)
end
set_option maxRecDepth 100000
theorem qmz(w:World):Calls prog 33 #[.pointer none] w fun e w'=>e= .returned (.pointer none)∧∃q,w'=w.drewN q:=by
 go_enter func33,ntmps33
 go_wp2_with fail
 go_ret;exact⟨rfl,0,rfl⟩
theorem qbF{w:World}{base gB:Nat}{b:BX}(h:qI w base gB b)(hn:b.es=[]):Calls prog 33 #[.pointer (some ⟨gB,0,none⟩)] w fun e w'=>e= .returned (.pointer none)∧∃q,w'=w.drewN q:=by
 obtain⟨A,c,hv,-⟩:=qX h.row;have c32:=h.cell32;rw[hv,hn]at c32;simp only[List.length_nil]at c32;clear h hv hn;go_enter func33,ntmps33
 go_wp2_with fail
 go_ret;exact⟨rfl,0,rfl⟩
theorem qcE{w:World}{base gB:Nat}{b:BX}(h:qI w base gB b){n g c:Nat}(hn:b.es.length=n+1)(hv:b.v= .slice (some ⟨g,0,none⟩) (n+1) c):
 Calls prog 33 #[.pointer (some ⟨gB,0,none⟩)] w fun e w'=>e= .returned (.pointer (some ⟨g,n*3,none⟩))∧∃q,w'=w.drewN q:=by
 have c32:=h.cell32;have hm:=h.many;rw[hv]at c32;obtain⟨m,hme⟩:∃m,m=n+1:=⟨_,rfl⟩;rw[←hme]at c32;have hsi:(m:Int)-1=(n:Int):=by omega
 have h0:((m:Int)=0)=False:=by simp;omega
 have h1:(0:Int)≤(n:Int):=by omega
 have h2:(n:Int)<(m:Int):=by omega
 have h3:n<m:=by omega
 have hw:IntKind.i64.wrap (n:Int)=(n:Int):=by unfold IntKind.wrap;simp[IntKind.bits,IntKind.signed];omega
 clear h hv hn hm hme;go_enter func33,ntmps33
 go_wp2_with fail
 go_quiet (fail)
 go_wp2_with fail
 go_ret;exact⟨rfl,_,rfl⟩
theorem qiH:prog.built 76 []=some (BX.cells ⟨QL 32 0#8,.slice none 0 0,[],false⟩).toArray:=by kernel_rfl
theorem qI.fresh{w:World}{base gB:Nat}{c:Bool}(hb:Blk w gB 76 (BX.cells ⟨QL 32 0#8,.slice none 0 0,[],c⟩))(hB:base≤gB):qI w base gB ⟨QL 32 0#8,.slice none 0 0,[],c⟩:=
 ⟨hb,by simp,World.ownsRow_nil w base _ 3,(fun e he=>by cases he),(fun e he=>by cases he),List.Pairwise.nil,by simp,List.nodup_nil,hB,(fun k hk=>by cases hk)⟩
theorem qaI(w:World):Calls prog 9 #[] w fun e w'=>e= .returned (.pointer (some ⟨w.heap.size,0,none⟩))∧qI w' w.heap.size w.heap.size ⟨QL 32 0#8,.slice none 0 0,[],false⟩∧Below w.heap.size w w':=by
 go_enter func9,ntmps9
 go_wp2_with (refine jh rfl 76 [] rfl _ [] rfl qiH ?_)
 go_ret;exact⟨rfl,qI.fresh (Blk.new w _ _) (QI _),(QK _ w).alloc (QI _) _⟩
def zT(es:List EM)(i j:Nat):Option jo:=(es[i]?).bind fun e=>e.ls[j]?
def vE(es:List EM):Nat:=match es[es.length-1]? with
 |none=>0
 |some e=>e.leaf
def jY(es:List EM):Option jo:=zT es (es.length-1) (vE es)
def zD(es:List EM)(i j:Nat)(l:jo):List EM:=match es[i]? with
 |none=>es
 |some e=>es.set i ⟨e.no,e.leaf,e.ls.set j l⟩
def Qn(b:BM):Int:=match jY b.es with
 |none=>0
 |some l=>l.place
def BX.turn(b:BX)(i:Nat)(e:EP)(xs:List LP):BX:=⟨b.grp,b.v,b.es.set i ⟨e.gC,e.gl,xs,e.no,e.leaf⟩,b.clr⟩
section
variable{w w':World}{base gB:Nat}{b:BX}
theorem qa6{b:BX}:b.m.es=[]↔b.es=[]:=by unfold BX.m;simp
theorem qfT{i j:Nat}(hi:i<b.es.length)(hj:j<b.es[i].xs.length):zT b.m.es i j=some b.es[i].xs[j].l:=by
 unfold zT BX.m;simp only[Jn,QT hi,Option.map_some,Option.bind_some,EP.m,QT hj]
theorem qc6{n:Nat}(hn:b.es.length=n+1):vE b.m.es=(b.es[n]'(by omega)).leaf:=by
 unfold vE BX.m;simp only[QN,hn,Nat.add_sub_cancel,Jn,QT (show n<b.es.length by omega),Option.map_some,EP.m]
theorem qc7{n:Nat}(hn:b.es.length=n+1)(hl:(b.es[n]'(by omega)).leaf<(b.es[n]'(by omega)).xs.length):jY b.m.es=some ((b.es[n]'(by omega)).xs[(b.es[n]'(by omega)).leaf]).l:=by
 unfold jY;rw[qc6 hn,show b.m.es.length-1=n by unfold BX.m;simp[hn]];exact qfT (by omega) hl
theorem qnF{i j:Nat}(hi:i<b.es.length)(y:LP):(b.turn i b.es[i] (b.es[i].xs.set j y)).m=⟨b.m.grp,zD b.m.es i j y.l,b.m.clr⟩:=by
 unfold BX.turn BX.m zD;simp only[Jn,QT hi,Option.map_some,EP.m,List.map_set]
theorem qiI{es:List EP}{i:Nat}{e:EP}(hi:i<es.length)(he:e.cells=es[i].cells):(es.set i e).flatMap EP.cells=es.flatMap EP.cells:=by
 have h1:(es.set i e).map EP.cells=es.map EP.cells:=by
  rw[List.map_set,he];have:(es[i]).cells=(es.map EP.cells)[i]'(by rw[QN];exact hi):=by rw[List.getElem_map]
  rw[this,List.set_getElem_self]
 rw[List.flatMap_def,List.flatMap_def,h1]
theorem qI.turn_{S:List Nat}(h:qI w base gB b){i:Nat}(hi:i<b.es.length)(F:Frm w w' S)(hS:∀k∈S,k∈b.es[i].foot){xs:List LP}(hlen:xs.length=b.es[i].xs.length)
 (hc:zo w' b.es[i].gC b.es[i].gl xs)(hf:∀k∈zC b.es[i].gC b.es[i].gl xs,k∈b.es[i].foot∨w.heap.size≤k):
 qI w' base gB (b.turn i b.es[i] xs)∧∀k∈BX.foot gB (b.turn i b.es[i] xs),k∈BX.foot gB b∨w.heap.size≤k:=by
 obtain⟨e',he'⟩:∃e':EP,e'=⟨b.es[i].gC,b.es[i].gl,xs,b.es[i].no,b.es[i].leaf⟩:=⟨_,rfl⟩;have hfe:e'.foot=zC b.es[i].gC b.es[i].gl xs:=by rw[he'];rfl
 have hcell:e'.cells=b.es[i].cells:=by rw[he'];rfl
 have hnd:=h.nd;have hlt:∀z∈b.efoot,z<w.heap.size:=fun z hz=>(h.foot_lt z (by simp only[BX.foot,Ja,QS];exact .inr (.inr hz))).2
 have es:b.es.set i e'=b.es.take i++e'::b.es.drop (i+1):=List.set_eq_take_append_cons_drop .. |>.trans (if_pos hi)
 have e0:b.es=b.es.take i++b.es[i]::b.es.drop (i+1):=by rw[←List.drop_eq_getElem_cons hi,JV]
 have ef:b.efoot=(b.es.take i).flatMap EP.foot++(b.es[i].foot++(b.es.drop (i+1)).flatMap EP.foot):=by
  unfold BX.efoot
  conv=>lhs;rw[e0]
  rw[JG,JW]
 have ef':(b.es.set i e').flatMap EP.foot=(b.es.take i).flatMap EP.foot++(e'.foot++(b.es.drop (i+1)).flatMap EP.foot):=by rw[es,JG,JW]
 have hb:b.turn i b.es[i] xs=⟨b.grp,b.v,b.es.set i e',b.clr⟩:=by rw[he'];rfl
 rw[ef]at hnd hlt;have hnd':=qcB _ _ _ e'.foot _ hnd hlt (by rw[hfe];exact hc.foot_nd) (fun z hz=>hf z (by rw[←hfe];exact hz));have hbase:base≤w.heap.size:=Nat.le_of_lt (Nat.lt_of_le_of_lt h.low.1 h.gB_lt);have hSlt:∀k∈S,k<w.heap.size:=fun k hk=>(h.ch _ (Q5 hi)).foot_lt k (hS k hk)
 have hoth:∀(j:Nat) (hj:j<b.es.length),j≠i→∀k∈b.es[j].foot,k∉S:=fun j hj hne k hk hm=>by
  have hki:=hS k hm;obtain⟨a1,a2,a3⟩:=J9.1 hnd;obtain⟨b1,b2,b3⟩:=J9.1 a2;rcases Jo j i with hji|hji
  ·refine a3 k (Jk.2 ⟨b.es[j],?_,hk⟩) k (QS.2 (.inl hki)) rfl
   rw[List.mem_take_iff_getElem];exact⟨j,by omega,rfl⟩
  ·refine b3 k hki k (Jk.2 ⟨b.es[j],?_,hk⟩) rfl
   rw[List.mem_drop_iff_getElem];exact⟨j-(i+1),by omega,by congr 1;omega⟩
 have hbS:∀{cs:Array Value} {T:TypeId} {g:Nat},w.heap[g]?=some (.cells cs T (0,0))→T≠117→T≠130→T≠5→g∉S:=
  fun h1 h2 h3 h4 hm=>h.gB_out (Q5 hi) h1 h2 h3 h4 (hS _ hm)
 rw[hb];refine⟨⟨?_,h.glen,?_,?_,?_,?_,?_,?_,⟨h.low.1,?_⟩⟩,?_⟩
 ·exact(F.block gB h.gB_lt (hbS h.blk (by decide) (by decide) (by decide))).trans h.blk
 ·show w'.ownsRow base _ 3 b.v (b.es.set i e').length ((b.es.set i e').flatMap EP.cells)
  rw[Jy,qiI hi hcell];refine uR h.row (fun g hg=>?_);obtain⟨-,h2,cs,h3⟩:=kW h.row hg;exact F.block g h2 (hbS h3 (by decide) (by decide) (by decide))
 ·intro e he
  obtain⟨j,hj,rfl⟩:=List.getElem_of_mem he;have hj':j<b.es.length:=by rw[Jy]at hj;exact hj
  by_cases hji:j=i
  ·subst hji
   rw[List.getElem_set_self];rw[he'];exact hc
  ·rw[List.getElem_set_ne (fun e=>hji e.symm)]
   exact(h.ch _ (Q5 hj')).of_same (fun k hk=>F.block k ((h.ch _ (Q5 hj')).foot_lt k hk) (hoth j hj' hji k hk))
 ·intro e he
  rcases List.mem_or_eq_of_mem_set he with h1|rfl
  ·exact h.bnd e h1
  ·have hb:=h.bnd _ (Q5 hi)
   rw[he'];refine⟨?_,?_,hb.2.2⟩
   ·show b.es[i].leaf<xs.length
    rw[hlen];exact hb.1
   ·show xs.length≤32
    rw[hlen];exact hb.2.1
 ·have hr:=h.rise
  rw[List.pairwise_iff_getElem]at hr ⊢;intro j k hj hk hjk;rw[Jy]at hj hk;have hn:∀(m:Nat) (hm:m<b.es.length),((b.es.set i e')[m]'(by rw[Jy];exact hm)).no=b.es[m].no:=fun m hm=>by
   by_cases hmi:m=i
   ·subst hmi;rw[List.getElem_set_self,he']
   ·rw[List.getElem_set_ne (fun e=>hmi e.symm)]
  rw[hn j hj,hn k hk];exact hr j k hj hk hjk
 ·show(b.es.set i e').length≤5
  rw[Jy];exact h.many
 ·show((b.es.set i e').flatMap EP.foot).Nodup
  rw[ef'];exact hnd'
 ·intro k hk
  have hk':k∈ (b.es.set i e').flatMap EP.foot:=hk;rw[ef']at hk';rcases QS.1 hk' with h1|h1
  ·exact h.low.2 k (by rw[ef];exact QS.2 (.inl h1))
  rcases QS.1 h1 with h1|h1
  ·rcases hf k (by rw[←hfe];exact h1)with h2|h2
   ·exact h.low.2 k (by rw[ef];exact QS.2 (.inr (QS.2 (.inl h2))))
   ·omega
  ·exact h.low.2 k (by rw[ef];exact QS.2 (.inr (QS.2 (.inr h1))))
 ·intro k hk
  have hk':k=gB∨k∈b.v.ownBlock.toList∨k∈ (b.es.set i e').flatMap EP.foot:=by
   have h1:k∈gB::(b.v.ownBlock.toList++(b.es.set i e').flatMap EP.foot):=hk;simpa only[Ja,QS]using h1
  unfold BX.foot;simp only[Ja,QS];rcases hk' with h1|h1|h1
  ·exact .inl (.inl h1)
  ·exact .inl (.inr (.inl h1))
  ·rw[ef']at h1
   rw[ef];simp only[QS]at h1 ⊢;rcases h1 with h1|h1|h1
   ·exact .inl (.inr (.inr (.inl h1)))
   ·rcases hf k (by rw[←hfe];exact h1)with h2|h2
    ·exact .inl (.inr (.inr (.inr (.inl h2))))
    ·exact .inr h2
   ·exact .inl (.inr (.inr (.inr (.inr h1))))
end
set_option maxRecDepth 100000
theorem qiJ{w w1:World}{q:Nat}(h:w1=w.drewN q):w1.heap=w.heap:=by rw[h];rfl
theorem qd6{w w1:World}{q:Nat}(h:w1=w.drewN q){a:Addr}{u:Value}(hc:w.cell? a=some u):w1.cell? a=some u:=by rw[h];exact hc
theorem qN{w w1:World}{q:Nat}(h:w1=w.drewN q):Below w.heap.size w w1:=by rw[h];exact je (QK _ w) q
theorem qhk{w:World}{base gB:Nat}{b:BX}(h:qI w base gB b):Calls prog 27 #[.pointer (some ⟨gB,0,none⟩)] w fun e w'=>e= .returned (.int .i64 (Qn b.m))∧∃q,w'=w.drewN q:=by
 rcases Nat.eq_zero_or_pos b.es.length with h0|h0
 ·have he:b.es=[]:=List.eq_nil_of_length_eq_zero h0
  have hm:Qn b.m=0:=by unfold Qn jY zT BX.m;simp[he]
  rw[hm];have HL:=qe (qbF h he);clear h h0 he hm;go_enter func27,ntmps27
  go_wp2_with fail
  refine HL.1.mono ?_;rintro e w1 ⟨rfl,q,rfl⟩;go_wp2_with fail
  go_ret;exact⟨rfl,q,rfl⟩
 ·obtain⟨n,hn⟩:∃n,b.es.length=n+1:=⟨b.es.length-1,by omega⟩
  obtain⟨g,c,hv,hbg,hgl,hcc⟩:=h.v_some h0;rw[hn]at hv;have hi:n<b.es.length:=by omega
  have hb:=h.bnd _ (Q5 hi);have hm:Qn b.m=(b.es[n].xs[b.es[n].leaf]'hb.1).l.place:=by
   unfold Qn;rw[qc7 hn hb.1]
  rw[hm];have HL:=qe (qcE h hn hv);obtain⟨c0,-,c2⟩:=h.at_row hv hi;have hc:=h.ch _ (Q5 hi);have HP:=qe (show∀W:World,W.heap=w.heap→Calls prog 52 #[.pointer (some ⟨b.es[n].gC,0,none⟩),.int .i64 (b.es[n].leaf:Int)] W fun e w'=>e= .returned (.int .i64 (b.es[n].xs[b.es[n].leaf]'hb.1).l.place)∧W=w' from fun W hW=>
   qkM _ _ _ _ (hc.of_same (w':=W) (fun k hk=>by rw[hW])) _ hb.1 (by omega))
  generalize(b.es[n].xs[b.es[n].leaf]'hb.1).l.place=p at HP ⊢;generalize b.es[n].gC=gC at c0 HP;generalize b.es[n].leaf=lf at c2 HP;clear h h0 hv hbg hgl hcc hi hc hm hn hb;go_enter func27,ntmps27
  go_wp2_with fail
  refine HL.1.mono ?_;rintro e w1 ⟨rfl,q,hq⟩;have d0:=qd6 hq c0;have d2:=qd6 hq c2;have HQ:=qe hq;have HP1:=qe (fun n=>HP.1 (w1.drewN n) (show(w1.drewN n).heap=w.heap from qiJ (w1:=w1) hq));clear c0 c2 hq HP;go_wp2_with fail
  go_quiet ((go_at_call 52;exact qa0 (HP1.1 _)))
  go_wp2_with fail
  go_ret;exact⟨rfl,q+nq,by rw[HQ.1,World.drewN_drewN]⟩
end
section
open Go.RowKit
set_option maxRecDepth 100000
def QF(b:BM):List Int:=b.es.map EM.no
theorem qiK{w:World}{base gB:Nat}{b:BX}(h:qI w base gB b):Calls prog 26 #[.pointer (some ⟨gB,0,none⟩)] w fun e w'=>∃v,e= .returned v∧Own uZ w' w.heap.size 3 v (QF b.m)∧Below w.heap.size w w':=by
 obtain⟨i0,hi0,hz0,hz1,hz2⟩:=info_parts qdn;obtain⟨A,c,hv,-⟩:=qX h.row;have c32:=h.cell32;rw[hv]at c32;obtain⟨n,hn⟩:∃n,n=b.es.length:=⟨_,rfl⟩;rw[←hn]at c32 hv;have hm:=h.many;obtain⟨L,hL⟩:∃L,L=QF b.m:=⟨_,rfl⟩;have hLn:L.length=n:=by rw[hL,hn];unfold QF BX.m;simp
 have HR:=qe (show∀k (hk:k<L.length),∃g gC lf,A=some ⟨g,0,none⟩∧g<w.heap.size∧w.cell? ⟨g,k*3,none⟩=some (.pointer (some ⟨gC,0,none⟩))∧w.cell? ⟨g,k*3+1,none⟩=some (.int .i64 L[k])∧w.cell? ⟨g,k*3+2,none⟩=some (.int .i64 lf)from fun k hk=>by
  obtain⟨g,c',hv',-,hgl,-⟩:=h.v_some (by omega);rw[hv]at hv';injection hv' with e1 e2 e3;have hv2:b.v= .slice (some ⟨g,0,none⟩) n c:=by rw[hv,e1]
  obtain⟨a0,a1,a2⟩:=h.at_row hv2 (i:=k) (by omega);refine⟨g,_,_,e1,hgl,a0,?_,a2⟩;rw[a1]
  congr 2
  subst hL;unfold QF BX.m;simp[EP.m])
 rw[←hL];have HLn:=qe hLn;have hn4:n≤5:=by omega
 clear h hv hn hm hL hLn;go_enter func26,ntmps26
 go_wp2_with fail
 go_loopw [3,13] (fun v iv wr=>∃k:Nat,k≤n∧iv= .int .i64 (k:Int)∧Own uZ wr w.heap.size 3 v (L.take k)∧Below w.heap.size w wr) (fun _ iv _=>n-(intOf iv).toNat)
 case atStart=>exact⟨0,by omega,rfl,Own.nil_ _ _ _ _,QK _ _⟩
 case round=>
  obtain⟨k,hk,rfl,hown,hb⟩:=hrel;have hz:=hb.size;by_cases hlt:k<n
  ·obtain⟨g,gC,lf,rfl,hgl,a0,a1,a2⟩:=HR.1 k (by rw[HLn.1];exact hlt)
   obtain⟨y,hy⟩:∃y,y=L[k]'(by rw[HLn.1];exact hlt):=⟨_,rfl⟩;rw[←hy]at a1;have d0:=(hb.cell (p:=⟨g,k*3,none⟩) hgl).trans a0;have d1:=(hb.cell (p:=⟨g,k*3+1,none⟩) hgl).trans a1;have d2:=(hb.cell (p:=⟨g,k*3+2,none⟩) hgl).trans a2;have Hy:=qe hy;have hlt2:(k:Int)<(n:Int):=by omega
   have HO:=qe hown;have HB:=qe hb;clear hy a0 a1 a2 hown hb;have hkl:(L.take k).length=k:=by rw[List.length_take,HLn.1];omega
   have HKl:=qe hkl;clear hkl;go_wp2_with (at_builtin;refine qh rfl _ _ 70 rfl qca w.heap.size 3 i0 _ 8 underlying70 hi0 hz0 hz1 hz2 rfl _ (L.take k) rfl ((HO.1.alloc _).alloc _) (wr.heap.size+2) _ 1 1 [y] rfl rfl (by have:=Rd.new uZ (wr.alloc (Obj.cells #[Value.pointer (some {block:=gC,off:=0}),QM IntKind.i64 y,QM IntKind.i64 lf] 80)) 3 [y];rw[QQ]at this;exact this) (by rw[HKl.1];simp[maxLen];omega) (by rw[HKl.1];simp;omega) (by simp;omega) ?_;intro v7 w7 hown7 hg7 hbb7)
   go_roundw
   case rel=>exact⟨k+1,by omega,by go_num,hown7.cast (by rw[Hy.1];exact List.take_append_getElem (by rw[HLn.1];exact hlt)),hbb7 _ _ (QI _) (by have HBo:=HB.1;(repeat' (first|assumption|exact QK _ _|refine Below.drew ?_|refine Below.alloc ?_ ?_ _|omega|(simp;done)|(simp;omega))))⟩
   case measure=>simp[intOf];omega
  ·obtain rfl:k=n:=by omega
   have e:L.take k=L:=Js (by rw[HLn.1];exact QI _);rw[e]at hown;clear e
   go_wp2
   go_ret;exact⟨_,rfl,hown,hb⟩
def kj:List Value:=[.pointer none,.int .i64 0,.int .i64 0]
theorem qiL(w:World):(zeroValue 80).run prog w= .ok (.agg kj.toArray) w:=by kernel_rfl
theorem qcF:(prog.info? 80).map (fun i=>(i.zero,i.size,i.bytes))=some (some (.agg kj.toArray),3,24):=by kernel_rfl
theorem qfU{w:World}{g:Nat}{pre old post:List Value}(hb:Blk w g 80 (pre++(old++post)))(hl:old.length=3)(ty:TypeId)(c:Nat):
 (Builtin.clear_ #[74] ty #[.slice (some ⟨g,pre.length,none⟩) 1 c]).run prog w= .ok (.tuple #[]) (w.setCells g pre.length kj):=by
 have hst:=run_storeCells_cells (P:=prog) g pre.length kj 0 w (fun j hj=>by
  have hj3:j<3:=hj;have:(pre++(old++post))[pre.length+j]?=some (old[j]'(by omega)):=by
   rw[JA (by omega),Nat.add_sub_cancel_left,Zg (by omega)];simp
  rw[Nat.add_zero,hb.cell _ this];rfl) (fun j hj=>by rw[Nat.add_zero];exact hb.frozen _) (by decide)
 simp only[Nat.add_zero]at hst;have hz:(Builtin.zeroCells (Value.agg #[.pointer none,.int .i64 0,.int .i64 0]).cells 1).toList=kj:=by kernel_rfl
 simp[Builtin.clear_,run_underlying underlying74,qiL,hz,hst]
theorem qd7{w:World}{base g c:Nat}{us:List Value}(h:w.ownsRow base 80 3 (.slice (some ⟨g,0,none⟩) 5 c) 5 us)(h1:∀u∈us,u.oneCell'=true):
 Calls prog 30 #[.slice (some ⟨g,0,none⟩) 5 c,.int .i64 0,.int .i64 1] w fun e w'=>e= .returned (.slice (some ⟨g,0,none⟩) 4 c)∧
  w'.ownsRow base 80 3 (.slice (some ⟨g,0,none⟩) 4 c) 4 (us.drop 3)∧w.grownBy w' (some g):=by
 obtain⟨i0,hi0,hz0,hs0,hb0⟩:=info_parts qcF;have hul:us.length=15:=h.1;have hc5:5≤c∧c≤maxLen:=by
  rcases h.2 with⟨e,-⟩|⟨g',cap,cur,e,-,-,h2,h3,-⟩
  ·cases e
  ·injection e with e1 e2 e3;subst e3;exact⟨h2,h3⟩
 obtain⟨spare,hB,hbase⟩:=qnE h;have hsp:(us++spare).length=c*3:=by
  rcases h.2 with⟨e,-⟩|⟨g',cap,cur,e,-,hg,-,-,hcs,-⟩
  ·cases e
  ·injection e with e1 e2 e3
   injection e1 with e1;injection e1 with e1;subst e1;subst e3;have hB':w.heap[g]?=some (.cells (us++spare).toArray 80 (0,0)):=hB;rw[hB']at hg;injection hg with hg;injection hg with hg
   rw[←hcs,←hg];simp
 obtain⟨a,m,z,e3,hal,hml,hzl⟩:∃a m z:List Value,us=a++(m++z)∧a.length=3∧m.length=9∧z.length=3:=
  ⟨us.take 3,(us.drop 3).take 9,us.drop 12,by rw[show us.drop 12=(us.drop 3).drop 9 by rw[List.drop_drop],JV,JV],by simp[hul],by simp[hul],by simp[hul]⟩
 have hd:us.drop 3=m++z:=by rw[e3,←hal,List.drop_left]
 rw[hd];obtain⟨W1,hW1⟩:∃W1,W1=w.drew.setCells g (0+0*3) (m++z):=⟨_,rfl⟩;have hw1:=qag (g:=g) (T:=80) (m++z) [] (a++m) (z++spare) w.drew (by simp[hal,hml,hzl]) ((show Blk w.drew g _ (us++spare)from hB).cast (by rw[e3];simp));have eW:w.drew.setCells g ([]:List Value).length (m++z)=W1:=by rw[hW1];rfl
 rw[eW]at hw1;obtain⟨W2,hW2⟩:∃W2,W2=W1.setCells g 12 kj:=⟨_,rfl⟩;have hw2:=qag (g:=g) (T:=80) kj (m++z) z spare W1 (by rw[hzl];rfl) (hw1.1.cast (by simp));have hpl:(m++z).length=12:=by simp[hml,hzl]
 rw[hpl,←hW2]at hw2;have hcl:∀ty c',(Builtin.clear_ #[74] ty #[.slice (some ⟨g,12,none⟩) 1 c']).run prog W1= .ok (.tuple #[]) W2:=fun ty c'=>by
  have h2:=qfU (hw1.1.cast (show[]++((m++z)++(z++spare))=(m++z)++(z++spare) by simp)) hzl ty c';rw[hpl,←hW2]at h2;exact h2
 have s1:=qe (show(m++z).length=4*3 by rw[hpl]);have s2:=qe (show∀u∈m++z,u.oneCell'=true from fun u hu=>h1 u (by rw[e3];exact QS.2 (.inr hu)));have s3:=qe (show∀j,j<(m++z).length→(w.drew.cell? ⟨g,0+0*3+j,none⟩).isSome=true∧w.drew.frozen? ⟨g,0+0*3+j,none⟩=false from fun j hj=>by
  have hjl:j<us.length:=by rw[hpl]at hj;omega
  have hcell:=(show Blk w.drew g _ (us++spare)from hB).cell j (u:=us[j]) (by rw[Zg hjl];simp);rw[show 0+0*3+j=j by omega];exact⟨by rw[hcell];rfl,(show Blk w.drew g _ (us++spare)from hB).frozen j⟩)
 have s4:=qe (show∀j u,(m++z)[j]?=some u→w.drew.cell? ((⟨g,3,none⟩:Addr).add j)=some u from fun j u hu=>by
  rw[Addr.add_lit];refine(show Blk w.drew g _ (us++spare)from hB).cell _ ?_;have hj:=(List.getElem?_eq_some_iff.1 hu).1;rw[Zg (by rw[hpl]at hj;omega),e3,JA (by omega),hal,Nat.add_sub_cancel_left];exact hu)
 have HW1:=qe hW1;have HW2:=qe hw2;have HG1:=qe hw1.2;have HSp:=qe hsp;have HU:=qe (show us.length=15 from hul);have Hpl:=qe hpl;have Hd:=qe e3;have hc0:¬(c=1):=by omega
 have hc1:1≤c:=by omega
 have hc2:5≤c:=hc5.1;have hc3:(5:Int)≤(c:Int):=by omega
 have hc4:¬(c=4):=by omega
 have Hcm:=qe hc5.2;have Hbase:=qe hbase;clear h h1 hul hc5 hB hsp e3 hd hW1 hw1 eW hW2 hw2 hpl hal hml hzl hbase;go_enter func30,ntmps30
 go_wp2_with fail
 go_region_law (refine step_append_room rfl (.tmp 22) (.tmp 25) 74 rfl 80 i0 3 underlying74 hi0 hs0 g 0 0 c (by simp[Act.eval,QJ]) ⟨g,3,none⟩ 4 (c-1) (m++z) (by simp[Act.eval,QJ]) s1.out s4.out s2.out (by omega) s3.out ?_;rw[←HW1.1])
 go_wp2_with fail
 go_ret;refine⟨rfl,⟨Hpl.1,.inr ⟨g,c,_,rfl,Hbase.1,HW2.1.1,by omega,Hcm.1,?_,?_⟩⟩,qp (show w.grownBy W1 (some g)from⟨HG1.1.os,HG1.1.tape,HG1.1.output,HG1.1.size,HG1.1.block⟩) HW2.1.2 (fun _ e=> .inl e)⟩
 ·have h5:=HSp.1
  have h6:=HU.1;have h7:=Hpl.1;rw[QO]at h5;simp only[List.size_toArray,QO]at h7 ⊢;show m.length+z.length+(kj.length+spare.length)=c*3;rw[show kj.length=3 from rfl];omega
 ·show((m++z)++(kj++spare)).take (4*3)=m++z
  rw[List.take_left' Hpl.1]
end
end Go.Proofs.YtelgjaiknaalkaaGreatDoor
