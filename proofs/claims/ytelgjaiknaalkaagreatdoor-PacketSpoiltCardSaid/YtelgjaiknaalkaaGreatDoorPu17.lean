/- Lemmas. -/
import Derived.Test.YtelgjaiknaalkaaGreatDoorPu15
import Derived.Test.YtelgjaiknaalkaaGreatDoorPu16
open Go.Proofs.Tryz
open List renaming setIfInBounds_toArray → qj
open List renaming set_cons_zero → qz
open List renaming set_cons_succ → qv
open List renaming getElem?_eq_some_iff → JS, mem_map → QW, length_map → QN, length_take → QV, mem_append → QS, mem_append_right → Zf, getElem?_eq_getElem → QT, take_of_length_le → Js, mem_of_getElem? → Zq, getElem?_map → Jn, mem_flatMap → Jk, getElem_mem → Q5
open Nat renaming le_trans → QX, le_refl → QI, mul_comm → Jw
open Go.RowKit.Below renaming refl → QK
open Go.Act renaming put → QJ
open Go.NoPanic renaming normal → Q4
open Go.AllReadyH renaming cons → Jm, nil → J1
open Go.World renaming alloc → QY, size_alloc → QQ
set_option linter.unusedVariables false
set_option linter.unusedSimpArgs false
set_option maxHeartbeats 8000000
namespace Go.Proofs.YtelgjaiknaalkaaGreatDoor
section
open Go.RowKit
set_option maxRecDepth 100000
theorem zm{P:Program}{fn:Func}{t p u:Tmp}{ty:TypeId}(h:fn.results= #[.tmp t,.cell p ty,.tmp u])(tmps:Array Value)(w:World)(g:Nat)(T:TypeId)(cs:List Value)(d:TypeDesc)(v0 v:Value)
 (h0:tmps.getD t undef=v0)(hp:tmps.getD p undef= .pointer (some ⟨g,0,none⟩))(hv:tmps.getD u undef=v)(hA:Blk w g T cs)(hu:P.underlying ty=some d)(hd:d.isRow=true)(hi:(P.info? ty).map (·.size)=some cs.length):
 (results fn tmps).run P w= .ok (.tuple #[v0,.agg cs.toArray,v]) w:=by
 subst hv;subst h0;have hp':tmps[p]?.getD undef= .pointer (some ⟨g,0,none⟩):=by simpa using hp
 have hl:=run_loadVar_mid (P:=P) w g 0 ty cs d hA.whole hu hd hi;simp[results,h,hp',asAddr,hl]
def atR(es:List RE)(same:Prop)[Decidable same](ep:Int)(k:Nat):Int:=if same then uC ((es.take k).map RE.m) ep else-1
theorem qjd{es:List RE}{k:Nat}{e:RE}(hr:es.Pairwise fun a b=>a.no<b.no)(he:es[k]?=some e)(ep:Int):
 vw ((es.take (k+1)).map RE.m) ep=if e.no=ep then some k else vw ((es.take k).map RE.m) ep:=by
 have hk:=(JS.1 he).1;have ht:es.take (k+1)=es.take k++ [e]:=by rw[List.take_add_one,he];rfl
 have hlt:∀x∈es.take k,x.no<e.no:=by
  have hr2:=hr;rw[←List.take_append_drop k es]at hr2;have h2:=(List.pairwise_append.1 hr2).2.2;intro x hx;have he3:es[k]=e:=(JS.1 he).2;exact h2 x hx e (by rw[List.drop_eq_getElem_cons hk,he3];simp)
 unfold vw;rw[ht,List.map_append,List.findIdx?_append];split
 ·rename_i h
  have hn:((es.take k).map RE.m).findIdx? (fun q=>q.no==ep)=none:=by
   rw[List.findIdx?_eq_none_iff];intro q hq;obtain⟨x,hx,rfl⟩:=QW.1 hq;have:=hlt x hx;show(x.no==ep)=false;simp;omega
  rw[hn];have hkl:((es.take k).map RE.m).length=k:=by rw[QN,QV];omega
  simp[RE.m,h,hkl];omega
 ·rename_i h
  cases hq:((es.take k).map RE.m).findIdx? (fun q=>q.no==ep)with
  |none=>simp[RE.m,h]
  |some i=>simp
theorem qey{es:List RE}{k:Nat}{e:RE}{same:Prop}[Decidable same](hr:es.Pairwise fun a b=>a.no<b.no)(he:es[k]?=some e)(ep:Int):
 atR es same ep (k+1)=if e.no=ep∧same then(k:Int)else atR es same ep k:=by
 unfold atR uC;rw[qjd hr he];by_cases h1:e.no=ep<;>by_cases h2:same<;>simp[h1,h2]
theorem Frm.put{w w' w'':World}{S:List Nat}{g:Nat}(h:Frm w w' S)(hg:w'.grownBy w'' (some g)):Frm w w'' (g::S):=
 ⟨hg.os.trans h.os,hg.tape.trans h.tape,hg.output.trans h.output,QX h.size hg.size,fun k hk hn=>(hg.block k (Nat.lt_of_lt_of_le hk h.size) (fun e=>hn (by injection e with e;simp[e]))).trans (h.block k hk (fun hm=>hn (List.mem_cons_of_mem _ hm)))⟩
def qm9(x:RX)(l:RL)(n:Int)(lo:Nat)(w':World)(Oc Lc:List Value):Prop:=
 Oc.length=34∧(∀u∈Oc,u.oneCell'=true)∧Lc.length=36∧(∀u∈Lc,u.oneCell'=true)∧(qQ l.l n=0→∃(g off c:Nat) (y:RL),Oc=qy n (qS l.l n).key (.slice (some ⟨g,off,none⟩) 12 c)∧Lc=y.cells∧y.l=jR l.l n∧y.At w'∧RO.At w' ⟨qS l.l n,g,off,c⟩∧
  ∀k,(k∈y.foot∨k=g)→(k∈x.foot∨lo≤k)∧k<w'.heap.size)
theorem RL.At.foot_lt{w:World}{y:RL}(h:y.At w)(ha:y.l.asked≠ []):∀k∈y.foot,k<w.heap.size:=by
 intro k hk;unfold RL.foot at hk;rcases QS.1 hk with hk|hk
 ·by_cases h0:y.rs.length=0
  ·rw[(h.none_ h0).1]at hk;simp[j7]at hk
  ·have hl:0<(y.rs.flatMap RO.cells).length:=by
    rw[vm (f:=RO.cells) (K:=34) (fun o ho=>qw _ _ _ (h.each o ho).key)];omega
   obtain⟨b,off,e,hb,-⟩:=h.rows hl;rw[e]at hk;simp[j7]at hk;omega
 ·rcases QS.1 hk with hk|hk
  ·obtain⟨b,off,e,hb,-⟩:=h.asked (List.length_pos_iff.2 ha)
   rw[e]at hk;simp[j7]at hk;omega
  ·obtain⟨o,ho,rfl⟩:=QW.1 hk
   exact(h.each o ho).lt
theorem qn5{W w':World}{x:RX}{l:RL}{n:Int}{r:Ending}(hl:l.At W)(hf:∀k∈l.foot,k∈x.foot)(h:qd4 W w' l n r):
 ∃Oc Lc,r= .returned (.tuple #[.agg Oc.toArray,.agg Lc.toArray,.int .i64 (qQ l.l n:Int)])∧qm9 x l n W.heap.size w' Oc Lc∧Below W.heap.size W w':=by
 obtain⟨h1,h2,hb⟩:=h;by_cases hE:qQ l.l n=0
 ·obtain⟨g,off,c,y,e,hy,hyA,hro,hrs,hhA,haA,hg⟩:=h2 hE
  have hro':=hro;have hin:∀q∈l.rs.map RO.r,q∈x.foot:=fun q hq=>hf q (by unfold RL.foot;exact Zf _ (Zf _ hq))
  refine⟨_,_,by rw[e,hE];rfl,⟨qw _ _ _ hro.key,qF _ _ _ _ _,jS hyA.ok.len,vX rfl rfl,fun _=>⟨g,off,c,y,rfl,rfl,hy,hyA,hro,fun k hk=>?_⟩⟩,hb⟩;rcases hk with hk|rfl
  ·refine⟨?_,hyA.foot_lt (by rw[hy];unfold jR;simp) k hk⟩
   unfold RL.foot at hk;rcases QS.1 hk with hk|hk
   ·cases hA:y.hA with
    |none=>rw[hA]at hk;simp[j7]at hk
    |some a=>
     rw[hA]at hk;simp[j7]at hk;obtain⟨b,o,s⟩:=a;have hk':k=b:=hk;cases s with
     |none=>exact .inr (hk'▸hhA b o hA)
     |some s=>
      exfalso
      by_cases h0:y.rs.length=0
      ·rw[(hyA.none_ h0).1]at hA;cases hA
      ·have hl:0<(y.rs.flatMap RO.cells).length:=by
        rw[vm (f:=RO.cells) (K:=34) (fun o ho=>qw _ _ _ (hyA.each o ho).key)];omega
       obtain⟨b',off',e',-⟩:=hyA.rows hl;rw[e']at hA;cases hA
   ·rcases QS.1 hk with hk|hk
    ·obtain⟨b,o,e,-⟩:=hyA.asked (List.length_pos_iff.2 (by rw[hy];unfold jR;simp))
     rw[e]at hk;simp[j7]at hk;subst hk;exact .inr (haA k o e)
    ·obtain⟨o,ho,rfl⟩:=QW.1 hk
     rcases hrs o ho with h|h
     ·exact .inl (hin _ h)
     ·exact .inr h
  ·refine⟨?_,hro.lt⟩
   rcases hg with h|h
   ·exact .inl (hin _ h)
   ·exact .inr h
 ·refine⟨_,_,h1 hE,⟨by rfl,qF _ _ _ _ _,jS hl.ok.len,vX rfl rfl,fun h=>absurd h hE⟩,hb⟩
theorem ur{x:RX}{l:RL}{n:Int}{lo B gO gL:Nat}{w7 wx:World}{Oc Lc:List Value}(h:qm9 x l n lo w7 Oc Lc)(hF:Frm w7 wx [gL,gO])(hx:∀k∈x.foot,k<B)(hlo:B≤lo)
 (hO:B≤gO∧gO<lo∨w7.heap.size≤gO)(hL:B≤gL∧gL<lo∨w7.heap.size≤gL):qm9 x l n B wx Oc Lc:=by
 obtain⟨a1,a2,a3,a4,a5⟩:=h;refine⟨a1,a2,a3,a4,fun hE=>?_⟩;obtain⟨g,off,c,y,b1,b2,b3,b4,b5,b6⟩:=a5 hE;have hout:∀k,(k∈y.foot∨k=g)→wx.heap[k]?=w7.heap[k]?:=fun k hk=>by
  obtain⟨c1,c2⟩:=b6 k hk;refine hF.block k c2 (fun hm=>?_);have h3:k=gL∨k=gO:=by simpa using hm
  rcases c1 with c1|c1
  ·have:=hx k c1;omega
  ·omega
 refine⟨g,off,c,y,b1,b2,b3,b4.same hF.size (fun k hk=>hout k (.inl hk)),b5.of hF.size (hout g (.inr rfl)),fun k hk=>?_⟩;obtain⟨c1,c2⟩:=b6 k hk;have:=hF.size;exact⟨c1.imp id (fun h=>by omega),by omega⟩
def qh0(w w':World)(x:RX)(p:PM)(r:Ending):Prop:=
 ∃(v:Value) (y:RX),r= .returned (.tuple #[v,.agg y.cells.toArray,.int .i64 (jI x.m p:Int)])∧Own b8 w' w.heap.size 5 v (ue x.m p)∧y.m=uf x.m p∧y.At w'∧(∀k∈y.foot,k∈x.foot∨w.heap.size≤k)∧Below w.heap.size w w'
theorem qeI(w:World)(x:RX)(hx:x.At w)(hxl:x.es.length≤4)(hrise:x.es.Pairwise fun a b=>a.no<b.no)(hbnd:∀e∈x.es,e.ls.length≤32∧∀l∈e.ls,l.l.asked.length≤1000)
 (p:PM)(hg:p.grp.length=32)(A:Option Addr)(n c Bm:Nat)(hr:Rd b8 w Bm A p.sl)(hBm:Bm≤w.heap.size)(hn:p.sl.length=n)(hnc:n≤c)(hn63:n<9223372036854775808)
 (e1: -9223372036854775808≤p.ep)(e2:p.ep<9223372036854775808)(f1: -9223372036854775808≤p.fr)(f2:p.fr<9223372036854775808)(n1: -9223372036854775808≤p.nu)(n2:p.nu<9223372036854775808):
 Calls prog 14 #[.agg x.cells.toArray,.agg (qq p.grp p.ep p.fr p.nu A n c).toArray] w fun r w'=>qh0 w w' x p r:=by
 unfold qh0;obtain⟨N,hN⟩:∃N,N=x.es.length:=⟨_,rfl⟩;obtain⟨C,hC⟩:∃C,C=x.cells:=⟨_,rfl⟩;obtain⟨D,hD⟩:∃D,D=qq p.grp p.ep p.fr p.nu A n c:=⟨_,rfl⟩;have HCl:=qe (show C.length=34 by rw[hC];exact j8 hx.glen);have HC1:=qe (show∀u∈C,u.oneCell'=true by rw[hC];exact zI rfl);have HDl:=qe (show D.length=36 by rw[hD];exact j1 hg _ _ _ _ _ _);obtain⟨w3,hw3⟩:∃w3,w3=((w.alloc (.cells C.toArray 34)).alloc (.cells D.toArray 41)).alloc (.cells jd.toArray 34):=⟨_,rfl⟩
 have hz3:w3.heap.size=w.heap.size+3:=by rw[hw3];simp
 have HX:=qe (show Blk w3 w.heap.size 34 C by rw[hw3];exact((Blk.new w _ C).alloc _).alloc _);have HP:=qe (show Blk w3 (w.heap.size+1) 41 D by rw[hw3];exact(Blk.at_size _ D (by simp)).alloc _);have HZ:=qe (show Blk w3 (w.heap.size+2) 34 jd by rw[hw3];exact Blk.at_size _ jd (by simp));have HB:=qe (show Below w.heap.size w w3 by rw[hw3];exact(((QK _ w).alloc (QI _) _).alloc (by simp) _).alloc (by simp;omega) _)
 have c32:w3.cell? ⟨w.heap.size,32,none⟩=some (.slice x.A N x.c):=HX.1.cell 32 (by rw[hC,hN];exact jG hx.glen);have HHx:=qe hx;have HRise:=qe hrise;have HBnd:=qe hbnd;have HG:=qe hg;have HR:=qe hr;have HN:=qe hn;have HNx:=qe hN;have HCe:=qe hC;have HDe:=qe hD;have hNl:N≤4:=by omega
 simp only[jX]at hw3;have HW3:=qe hw3;rw[←hC,←hD];clear hx hxl hrise hbnd hg hr hn hN hC hD hw3;by_cases h0:N=0
 ·have HE:=qe (show jI x.m p=10 by
   unfold jI;rw[if_pos (by unfold RX.m;have h:=HNx.1;rw[h0]at h;simp[List.eq_nil_of_length_eq_zero h.symm])])
  subst h0;go_enter func14,ntmps14
  go_upto_region 1 with fail
  rw[←HW3.1];go_upto_region 2 with fail
  refine wp_region_noPanic ?_;refine wp_region_held_drew (S:=fun W=>W.rangeAt w.heap.size 0 C) (by kernel_rfl) HX.1.drew.whole (fun hS=>?_);refine tkK 0 (.agg (C).toArray) rfl rfl (yieldsIf_load_mid (by rfl) 34 (.tmp 2) rfl _ _ rfl (C) _ (fun _ h=>h) underlying34 rfl (by rw[HCl.1];exact qt)) hS ?_;refine tkA 1 (.slice none 0 0) hS ?_;try simp only[QJ,qj,qz,qv]
  refine rdH 2 (fun K' hK=>?_);rw[if_pos (by rfl)];refine qo 34 (.tmp 5) (.tmp 20) rfl (w.heap.size+2) 0 rfl C rfl 34 _ [] jd [] HZ.1.drew (by simp) rfl (by rw[HCl.1];rfl) (by rw[HCl.1];exact qt) HC1.1 ?_;intro w9 hx9 hg9;have HX9:=qe (show Blk w9 (w.heap.size+2) 34 C from hx9.cast (by simp));have HB9:=qe (HB.1.drew.grown hg9 HB.1.drew.size (fun k e=>by cases e;omega));refine hK.out _ _ (HX.1.drew.grown hg9 (fun e=>by injection e with e;omega)).whole (fun hS=>?_)
  clear hK K' hx9 hg9;refine tkA 3 (.int .i64 10) hS ?_;try simp only[QJ,qj,qz,qv]
  refine wpAnyH_done (by kernel_rfl) ?_ _;refine Q4 ?_;go_wp2_with fail
  refine bodyPost_ret (v:= .tuple #[.slice none 0 0,.agg C.toArray,.int .i64 10]) (zm (g:=w.heap.size+2) rfl _ _ _ _ _ _ _ rfl rfl rfl HX9.1 underlying34 rfl (by rw[HCl.1];exact qt)) rfl ?_;refine⟨_,x,by rw[HCe.1,HE.1]<;>rfl,by rw[vp (by rw[HE.1];decide)];exact Own.nil_ _ _ _ _,(zK (by rw[HE.1];decide)).symm,HHx.1.below HB9.1 (QI _),fun k hk=> .inl hk,HB9.1⟩
 have hN0:0<N:=Nat.pos_of_ne_zero h0;have hNz:¬((N:Int)=0):=by omega
 have hes:¬x.m.es=[]:=fun h=>by
  have h1:=congrArg List.length h;unfold RX.m at h1;simp at h1;have h2:=HNx.1;rw[h1]at h2;simp at h2;omega
 obtain⟨b0,off,hA,hb0,hrow⟩:=HHx.1.rows (by rw[vm (fun y _=>RE.cells_len y),←HNx.1];omega);have HA:=qe hA;have HRow:=qe (show∀(k:Nat) (e:RE),x.es[k]?=some e→∀(j:Nat) (u:Value),e.cells[j]?=some u→w.cell? ⟨b0,off+k*3+j,none⟩=some u from fun k e he j u hu=>by
  have h:=hrow _ u (qb6 (fun y _=>RE.cells_len y) he j u hu);rw[Jw 3 k,←Nat.add_assoc]at h;exact h)
 rw[hA]at c32;clear hA hrow;have hpp:=qcQ p.grp p.ep p.fr p.nu A n c w.heap.size p.sl w3 HG.1 ((HR.1.more hBm).below HB.1) (by omega) HN.1 hn63;obtain⟨pb,hpb⟩:∃pb,pb=zU p.ep p.fr p.nu n:=⟨_,rfl⟩;rw[←HDe.1,←hpb]at hpp;have HPp:=qe hpp;have HPb:=qe hpb;clear hpp hpb;go_enter func14,ntmps14
 go_upto_region 1 with fail
 rw[←HW3.1];go_wp2_with (refine wpList_load_mid rfl 41 (.tmp 3) rfl (w.heap.size+1) 0 rfl D _ HP.1.whole underlying41 rfl (by rw[HDl.1];exact jC) ?_)
 refine HPp.1.mono ?_;rintro r w4 ⟨v4,rfl,-,hb4⟩;have hz4:=hb4.size;have HX:=qe (HX.1.below hb4 (by omega));have HP:=qe (HP.1.below hb4 (by omega));have HZ:=qe (HZ.1.below hb4 (by omega));have HB:=qe (HB.1.trans (hb4.mono (by omega)));have c32:w4.cell? ⟨w.heap.size,32,none⟩=some (.slice (some ⟨b0,off,none⟩) N x.c):=HX.1.cell 32 (by rw[HCe.1,HNx.1,←HA.1];exact jG HHx.1.glen);obtain⟨d32,d33,d34,d35,-⟩:=qZ.all5 (show qZ w4 (w.heap.size+1) p.grp p.ep p.fr p.nu A n c from HP.1.cast HDe.1) HG.1
 clear hb4 HPp;by_cases hpb:pb=true
 ·have HE:=qe (show jI x.m p=3 by
   unfold jI;rw[if_neg hes,if_pos (by rw[HN.1,←HPb.1];exact hpb)])
  subst hpb;go_upto_region 5 with fail
  refine wp_region_noPanic ?_;refine wp_region_held_drew (S:=fun W=>W.rangeAt w.heap.size 0 C) (by kernel_rfl) HX.1.drew.whole (fun hS=>?_);refine tkK 0 (.agg (C).toArray) rfl rfl (yieldsIf_load_mid (by rfl) 34 (.tmp 2) rfl _ _ rfl (C) _ (fun _ h=>h) underlying34 rfl (by rw[HCl.1];exact qt)) hS ?_;refine tkA 1 (.slice none 0 0) hS ?_;try simp only[QJ,qj,qz,qv]
  refine rdH 2 (fun K' hK=>?_);rw[if_pos (by rfl)];refine qo 34 (.tmp 5) (.tmp 28) rfl (w.heap.size+2) 0 rfl C rfl 34 _ [] jd [] HZ.1.drew (by simp) rfl (by rw[HCl.1];rfl) (by rw[HCl.1];exact qt) HC1.1 ?_;intro w9 hx9 hg9;have HX9:=qe (show Blk w9 (w.heap.size+2) 34 C from hx9.cast (by simp));have HB9:=qe (HB.1.drew.grown hg9 HB.1.drew.size (fun k e=>by cases e;omega));refine hK.out _ _ (HX.1.drew.grown hg9 (fun e=>by injection e with e;omega)).whole (fun hS=>?_)
  clear hK K' hx9 hg9;refine tkA 3 (.int .i64 3) hS ?_;try simp only[QJ,qj,qz,qv]
  refine wpAnyH_done (by kernel_rfl) ?_ _;refine Q4 ?_;go_wp2_with fail
  refine bodyPost_ret (v:= .tuple #[.slice none 0 0,.agg C.toArray,.int .i64 3]) (zm (g:=w.heap.size+2) rfl _ _ _ _ _ _ _ rfl rfl rfl HX9.1 underlying34 rfl (by rw[HCl.1];exact qt)) rfl ?_;refine⟨_,x,by rw[HCe.1,HE.1]<;>rfl,by rw[vp (by rw[HE.1];decide)];exact Own.nil_ _ _ _ _,(zK (by rw[HE.1];decide)).symm,HHx.1.below HB9.1 (QI _),fun k hk=> .inl hk,HB9.1⟩
 have hpb':pb=false:=by simpa using hpb
 subst hpb';clear hpb;by_cases hbig:1040<n
 ·have hbg:(n:Int)>1040:=by omega
  have HE:=qe (show jI x.m p=1 by
   unfold jI;rw[if_neg hes,if_neg (by rw[HN.1,←HPb.1];decide),if_pos (by rw[HN.1];exact hbig)])
  go_upto_region 7 with fail
  refine wp_region_noPanic ?_;refine wp_region_held_drew (S:=fun W=>W.rangeAt w.heap.size 0 C) (by kernel_rfl) HX.1.drew.whole (fun hS=>?_);refine tkK 0 (.agg (C).toArray) rfl rfl (yieldsIf_load_mid (by rfl) 34 (.tmp 2) rfl _ _ rfl (C) _ (fun _ h=>h) underlying34 rfl (by rw[HCl.1];exact qt)) hS ?_;refine tkA 1 (.slice none 0 0) hS ?_;try simp only[QJ,qj,qz,qv]
  refine rdH 2 (fun K' hK=>?_);rw[if_pos (by rfl)];refine qo 34 (.tmp 5) (.tmp 33) rfl (w.heap.size+2) 0 rfl C rfl 34 _ [] jd [] HZ.1.drew (by simp) rfl (by rw[HCl.1];rfl) (by rw[HCl.1];exact qt) HC1.1 ?_;intro w9 hx9 hg9;have HX9:=qe (show Blk w9 (w.heap.size+2) 34 C from hx9.cast (by simp));have HB9:=qe (HB.1.drew.grown hg9 HB.1.drew.size (fun k e=>by cases e;omega));refine hK.out _ _ (HX.1.drew.grown hg9 (fun e=>by injection e with e;omega)).whole (fun hS=>?_)
  clear hK K' hx9 hg9;refine tkA 3 (.int .i64 1) hS ?_;try simp only[QJ,qj,qz,qv]
  refine wpAnyH_done (by kernel_rfl) ?_ _;refine Q4 ?_;go_wp2_with fail
  refine bodyPost_ret (v:= .tuple #[.slice none 0 0,.agg C.toArray,.int .i64 1]) (zm (g:=w.heap.size+2) rfl _ _ _ _ _ _ _ rfl rfl rfl HX9.1 underlying34 rfl (by rw[HCl.1];exact qt)) rfl ?_;refine⟨_,x,by rw[HCe.1,HE.1]<;>rfl,by rw[vp (by rw[HE.1];decide)];exact Own.nil_ _ _ _ _,(zK (by rw[HE.1];decide)).symm,HHx.1.below HB9.1 (QI _),fun k hk=> .inl hk,HB9.1⟩
 have hbg:¬((n:Int)>1040):=by omega
 obtain⟨hep0,hep1,hfr0,hfr1,hnu0,hnu1⟩:0≤p.ep∧p.ep≤4294967295∧0≤p.fr∧p.fr≤31∧0≤p.nu∧p.nu≤4294967295:=by
  have h:=HPb.1;unfold zU jk at h;simp at h;omega
 have hOE:jI x.m p=match vw x.m.es p.ep with
  |none=>6
  |some i=>if p.grp≠x.m.grp then 6 else if p.fr=(Qd x.m.es i:Int)then 9 else
   match zT x.m.es i p.fr.toNat with
   |none=>9
   |some l=>if qQ l p.nu≠0 then qQ l p.nu else jV (qS l p.nu).key (qS l p.nu).nonce (vF p.grp p.ep p.fr p.nu) p.sl:=by
  unfold jI;rw[if_neg hes,if_neg (by rw[HN.1,←HPb.1];decide),if_neg (by rw[HN.1];omega)];rfl
 have HOE:=qe hOE;clear hOE;obtain⟨sm,hsm⟩:∃sm:Bool,sm=(p.grp==x.grp):=⟨_,rfl⟩;have HSm:=qe hsm;have HRp:=qe (show w4.rangeAt (w.heap.size+1) 0 (p.grp.map b8)from qZ.r0 (show qZ w4 (w.heap.size+1) p.grp p.ep p.fr p.nu A n c from HP.1.cast HDe.1) HG.1);have HRg:=qe (show w4.rangeAt w.heap.size 0 (x.grp.map b8)from qhP HHx.1.glen w4 w.heap.size _ (HX.1.cast HCe.1));have heq:∀W,(binOp .eql 23 (.agg (p.grp.map b8).toArray) (.agg (x.grp.map b8).toArray)).run prog W= .ok (.bool sm) W:=fun W=>by
  rw[hsm];exact qie W 23 5 32 underlying23 underlying5 (fun _=>by kernel_rfl) _ _ HG.1 HHx.1.glen
 have Heq:=qe heq;clear hsm heq;go_upto_region 10 with fail
 go_loopw [9,10] (fun av iv wr=>∃k q:Nat,iv= .int .i64 (k:Int)∧k≤N∧av= .int .i64 (atR x.es (sm=true) p.ep k)∧wr=w4.drewN q) (fun _ iv _=>N-(intOf iv).toNat)
 case atStart=>exact⟨0,0,rfl,by omega,by unfold atR;split<;>rfl,rfl⟩
 case round=>
  obtain⟨k,q,rfl,hk,rfl,rfl⟩:=hrel;obtain⟨aV,haV⟩:∃a,a=atR x.es (sm=true) p.ep k:=⟨_,rfl⟩;have HaV:=qe haV;rw[←haV];clear haV;by_cases hlt:k<N
  ·
   have lk:(k:Int)<(N:Int):=by omega
   obtain⟨e,he⟩:∃e,x.es[k]?=some e:=⟨x.es[k]'(by rw[←HNx.1];exact hlt),QT _⟩;have hcE:w4.cell? ⟨b0,off+k*3,none⟩=some (.int .i64 e.no):=(HB.1.cell (p:=⟨b0,off+k*3,none⟩) hb0).trans (HRow.1 k e he 0 _ rfl);have He:=qe he;clear he;by_cases hq:e.no=p.ep
   ·have hu:=underlying23
    have hi32:(prog.info? 23).map (·.size)=some (p.grp.map b8).length:=by rw[QN,HG.1];exact qR
    have hi33:(prog.info? 23).map (·.size)=some (x.grp.map b8).length:=by rw[QN,HHx.1.glen];exact qR
    have hrp:w4.rangeAt (w.heap.size+1) 0 (p.grp.map b8):=HRp.1;have hrg:w4.rangeAt w.heap.size 0 (x.grp.map b8):=HRg.1;have heq:=Heq.1;rw[hq]at hcE;go_upto_region 12 with fail
    have hS12:(w4.drewN q).drew.cell? ⟨w.heap.size,32,none⟩=some (.slice (some ⟨b0,off,none⟩) N x.c)∧(w4.drewN q).drew.cell? ⟨b0,off+k*3,none⟩=some (.int .i64 p.ep)∧(w4.drewN q).drew.cell? ⟨w.heap.size+1,32,none⟩=some (.int .i64 p.ep)∧(w4.drewN q).drew.rangeAt (w.heap.size+1) 0 (p.grp.map b8)∧(w4.drewN q).drew.rangeAt w.heap.size 0 (x.grp.map b8):=⟨c32,hcE,d32,hrp,hrg⟩;refine wp_region_noPanic ?_;refine wp_region_held_drew (S:=fun W=>W.cell? ⟨w.heap.size,32,none⟩=some (.slice (some ⟨b0,off,none⟩) N x.c)∧W.cell? ⟨b0,off+k*3,none⟩=some (.int .i64 p.ep)∧W.cell? ⟨w.heap.size+1,32,none⟩=some (.int .i64 p.ep)∧W.rangeAt (w.heap.size+1) 0 (p.grp.map b8)∧W.rangeAt w.heap.size 0 (x.grp.map b8)) (by kernel_rfl) hS12 (fun hS=>?_)
    clear hS12 c32 d32 hcE;refine tkA 0 (.pointer (some ⟨w.heap.size,32,none⟩)) hS ?_;refine tkA 1 (.slice (some ⟨b0,off,none⟩) N x.c) hS ?_;refine tkA 2 (.int .i64 (k:Int)) hS ?_;try simp only[QJ,qj,qz,qv]
    refine tkA 3 (.pointer (some ⟨b0,off+k*3,none⟩)) hS ?_;refine tkA 4 (.pointer (some ⟨b0,off+k*3,none⟩)) hS ?_;refine tkA 5 (.int .i64 p.ep) hS ?_;try simp only[QJ,qj,qz,qv]
    refine tkA 6 (.pointer (some ⟨w.heap.size+1,32,none⟩)) hS ?_;refine tkA 7 (.int .i64 p.ep) hS ?_;refine tkA 8 (.bool true) hS ?_;try simp only[QJ,qj,qz,qv]
    refine tkA 9 (.bool true) hS ?_;refine tkA 10 (.pointer (some ⟨w.heap.size+1,0,none⟩)) hS ?_;refine tkK 11 (.agg (p.grp.map b8).toArray) rfl rfl (yieldsIf_load_mid (by rfl) 23 (.tmp 51) rfl _ _ rfl (p.grp.map b8) _ (fun _ h=>h.2.2.2.1) hu rfl hi32) hS ?_;try simp only[QJ,qj,qz,qv]
    refine tkA 12 (.pointer (some ⟨w.heap.size,0,none⟩)) hS ?_;refine tkK 13 (.agg (x.grp.map b8).toArray) rfl rfl (yieldsIf_load_mid (by rfl) 23 (.tmp 53) rfl _ _ rfl (x.grp.map b8) _ (fun _ h=>h.2.2.2.2) hu rfl hi33) hS ?_;refine tkA 14 (.bool sm) hS ?_;try simp only[QJ,qj,qz,qv]
    refine tkA 15 (.bool sm) hS ?_;try simp only[QJ,qj,qz,qv]
    refine wpAnyH_done (by kernel_rfl) ?_ _;refine Q4 ?_;cases sm with
    |true=>
     go_wp2_with fail
     go_roundw
     case rel=>exact⟨k+1,q+1,by go_num,by omega,by rw[qey HRise.1 He.1,if_pos ⟨hq,trivial⟩],rfl⟩
     case measure=>simp[intOf]<;>omega
    |false=>
     go_wp2_with fail
     go_roundw
     case rel=>exact⟨k+1,q+1,by go_num,by omega,by rw[qey HRise.1 He.1,if_neg (fun h=>by cases h.2),←HaV.1],rfl⟩
     case measure=>simp[intOf]<;>omega
   ·go_upto_region 12 with fail
    go_quiet (fail)
    go_wp2_with fail
    go_roundw
    case rel=>exact⟨k+1,q+nq,by go_num,by omega,by rw[qey HRise.1 He.1,if_neg (fun h=>hq h.1),←HaV.1],rfl⟩
    case measure=>simp[intOf]<;>omega
  ·obtain rfl:k=N:=by omega
   have lk:¬((k:Int)<(k:Int)):=by omega
   have hem:x.m.es=x.es.map RE.m:=rfl;have hfin:aV=if sm=true then uC x.m.es p.ep else-1:=by
    rw[HaV.1,hem];unfold atR;rw[Js (by rw[←HNx.1];omega)]
   obtain⟨w5,hw5⟩:∃w5,w5=w4.drewN q:=⟨_,rfl⟩;have HX:=qe (show Blk w5 w.heap.size 34 C by rw[hw5];exact HX.1.drewN q);have HP:=qe (show Blk w5 (w.heap.size+1) 41 D by rw[hw5];exact HP.1.drewN q);have HZ:=qe (show Blk w5 (w.heap.size+2) 34 jd by rw[hw5];exact HZ.1.drewN q);have HB:=qe (show Below w.heap.size w w5 by rw[hw5];exact je HB.1 q);have hz5:w.heap.size+3≤w5.heap.size:=by rw[hw5];show _≤w4.heap.size;omega
   rw[←hw5];clear hw5 c32 d32 d33 d34 d35;have c32:w5.cell? ⟨w.heap.size,32,none⟩=some (.slice (some ⟨b0,off,none⟩) k x.c):=HX.1.cell 32 (by rw[HCe.1,HNx.1,←HA.1];exact jG HHx.1.glen);obtain⟨d32,d33,d34,d35,-⟩:=qZ.all5 (show qZ w5 (w.heap.size+1) p.grp p.ep p.fr p.nu A n c from HP.1.cast HDe.1) HG.1;have hgr:x.m.grp=x.grp:=rfl;by_cases hfo:sm=true∧∃i,vw x.m.es p.ep=some i
   ·obtain⟨hs1,i,hfi⟩:=hfo
    have haV:aV=(i:Int):=by rw[hfin,if_pos hs1];unfold uC;rw[hfi]
    have hil:i<x.es.length:=by
     have h:=hfi;unfold vw at h;rw[List.findIdx?_eq_some_iff_getElem]at h;obtain⟨h,-⟩:=h;simpa[RX.m]using h
    obtain⟨e,he⟩:∃e,x.es[i]?=some e:=⟨x.es[i],QT hil⟩;have hgeq:p.grp=x.grp:=by have h:=hs1;rw[HSm.1]at h;simpa using h
    obtain⟨f,hf⟩:∃f:Nat,p.fr=(f:Int):=⟨p.fr.toNat,by omega⟩;have hft:p.fr.toNat=f:=by omega
    obtain⟨m,hm⟩:∃m,m=e.ls.length:=⟨_,rfl⟩;have heA:=HHx.1.each e (Zq he);have hmi:(x.m.es)[i]?=some e.m:=by rw[hem,Jn,he];rfl
    have HOE2:=qe (show jI x.m p=if p.fr=(e.leaf:Int)then 9 else
     match(e.ls[f]?).map RL.l with
     |none=>9
     |some l=>if qQ l p.nu≠0 then qQ l p.nu else jV (qS l p.nu).key (qS l p.nu).nonce (vF p.grp p.ep p.fr p.nu) p.sl from by
     rw[HOE.1,hfi];dsimp only;rw[if_neg (by rw[hgr,hgeq];simp)];unfold Qd zT;rw[hmi,hft];dsimp only[Option.bind_some];rw[show e.m.ls[f]?=(e.ls[f]?).map RL.l from by show(e.ls.map RL.l)[f]?=_;rw[Jn]];rfl)
    subst haV;obtain⟨EC,hEC⟩:∃EC,EC=e.cells:=⟨_,rfl⟩;have HEC:=qe hEC;have HEl:=qe (show EC.length=3 by rw[hEC];rfl);have HE1:=qe (show∀u∈EC,u.oneCell'=true by rw[hEC];exact e.cells_one);have HRE:=qe (show w5.rangeAt b0 (off+i*3) EC from fun j u hu=>by
     have h:=HRow.1 i e he j u (by rw[←hEC];exact hu);rw[←h];exact HB.1.cell (p:=⟨b0,off+i*3+j,none⟩) hb0)
    have li:¬((i:Int)<0):=by omega
    have lN:(i:Int)<(k:Int):=by have:=HNx.1;omega
    have liN:i<k:=by have:=HNx.1;omega
    rw[hf]at d33;have He:=qe he;have HeA:=qe heA;have Hm:=qe hm;have Hf:=qe hf;have Hft:=qe hft;have Hfi:=qe hfi;have Hmi:=qe hmi;have HGe:=qe hgeq;clear hfin hs1 he hf hft hm heA hmi hgeq hEC hfi;have HZe:=qe (show Blk (w5.alloc (.cells #[.int .i64 0,.int .i64 0,.slice none 0 0] 85)) w5.heap.size 85 [.int .i64 0,.int .i64 0,.slice none 0 0]from Blk.new _ _ [.int .i64 0,.int .i64 0,.slice none 0 0])
    go_upto_region 17 with(first
     |(refine wpList_load_mid rfl 85 (.tmp 64) rfl b0 (off+i*3) rfl EC _ HRE.1 underlying85 rfl (by rw[HEl.1];exact vc) ?_)
     |(refine qi rfl 85 (.tmp 11) (.tmp 65) rfl w5.heap.size 0 rfl EC rfl 85 _ [] [.int .i64 0,.int .i64 0,.slice none 0 0] [] HZe.1 (by simp) rfl (by rw[HEl.1];rfl) (by rw[HEl.1];exact vc) HE1.1 ?_;intro w6 hx6 hg6))
    obtain⟨gE,hgE⟩:∃g,g=w5.heap.size:=⟨_,rfl⟩;rw[←hgE];have hb6:Below w5.heap.size w5 w6:=((QK _ w5).alloc (QI _) (.cells #[.int .i64 0,.int .i64 0,.slice none 0 0] 85)).grown hg6 (by simp) (fun k e=>by cases e;exact QI _);have hz6:=hb6.size;have HE6:=qe (show Blk w6 gE 85 EC by rw[hgE];exact hx6.cast (by simp));have HX:=qe (HX.1.below hb6 (by omega));have HP:=qe (HP.1.below hb6 (by omega))
    have HZ:=qe (HZ.1.below hb6 (by omega));have HB:=qe (HB.1.trans (hb6.mono (by omega)));have hgE3:w.heap.size+3≤gE:=by omega
    have hgE6:gE<w6.heap.size:=HE6.1.lt;clear hx6 hg6 hb6 HZe HRE hgE c32 d32 d33 d34 d35;obtain⟨d32,d33,d34,d35,-⟩:=qZ.all5 (show qZ w6 (w.heap.size+1) p.grp p.ep p.fr p.nu A n c from HP.1.cast HDe.1) HG.1;rw[Hf.1]at d33;have l1:w6.cell? ⟨gE,1,none⟩=some (.int .i64 (e.leaf:Int)):=HE6.1.cell 1 (by rw[HEC.1];rfl);have l2:w6.cell? ⟨gE,2,none⟩=some (.slice e.A m e.c):=HE6.1.cell 2 (by rw[HEC.1,Hm.1];rfl)
    by_cases hl:(f:Int)=(e.leaf:Int)
    ·
     have HE:=qe (show jI x.m p=9 by rw[HOE2.1,if_pos (by rw[Hf.1];exact hl)]);go_upto_region 18 with fail
     refine wp_region_noPanic ?_;refine wp_region_held_drew (S:=fun W=>W.rangeAt w.heap.size 0 C) (by kernel_rfl) HX.1.drew.whole (fun hS=>?_);refine tkK 0 (.agg (C).toArray) rfl rfl (yieldsIf_load_mid (by rfl) 34 (.tmp 2) rfl _ _ rfl (C) _ (fun _ h=>h) underlying34 rfl (by rw[HCl.1];exact qt)) hS ?_;refine tkA 1 (.slice none 0 0) hS ?_;try simp only[QJ,qj,qz,qv]
     refine rdH 2 (fun K' hK=>?_);rw[if_pos (by rfl)];refine qo 34 (.tmp 5) (.tmp 79) rfl (w.heap.size+2) 0 rfl C rfl 34 _ [] jd [] HZ.1.drew (by simp) rfl (by rw[HCl.1];rfl) (by rw[HCl.1];exact qt) HC1.1 ?_;intro w9 hx9 hg9;have HX9:=qe (show Blk w9 (w.heap.size+2) 34 C from hx9.cast (by simp));have HB9:=qe (HB.1.drew.grown hg9 HB.1.drew.size (fun k e=>by cases e;omega))
     refine hK.out _ _ (HX.1.drew.grown hg9 (fun e=>by injection e with e;omega)).whole (fun hS=>?_);clear hK K' hx9 hg9;refine tkA 3 (.int .i64 9) hS ?_;try simp only[QJ,qj,qz,qv]
     refine wpAnyH_done (by kernel_rfl) ?_ _;refine Q4 ?_;go_wp2_with fail
     refine bodyPost_ret (v:= .tuple #[.slice none 0 0,.agg C.toArray,.int .i64 9]) (zm (g:=w.heap.size+2) rfl _ _ _ _ _ _ _ rfl rfl rfl HX9.1 underlying34 rfl (by rw[HCl.1];exact qt)) rfl ?_;refine⟨_,x,by rw[HCe.1,HE.1]<;>rfl,by rw[vp (by rw[HE.1];decide)];exact Own.nil_ _ _ _ _,(zK (by rw[HE.1];decide)).symm,HHx.1.below HB9.1 (QI _),fun k hk=> .inl hk,HB9.1⟩
    by_cases hfm:m≤f
    ·
     have hfm':(f:Int)≥(m:Int):=by omega
     have HE:=qe (show jI x.m p=9 by rw[HOE2.1,if_neg (by rw[Hf.1];exact hl),List.getElem?_eq_none (by rw[←Hm.1];exact hfm)];rfl);go_upto_region 18 with fail
     refine wp_region_noPanic ?_;refine wp_region_held_drew (S:=fun W=>W.rangeAt w.heap.size 0 C) (by kernel_rfl) HX.1.drew.whole (fun hS=>?_);refine tkK 0 (.agg (C).toArray) rfl rfl (yieldsIf_load_mid (by rfl) 34 (.tmp 2) rfl _ _ rfl (C) _ (fun _ h=>h) underlying34 rfl (by rw[HCl.1];exact qt)) hS ?_;refine tkA 1 (.slice none 0 0) hS ?_;try simp only[QJ,qj,qz,qv]
     refine rdH 2 (fun K' hK=>?_);rw[if_pos (by rfl)];refine qo 34 (.tmp 5) (.tmp 79) rfl (w.heap.size+2) 0 rfl C rfl 34 _ [] jd [] HZ.1.drew (by simp) rfl (by rw[HCl.1];rfl) (by rw[HCl.1];exact qt) HC1.1 ?_;intro w9 hx9 hg9;have HX9:=qe (show Blk w9 (w.heap.size+2) 34 C from hx9.cast (by simp));have HB9:=qe (HB.1.drew.grown hg9 HB.1.drew.size (fun k e=>by cases e;omega))
     refine hK.out _ _ (HX.1.drew.grown hg9 (fun e=>by injection e with e;omega)).whole (fun hS=>?_);clear hK K' hx9 hg9;refine tkA 3 (.int .i64 9) hS ?_;try simp only[QJ,qj,qz,qv]
     refine wpAnyH_done (by kernel_rfl) ?_ _;refine Q4 ?_;go_wp2_with fail
     refine bodyPost_ret (v:= .tuple #[.slice none 0 0,.agg C.toArray,.int .i64 9]) (zm (g:=w.heap.size+2) rfl _ _ _ _ _ _ _ rfl rfl rfl HX9.1 underlying34 rfl (by rw[HCl.1];exact qt)) rfl ?_;refine⟨_,x,by rw[HCe.1,HE.1]<;>rfl,by rw[vp (by rw[HE.1];decide)];exact Own.nil_ _ _ _ _,(zK (by rw[HE.1];decide)).symm,HHx.1.below HB9.1 (QI _),fun k hk=> .inl hk,HB9.1⟩
    have hfm':¬((f:Int)≥(m:Int)):=by omega
    have lfm:(f:Int)<(m:Int):=by omega
    have lfmN:f<m:=by omega
    go_upto_region 19 with fail
    have hlb:((f:Int)==(e.leaf:Int))=false:=by simpa using hl
    try rw[hlb]
    clear hlb;obtain⟨l,hl0⟩:∃l,e.ls[f]?=some l:=⟨e.ls[f]'(by rw[←Hm.1];exact lfmN),QT _⟩;have hlm:=Zq hl0;have hlA:=HeA.1.each l hlm;obtain⟨b2,o2,hA2,hb2,hc2⟩:=RdV.elem HeA.1.rows (fun q hq=>jS (HeA.1.each q hq).ok.len) (by decide) hl0;rw[Jw 36 f]at hc2;have hlf:∀k∈l.foot,k∈x.foot:=fun k hk=>by
     unfold RX.foot;exact Zf _ (Jk.2 ⟨e,Zq He.1,by unfold RE.foot;exact Zf _ (Jk.2 ⟨l,hlm,hk⟩)⟩)
    obtain⟨LC,hLC⟩:∃LC,LC=l.cells:=⟨_,rfl⟩;have HLl:=qe (show LC.length=36 by rw[hLC];exact jS hlA.ok.len);have HS:=qe (show∀W,Below w6.heap.size w6 W→W.cell? ⟨gE,2,none⟩=some (.slice (some ⟨b2,o2,none⟩) m e.c)∧W.cell? ⟨w.heap.size+1,33,none⟩=some (.int .i64 (f:Int))∧W.cell? ⟨w.heap.size+1,34,none⟩=some (.int .i64 p.nu)∧W.rangeAt b2 (o2+f*36) LC from fun W hb=>by
     obtain⟨-,q33,q34,-,-⟩:=qZ.all5 (show qZ W (w.heap.size+1) p.grp p.ep p.fr p.nu A n c from(HP.1.below hb HP.1.lt).cast HDe.1) HG.1;refine⟨(HE6.1.below hb HE6.1.lt).cell 2 (by rw[HEC.1,←hA2,Hm.1];rfl),by rw[←Hf.1];exact q33,q34,fun j u hu=>?_⟩;have h:=hc2 j u (by rw[←hLC];exact hu);rw[←h];exact(HB.1.trans (hb.mono HB.1.size)).cell (p:=⟨b2,o2+f*36+j,none⟩) hb2)
    obtain⟨T,hT⟩:∃T,T=qQ l.l p.nu:=⟨_,rfl⟩;have HTk:=qe (show∀W,Below w6.heap.size w6 W→Calls prog 44 #[.agg LC.toArray,.int .i64 p.nu] W fun r w'=>∃Oc Lc,r= .returned (.tuple #[.agg Oc.toArray,.agg Lc.toArray,.int .i64 (T:Int)])∧qm9 x l p.nu W.heap.size w' Oc Lc∧Below W.heap.size W w' from fun W hb=>by
     have hlW:=hlA.below (HB.1.trans (hb.mono HB.1.size)) (QI _);rw[hLC,hT];exact(qhe W l hlW ((HBnd.1 e (Zq He.1)).2 l hlm) p.nu n1 n2).mono (fun r w' h=>qn5 hlW hlf h))
    have HOE3:=qe (show jI x.m p=if T≠0 then T else jV (qS l.l p.nu).key (qS l.l p.nu).nonce (vF p.grp p.ep p.fr p.nu) p.sl from by
     rw[HOE2.1,if_neg (by rw[Hf.1];exact hl),hl0,hT];rfl)
    have HHl:=qe (show∀k∈x.foot,k<w6.heap.size from fun k hk=>by have:=HHx.1.lt k hk;have:=HB.1.size;omega);have HT:=qe hT;have HLC:=qe hLC;have Hl0:=qe hl0;have HlA:=qe hlA;have HA2:=qe hA2;have hu:=underlying89;have hi36:(prog.info? 89).map (·.size)=some LC.length:=by rw[HLl.1];exact qT
    clear hlm hlA hA2 hb2 hc2 hlf hLC hT hl0 d32 d33 d34 d35 l1 l2 hl hfm hfm';go_cut [12,13,14]from 80 to 92 (fun v12 v13 v14 wx=>∃(gO gL:Nat) (Oc Lc:List Value),v12= .pointer (some ⟨gO,0,none⟩)∧v13= .pointer (some ⟨gL,0,none⟩)∧v14= .int .i64 (T:Int)∧Blk wx gO 104 Oc∧Blk wx gL 89 Lc∧qm9 x l p.nu w6.heap.size wx Oc Lc∧Below w6.heap.size w6 wx∧w6.heap.size≤gO∧w6.heap.size≤gL)
    case first=>
     have hS19:=HS.1 _ (QK _ w6).drew;refine wp_region_noPanic ?_;refine wp_region_held_drew (S:=fun W=>W.cell? ⟨gE,2,none⟩=some (.slice (some ⟨b2,o2,none⟩) m e.c)∧W.cell? ⟨w.heap.size+1,33,none⟩=some (.int .i64 (f:Int))∧W.cell? ⟨w.heap.size+1,34,none⟩=some (.int .i64 p.nu)∧W.rangeAt b2 (o2+f*36) LC) (by kernel_rfl) hS19 (fun hS=>?_);clear hS19;have HBd:=qe ((QK w6.heap.size w6).drew)
     generalize World.drew w6=wd at hS HBd ⊢;refine tkA 0 (.pointer (some ⟨gE,2,none⟩)) hS ?_;refine tkA 1 (.slice (some ⟨b2,o2,none⟩) m e.c) hS ?_;refine tkA 2 (.pointer (some ⟨w.heap.size+1,33,none⟩)) hS ?_;try simp only[QJ,qj,qz,qv]
     refine tkA 3 (.int .i64 (f:Int)) hS ?_;refine tkA 4 (.pointer (some ⟨b2,o2+f*36,none⟩)) hS ?_;refine tkK 5 (.agg (LC).toArray) rfl rfl (yieldsIf_load_mid (by rfl) 89 (.tmp 85) rfl _ _ rfl (LC) _ (fun _ h=>h.2.2.2) hu rfl hi36) hS ?_;try simp only[QJ,qj,qz,qv]
     refine tkA 6 (.pointer (some ⟨w.heap.size+1,34,none⟩)) hS ?_;refine tkA 7 (.int .i64 p.nu) hS ?_;try simp only[QJ,qj,qz,qv]
     refine wpAnyH_ready (rs:=[8,13,14]) (by kernel_rfl) (by simp) (Jm (o:={dst:=some 89,op:=_,type:=_,pos:=_,after:=_,guard:=_}) rfl (fun K' hK=>?_) (Jm (o:={dst:=some 12,op:=_,type:=_,pos:=_,after:=_,guard:=_}) rfl (fun K' hK=>?_) (Jm (o:={dst:=some 13,op:=_,type:=_,pos:=_,after:=_,guard:=_}) rfl (fun K' hK=>?_) J1)))
     ·
      go_simp;go_at_call 44;refine(HTk.1 _ HBd.1).mono ?_;rintro r wv1 ⟨Oc,Lc,rfl,hq,hb⟩;have HB1:=qe (HBd.1.trans (hb.mono HBd.1.size));have HQ:=qe hq;have hlo:=HBd.1.size;have hs1:=hb.size;have HF1:=qe (Frm.refl wv1 []);clear hq hb;refine hK.out _ _ (HS.1 _ HB1.1) (fun hS=>?_);clear hK K';refine tkA 9 (.tuple #[.agg Oc.toArray,.agg Lc.toArray,.int .i64 (T:Int)]) hS ?_;refine tkA 10 (.agg Oc.toArray) hS ?_
      try simp only[QJ,qj,qz,qv]
      refine tkA 11 (.agg Lc.toArray) hS ?_;refine tkA 12 (.int .i64 (T:Int)) hS ?_;try simp only[QJ,qj,qz,qv]
      refine wpAnyH_ready (rs:=[13,14]) (by kernel_rfl) (by simp) (Jm (o:={dst:=some 12,op:=_,type:=_,pos:=_,after:=_,guard:=_}) rfl (fun K' hK=>?_) (Jm (o:={dst:=some 13,op:=_,type:=_,pos:=_,after:=_,guard:=_}) rfl (fun K' hK=>?_) J1))
      ·
       go_simp;have HA:=qe (show∀Wn,QY wv1 (.cells qg.toArray 104)=Wn→Blk Wn wv1.heap.size 104 qg∧Below w6.heap.size w6 Wn∧Below wv1.heap.size wv1 Wn from fun Wn e=>by subst e;exact⟨Blk.new _ _ _,HB1.1.alloc HB1.1.size _,(QK _ _).alloc (QI _) _⟩);have hgO:=HB1.1.size;refine hK.out _ _ (HS.1 _ (HA.1 _ rfl).2.1) (fun hS=>?_);clear hK K';try simp only[QJ,qj,qz,qv]
       generalize hWn:QY wv1 _=wv2 at hS ⊢;obtain⟨hz,hb,hbw⟩:=HA.1 _ hWn;have HO2:=qe hz;have HB2:=qe hb;have hs2:=hbw.size;have HF2:=qe (HF1.1.below hbw (QI _));clear hWn hz hb hbw HA;refine rdH 14 (fun K' hK=>?_);go_simp;have HA:=qe (show∀Wn,QY wv2 (.cells jE.toArray 89)=Wn→Blk Wn wv2.heap.size 89 jE∧Below w6.heap.size w6 Wn∧Below wv2.heap.size wv2 Wn from fun Wn e=>by subst e;exact⟨Blk.new _ _ _,HB2.1.alloc HB2.1.size _,(QK _ _).alloc (QI _) _⟩)
       have hgL:=HB2.1.size;have hne:=HO2.1.lt;refine hK.out _ _ (HS.1 _ (HA.1 _ rfl).2.1) (fun hS=>?_);clear hK K';try simp only[QJ,qj,qz,qv]
       generalize hWn:QY wv2 _=wv3 at hS ⊢;obtain⟨hz,hb,hbw⟩:=HA.1 _ hWn;have HL3:=qe hz;have HB3:=qe hb;have hs3:=hbw.size;have HO3:=qe (HO2.1.below hbw HO2.1.lt);have HF3:=qe (HF2.1.below hbw (QI _));clear hWn hz hb hbw HA;refine rdH 15 (fun K' hK=>?_);rw[if_pos (by rfl)];refine qo 104 (.tmp 12) (.tmp 90) rfl (wv1.heap.size) 0 rfl Oc rfl 104 _ [] qg [] HO3.1 (by simp) rfl (by rw[HQ.1.1];rfl) (by rw[HQ.1.1];exact jg) HQ.1.2.1 ?_
       intro wv4 hx hg;have HO4:=qe (show Blk wv4 (wv1.heap.size) 104 Oc from hx.cast (by simp));have HB4:=qe (HB3.1.grown hg HB3.1.size (fun k e=>by cases e;exact hgO));have HF4:=qe (HF3.1.put hg);have hs4:=hg.size;have HL4:=qe (HL3.1.grown hg (fun e=>by injection e with e;omega));refine hK.out _ _ (HS.1 _ HB4.1) (fun hS=>?_);clear hK K' hx hg;try simp only[QJ,qj,qz,qv]
       refine rdH 16 (fun K' hK=>?_);rw[if_pos (by rfl)];refine qo 89 (.tmp 13) (.tmp 91) rfl (wv2.heap.size) 0 rfl Lc rfl 89 _ [] jE [] HL4.1 (by simp) rfl (by rw[HQ.1.2.2.1];rfl) (by rw[HQ.1.2.2.1];exact qT) HQ.1.2.2.2.1 ?_;intro wv5 hx hg;have HL5:=qe (show Blk wv5 (wv2.heap.size) 89 Lc from hx.cast (by simp));have HB5:=qe (HB4.1.grown hg HB4.1.size (fun k e=>by cases e;exact hgL))
       have HF5:=qe (HF4.1.put hg);have hs5:=hg.size;have HO5:=qe (HO4.1.grown hg (fun e=>by injection e with e;omega));refine hK.out _ _ (HS.1 _ HB5.1) (fun hS=>?_);clear hK K' hx hg;refine tkA 17 (.int .i64 (T:Int)) hS ?_;try simp only[QJ,qj,qz,qv]
       refine wpAnyH_done (by kernel_rfl) ?_ _;refine Q4 ?_;go_wp2_with fail
       go_meet
       case rel=>exact⟨wv1.heap.size,wv2.heap.size,Oc,Lc,rfl,rfl,rfl,HO5.1,HL5.1,ur HQ.1 HF5.1 HHl.1 hlo (by omega) (by omega),HB5.1,hgO,hgL⟩
      ·
       go_simp;have HA:=qe (show∀Wn,QY wv1 (.cells jE.toArray 89)=Wn→Blk Wn wv1.heap.size 89 jE∧Below w6.heap.size w6 Wn∧Below wv1.heap.size wv1 Wn from fun Wn e=>by subst e;exact⟨Blk.new _ _ _,HB1.1.alloc HB1.1.size _,(QK _ _).alloc (QI _) _⟩);have hgL:=HB1.1.size;refine hK.out _ _ (HS.1 _ (HA.1 _ rfl).2.1) (fun hS=>?_);clear hK K';try simp only[QJ,qj,qz,qv]
       generalize hWn:QY wv1 _=wv6 at hS ⊢;obtain⟨hz,hb,hbw⟩:=HA.1 _ hWn;have HL6:=qe hz;have HB6:=qe hb;have hs6:=hbw.size;have HF6:=qe (HF1.1.below hbw (QI _));clear hWn hz hb hbw HA;refine rdH 13 (fun K' hK=>?_);go_simp;have HA:=qe (show∀Wn,QY wv6 (.cells qg.toArray 104)=Wn→Blk Wn wv6.heap.size 104 qg∧Below w6.heap.size w6 Wn∧Below wv6.heap.size wv6 Wn from fun Wn e=>by subst e;exact⟨Blk.new _ _ _,HB6.1.alloc HB6.1.size _,(QK _ _).alloc (QI _) _⟩)
       have hgO:=HB6.1.size;have hne:=HL6.1.lt;refine hK.out _ _ (HS.1 _ (HA.1 _ rfl).2.1) (fun hS=>?_);clear hK K';try simp only[QJ,qj,qz,qv]
       generalize hWn:QY wv6 _=wv7 at hS ⊢;obtain⟨hz,hb,hbw⟩:=HA.1 _ hWn;have HO7:=qe hz;have HB7:=qe hb;have hs7:=hbw.size;have HL7:=qe (HL6.1.below hbw HL6.1.lt);have HF7:=qe (HF6.1.below hbw (QI _));clear hWn hz hb hbw HA;refine rdH 15 (fun K' hK=>?_);rw[if_pos (by rfl)];refine qo 104 (.tmp 12) (.tmp 90) rfl (wv6.heap.size) 0 rfl Oc rfl 104 _ [] qg [] HO7.1 (by simp) rfl (by rw[HQ.1.1];rfl) (by rw[HQ.1.1];exact jg) HQ.1.2.1 ?_
       intro wv8 hx hg;have HO8:=qe (show Blk wv8 (wv6.heap.size) 104 Oc from hx.cast (by simp));have HB8:=qe (HB7.1.grown hg HB7.1.size (fun k e=>by cases e;exact hgO));have HF8:=qe (HF7.1.put hg);have hs8:=hg.size;have HL8:=qe (HL7.1.grown hg (fun e=>by injection e with e;omega));refine hK.out _ _ (HS.1 _ HB8.1) (fun hS=>?_);clear hK K' hx hg;try simp only[QJ,qj,qz,qv]
       refine rdH 16 (fun K' hK=>?_);rw[if_pos (by rfl)];refine qo 89 (.tmp 13) (.tmp 91) rfl (wv1.heap.size) 0 rfl Lc rfl 89 _ [] jE [] HL8.1 (by simp) rfl (by rw[HQ.1.2.2.1];rfl) (by rw[HQ.1.2.2.1];exact qT) HQ.1.2.2.2.1 ?_;intro wv9 hx hg;have HL9:=qe (show Blk wv9 (wv1.heap.size) 89 Lc from hx.cast (by simp));have HB9:=qe (HB8.1.grown hg HB8.1.size (fun k e=>by cases e;exact hgL))
       have HF9:=qe (HF8.1.put hg);have hs9:=hg.size;have HO9:=qe (HO8.1.grown hg (fun e=>by injection e with e;omega));refine hK.out _ _ (HS.1 _ HB9.1) (fun hS=>?_);clear hK K' hx hg;refine tkA 17 (.int .i64 (T:Int)) hS ?_;try simp only[QJ,qj,qz,qv]
       refine wpAnyH_done (by kernel_rfl) ?_ _;refine Q4 ?_;go_wp2_with fail
       go_meet
       case rel=>exact⟨wv6.heap.size,wv1.heap.size,Oc,Lc,rfl,rfl,rfl,HO9.1,HL9.1,ur HQ.1 HF9.1 HHl.1 hlo (by omega) (by omega),HB9.1,hgO,hgL⟩
     ·
      go_simp;have HA:=qe (show∀Wn,QY wd (.cells qg.toArray 104)=Wn→Blk Wn wd.heap.size 104 qg∧Below w6.heap.size w6 Wn∧Below wd.heap.size wd Wn from fun Wn e=>by subst e;exact⟨Blk.new _ _ _,HBd.1.alloc HBd.1.size _,(QK _ _).alloc (QI _) _⟩);have hgO:=HBd.1.size;refine hK.out _ _ (HS.1 _ (HA.1 _ rfl).2.1) (fun hS=>?_);clear hK K';try simp only[QJ,qj,qz,qv]
      generalize hWn:QY wd _=wv10 at hS ⊢;obtain⟨hz,hb,hbw⟩:=HA.1 _ hWn;have HO10:=qe hz;have HB10:=qe hb;have hs10:=hbw.size;clear hWn hz hb hbw HA;refine wpAnyH_ready (rs:=[8,14]) (by kernel_rfl) (by simp) (Jm (o:={dst:=some 89,op:=_,type:=_,pos:=_,after:=_,guard:=_}) rfl (fun K' hK=>?_) (Jm (o:={dst:=some 13,op:=_,type:=_,pos:=_,after:=_,guard:=_}) rfl (fun K' hK=>?_) J1))
      ·
       go_simp;go_at_call 44;refine(HTk.1 _ HB10.1).mono ?_;rintro r wv11 ⟨Oc,Lc,rfl,hq,hb⟩;have HB11:=qe (HB10.1.trans (hb.mono HB10.1.size));have HQ:=qe hq;have hlo:=HB10.1.size;have hs11:=hb.size;have hOc:=HO10.1.lt;have HO11:=qe (HO10.1.below hb HO10.1.lt);have HF11:=qe (Frm.refl wv11 []);clear hq hb;refine hK.out _ _ (HS.1 _ HB11.1) (fun hS=>?_);clear hK K';refine tkA 9 (.tuple #[.agg Oc.toArray,.agg Lc.toArray,.int .i64 (T:Int)]) hS ?_
       refine tkA 10 (.agg Oc.toArray) hS ?_;try simp only[QJ,qj,qz,qv]
       refine tkA 11 (.agg Lc.toArray) hS ?_;refine tkA 12 (.int .i64 (T:Int)) hS ?_;try simp only[QJ,qj,qz,qv]
       refine rdH 14 (fun K' hK=>?_);go_simp;have HA:=qe (show∀Wn,QY wv11 (.cells jE.toArray 89)=Wn→Blk Wn wv11.heap.size 89 jE∧Below w6.heap.size w6 Wn∧Below wv11.heap.size wv11 Wn from fun Wn e=>by subst e;exact⟨Blk.new _ _ _,HB11.1.alloc HB11.1.size _,(QK _ _).alloc (QI _) _⟩);have hgL:=HB11.1.size;have hne:=HO11.1.lt;refine hK.out _ _ (HS.1 _ (HA.1 _ rfl).2.1) (fun hS=>?_)
       clear hK K';try simp only[QJ,qj,qz,qv]
       generalize hWn:QY wv11 _=wv12 at hS ⊢;obtain⟨hz,hb,hbw⟩:=HA.1 _ hWn;have HL12:=qe hz;have HB12:=qe hb;have hs12:=hbw.size;have HO12:=qe (HO11.1.below hbw HO11.1.lt);have HF12:=qe (HF11.1.below hbw (QI _));clear hWn hz hb hbw HA;refine rdH 15 (fun K' hK=>?_);rw[if_pos (by rfl)];refine qo 104 (.tmp 12) (.tmp 90) rfl (wd.heap.size) 0 rfl Oc rfl 104 _ [] qg [] HO12.1 (by simp) rfl (by rw[HQ.1.1];rfl) (by rw[HQ.1.1];exact jg) HQ.1.2.1 ?_
       intro wv13 hx hg;have HO13:=qe (show Blk wv13 (wd.heap.size) 104 Oc from hx.cast (by simp));have HB13:=qe (HB12.1.grown hg HB12.1.size (fun k e=>by cases e;exact hgO));have HF13:=qe (HF12.1.put hg);have hs13:=hg.size;have HL13:=qe (HL12.1.grown hg (fun e=>by injection e with e;omega));refine hK.out _ _ (HS.1 _ HB13.1) (fun hS=>?_);clear hK K' hx hg;try simp only[QJ,qj,qz,qv]
       refine rdH 16 (fun K' hK=>?_);rw[if_pos (by rfl)];refine qo 89 (.tmp 13) (.tmp 91) rfl (wv11.heap.size) 0 rfl Lc rfl 89 _ [] jE [] HL13.1 (by simp) rfl (by rw[HQ.1.2.2.1];rfl) (by rw[HQ.1.2.2.1];exact qT) HQ.1.2.2.2.1 ?_;intro wv14 hx hg;have HL14:=qe (show Blk wv14 (wv11.heap.size) 89 Lc from hx.cast (by simp));have HB14:=qe (HB13.1.grown hg HB13.1.size (fun k e=>by cases e;exact hgL))
       have HF14:=qe (HF13.1.put hg);have hs14:=hg.size;have HO14:=qe (HO13.1.grown hg (fun e=>by injection e with e;omega));refine hK.out _ _ (HS.1 _ HB14.1) (fun hS=>?_);clear hK K' hx hg;refine tkA 17 (.int .i64 (T:Int)) hS ?_;try simp only[QJ,qj,qz,qv]
       refine wpAnyH_done (by kernel_rfl) ?_ _;refine Q4 ?_;go_wp2_with fail
       go_meet
       case rel=>exact⟨wd.heap.size,wv11.heap.size,Oc,Lc,rfl,rfl,rfl,HO14.1,HL14.1,ur HQ.1 HF14.1 HHl.1 hlo (by omega) (by omega),HB14.1,hgO,hgL⟩
      ·
       go_simp;have HA:=qe (show∀Wn,QY wv10 (.cells jE.toArray 89)=Wn→Blk Wn wv10.heap.size 89 jE∧Below w6.heap.size w6 Wn∧Below wv10.heap.size wv10 Wn from fun Wn e=>by subst e;exact⟨Blk.new _ _ _,HB10.1.alloc HB10.1.size _,(QK _ _).alloc (QI _) _⟩);have hgL:=HB10.1.size;have hne:=HO10.1.lt;refine hK.out _ _ (HS.1 _ (HA.1 _ rfl).2.1) (fun hS=>?_);clear hK K';try simp only[QJ,qj,qz,qv]
       generalize hWn:QY wv10 _=wv15 at hS ⊢;obtain⟨hz,hb,hbw⟩:=HA.1 _ hWn;have HL15:=qe hz;have HB15:=qe hb;have hs15:=hbw.size;have HO15:=qe (HO10.1.below hbw HO10.1.lt);clear hWn hz hb hbw HA;refine rdH 8 (fun K' hK=>?_);go_simp;go_at_call 44;refine(HTk.1 _ HB15.1).mono ?_;rintro r wv16 ⟨Oc,Lc,rfl,hq,hb⟩;have HB16:=qe (HB15.1.trans (hb.mono HB15.1.size));have HQ:=qe hq;have hlo:=HB15.1.size
       have hs16:=hb.size;have hOc:=HO15.1.lt;have HO16:=qe (HO15.1.below hb HO15.1.lt);have hLc:=HL15.1.lt;have HL16:=qe (HL15.1.below hb HL15.1.lt);have HF16:=qe (Frm.refl wv16 []);clear hq hb;refine hK.out _ _ (HS.1 _ HB16.1) (fun hS=>?_);clear hK K';refine tkA 9 (.tuple #[.agg Oc.toArray,.agg Lc.toArray,.int .i64 (T:Int)]) hS ?_;refine tkA 10 (.agg Oc.toArray) hS ?_;try simp only[QJ,qj,qz,qv]
       refine tkA 11 (.agg Lc.toArray) hS ?_;refine tkA 12 (.int .i64 (T:Int)) hS ?_;try simp only[QJ,qj,qz,qv]
       refine rdH 15 (fun K' hK=>?_);rw[if_pos (by rfl)];refine qo 104 (.tmp 12) (.tmp 90) rfl (wd.heap.size) 0 rfl Oc rfl 104 _ [] qg [] HO16.1 (by simp) rfl (by rw[HQ.1.1];rfl) (by rw[HQ.1.1];exact jg) HQ.1.2.1 ?_;intro wv17 hx hg;have HO17:=qe (show Blk wv17 (wd.heap.size) 104 Oc from hx.cast (by simp));have HB17:=qe (HB16.1.grown hg HB16.1.size (fun k e=>by cases e;exact hgO))
       have HF17:=qe (HF16.1.put hg);have hs17:=hg.size;have HL17:=qe (HL16.1.grown hg (fun e=>by injection e with e;omega));refine hK.out _ _ (HS.1 _ HB17.1) (fun hS=>?_);clear hK K' hx hg;try simp only[QJ,qj,qz,qv]
       refine rdH 16 (fun K' hK=>?_);rw[if_pos (by rfl)];refine qo 89 (.tmp 13) (.tmp 91) rfl (wv10.heap.size) 0 rfl Lc rfl 89 _ [] jE [] HL17.1 (by simp) rfl (by rw[HQ.1.2.2.1];rfl) (by rw[HQ.1.2.2.1];exact qT) HQ.1.2.2.2.1 ?_;intro wv18 hx hg;have HL18:=qe (show Blk wv18 (wv10.heap.size) 89 Lc from hx.cast (by simp));have HB18:=qe (HB17.1.grown hg HB17.1.size (fun k e=>by cases e;exact hgL))
       have HF18:=qe (HF17.1.put hg);have hs18:=hg.size;have HO18:=qe (HO17.1.grown hg (fun e=>by injection e with e;omega));refine hK.out _ _ (HS.1 _ HB18.1) (fun hS=>?_);clear hK K' hx hg;refine tkA 17 (.int .i64 (T:Int)) hS ?_;try simp only[QJ,qj,qz,qv]
       refine wpAnyH_done (by kernel_rfl) ?_ _;refine Q4 ?_;go_wp2_with fail
       go_meet
       case rel=>exact⟨wd.heap.size,wv10.heap.size,Oc,Lc,rfl,rfl,rfl,HO18.1,HL18.1,ur HQ.1 HF18.1 HHl.1 hlo (by omega) (by omega),HB18.1,hgO,hgL⟩
     ·
      go_simp;have HA:=qe (show∀Wn,QY wd (.cells jE.toArray 89)=Wn→Blk Wn wd.heap.size 89 jE∧Below w6.heap.size w6 Wn∧Below wd.heap.size wd Wn from fun Wn e=>by subst e;exact⟨Blk.new _ _ _,HBd.1.alloc HBd.1.size _,(QK _ _).alloc (QI _) _⟩);have hgL:=HBd.1.size;refine hK.out _ _ (HS.1 _ (HA.1 _ rfl).2.1) (fun hS=>?_);clear hK K';try simp only[QJ,qj,qz,qv]
      generalize hWn:QY wd _=wv19 at hS ⊢;obtain⟨hz,hb,hbw⟩:=HA.1 _ hWn;have HL19:=qe hz;have HB19:=qe hb;have hs19:=hbw.size;clear hWn hz hb hbw HA;refine wpAnyH_ready (rs:=[8,13]) (by kernel_rfl) (by simp) (Jm (o:={dst:=some 89,op:=_,type:=_,pos:=_,after:=_,guard:=_}) rfl (fun K' hK=>?_) (Jm (o:={dst:=some 12,op:=_,type:=_,pos:=_,after:=_,guard:=_}) rfl (fun K' hK=>?_) J1))
      ·
       go_simp;go_at_call 44;refine(HTk.1 _ HB19.1).mono ?_;rintro r wv20 ⟨Oc,Lc,rfl,hq,hb⟩;have HB20:=qe (HB19.1.trans (hb.mono HB19.1.size));have HQ:=qe hq;have hlo:=HB19.1.size;have hs20:=hb.size;have hLc:=HL19.1.lt;have HL20:=qe (HL19.1.below hb HL19.1.lt);have HF20:=qe (Frm.refl wv20 []);clear hq hb;refine hK.out _ _ (HS.1 _ HB20.1) (fun hS=>?_);clear hK K';refine tkA 9 (.tuple #[.agg Oc.toArray,.agg Lc.toArray,.int .i64 (T:Int)]) hS ?_
       refine tkA 10 (.agg Oc.toArray) hS ?_;try simp only[QJ,qj,qz,qv]
       refine tkA 11 (.agg Lc.toArray) hS ?_;refine tkA 12 (.int .i64 (T:Int)) hS ?_;try simp only[QJ,qj,qz,qv]
       refine rdH 13 (fun K' hK=>?_);go_simp;have HA:=qe (show∀Wn,QY wv20 (.cells qg.toArray 104)=Wn→Blk Wn wv20.heap.size 104 qg∧Below w6.heap.size w6 Wn∧Below wv20.heap.size wv20 Wn from fun Wn e=>by subst e;exact⟨Blk.new _ _ _,HB20.1.alloc HB20.1.size _,(QK _ _).alloc (QI _) _⟩);have hgO:=HB20.1.size;have hne:=HL20.1.lt;refine hK.out _ _ (HS.1 _ (HA.1 _ rfl).2.1) (fun hS=>?_)
       clear hK K';try simp only[QJ,qj,qz,qv]
       generalize hWn:QY wv20 _=wv21 at hS ⊢;obtain⟨hz,hb,hbw⟩:=HA.1 _ hWn;have HO21:=qe hz;have HB21:=qe hb;have hs21:=hbw.size;have HL21:=qe (HL20.1.below hbw HL20.1.lt);have HF21:=qe (HF20.1.below hbw (QI _));clear hWn hz hb hbw HA;refine rdH 15 (fun K' hK=>?_);rw[if_pos (by rfl)];refine qo 104 (.tmp 12) (.tmp 90) rfl (wv20.heap.size) 0 rfl Oc rfl 104 _ [] qg [] HO21.1 (by simp) rfl (by rw[HQ.1.1];rfl) (by rw[HQ.1.1];exact jg) HQ.1.2.1 ?_
       intro wv22 hx hg;have HO22:=qe (show Blk wv22 (wv20.heap.size) 104 Oc from hx.cast (by simp));have HB22:=qe (HB21.1.grown hg HB21.1.size (fun k e=>by cases e;exact hgO));have HF22:=qe (HF21.1.put hg);have hs22:=hg.size;have HL22:=qe (HL21.1.grown hg (fun e=>by injection e with e;omega));refine hK.out _ _ (HS.1 _ HB22.1) (fun hS=>?_);clear hK K' hx hg;try simp only[QJ,qj,qz,qv]
       refine rdH 16 (fun K' hK=>?_);rw[if_pos (by rfl)];refine qo 89 (.tmp 13) (.tmp 91) rfl (wd.heap.size) 0 rfl Lc rfl 89 _ [] jE [] HL22.1 (by simp) rfl (by rw[HQ.1.2.2.1];rfl) (by rw[HQ.1.2.2.1];exact qT) HQ.1.2.2.2.1 ?_;intro wv23 hx hg;have HL23:=qe (show Blk wv23 (wd.heap.size) 89 Lc from hx.cast (by simp));have HB23:=qe (HB22.1.grown hg HB22.1.size (fun k e=>by cases e;exact hgL))
       have HF23:=qe (HF22.1.put hg);have hs23:=hg.size;have HO23:=qe (HO22.1.grown hg (fun e=>by injection e with e;omega));refine hK.out _ _ (HS.1 _ HB23.1) (fun hS=>?_);clear hK K' hx hg;refine tkA 17 (.int .i64 (T:Int)) hS ?_;try simp only[QJ,qj,qz,qv]
       refine wpAnyH_done (by kernel_rfl) ?_ _;refine Q4 ?_;go_wp2_with fail
       go_meet
       case rel=>exact⟨wv20.heap.size,wd.heap.size,Oc,Lc,rfl,rfl,rfl,HO23.1,HL23.1,ur HQ.1 HF23.1 HHl.1 hlo (by omega) (by omega),HB23.1,hgO,hgL⟩
      ·
       go_simp;have HA:=qe (show∀Wn,QY wv19 (.cells qg.toArray 104)=Wn→Blk Wn wv19.heap.size 104 qg∧Below w6.heap.size w6 Wn∧Below wv19.heap.size wv19 Wn from fun Wn e=>by subst e;exact⟨Blk.new _ _ _,HB19.1.alloc HB19.1.size _,(QK _ _).alloc (QI _) _⟩);have hgO:=HB19.1.size;have hne:=HL19.1.lt;refine hK.out _ _ (HS.1 _ (HA.1 _ rfl).2.1) (fun hS=>?_);clear hK K'
       try simp only[QJ,qj,qz,qv]
       generalize hWn:QY wv19 _=wv24 at hS ⊢;obtain⟨hz,hb,hbw⟩:=HA.1 _ hWn;have HO24:=qe hz;have HB24:=qe hb;have hs24:=hbw.size;have HL24:=qe (HL19.1.below hbw HL19.1.lt);clear hWn hz hb hbw HA;refine rdH 8 (fun K' hK=>?_);go_simp;go_at_call 44;refine(HTk.1 _ HB24.1).mono ?_;rintro r wv25 ⟨Oc,Lc,rfl,hq,hb⟩;have HB25:=qe (HB24.1.trans (hb.mono HB24.1.size));have HQ:=qe hq;have hlo:=HB24.1.size
       have hs25:=hb.size;have hOc:=HO24.1.lt;have HO25:=qe (HO24.1.below hb HO24.1.lt);have hLc:=HL24.1.lt;have HL25:=qe (HL24.1.below hb HL24.1.lt);have HF25:=qe (Frm.refl wv25 []);clear hq hb;refine hK.out _ _ (HS.1 _ HB25.1) (fun hS=>?_);clear hK K';refine tkA 9 (.tuple #[.agg Oc.toArray,.agg Lc.toArray,.int .i64 (T:Int)]) hS ?_;refine tkA 10 (.agg Oc.toArray) hS ?_;try simp only[QJ,qj,qz,qv]
       refine tkA 11 (.agg Lc.toArray) hS ?_;refine tkA 12 (.int .i64 (T:Int)) hS ?_;try simp only[QJ,qj,qz,qv]
       refine rdH 15 (fun K' hK=>?_);rw[if_pos (by rfl)];refine qo 104 (.tmp 12) (.tmp 90) rfl (wv19.heap.size) 0 rfl Oc rfl 104 _ [] qg [] HO25.1 (by simp) rfl (by rw[HQ.1.1];rfl) (by rw[HQ.1.1];exact jg) HQ.1.2.1 ?_;intro wv26 hx hg;have HO26:=qe (show Blk wv26 (wv19.heap.size) 104 Oc from hx.cast (by simp));have HB26:=qe (HB25.1.grown hg HB25.1.size (fun k e=>by cases e;exact hgO))
       have HF26:=qe (HF25.1.put hg);have hs26:=hg.size;have HL26:=qe (HL25.1.grown hg (fun e=>by injection e with e;omega));refine hK.out _ _ (HS.1 _ HB26.1) (fun hS=>?_);clear hK K' hx hg;try simp only[QJ,qj,qz,qv]
       refine rdH 16 (fun K' hK=>?_);rw[if_pos (by rfl)];refine qo 89 (.tmp 13) (.tmp 91) rfl (wd.heap.size) 0 rfl Lc rfl 89 _ [] jE [] HL26.1 (by simp) rfl (by rw[HQ.1.2.2.1];rfl) (by rw[HQ.1.2.2.1];exact qT) HQ.1.2.2.2.1 ?_;intro wv27 hx hg;have HL27:=qe (show Blk wv27 (wd.heap.size) 89 Lc from hx.cast (by simp));have HB27:=qe (HB26.1.grown hg HB26.1.size (fun k e=>by cases e;exact hgL))
       have HF27:=qe (HF26.1.put hg);have hs27:=hg.size;have HO27:=qe (HO26.1.grown hg (fun e=>by injection e with e;omega));refine hK.out _ _ (HS.1 _ HB27.1) (fun hS=>?_);clear hK K' hx hg;refine tkA 17 (.int .i64 (T:Int)) hS ?_;try simp only[QJ,qj,qz,qv]
       refine wpAnyH_done (by kernel_rfl) ?_ _;refine Q4 ?_;go_wp2_with fail
       go_meet
       case rel=>exact⟨wv19.heap.size,wd.heap.size,Oc,Lc,rfl,rfl,rfl,HO27.1,HL27.1,ur HQ.1 HF27.1 HHl.1 hlo (by omega) (by omega),HB27.1,hgO,hgL⟩
    case rest=>
     obtain⟨gO,gL,Oc,Lc,rfl,rfl,rfl,hbO,hbL,htk,hbc,hgO,hgL⟩:=hcut;have hzc:=hbc.size;have HbO:=qe hbO;have HbL:=qe hbL;have hgLc:=hbL.lt;have hgOc:=hbO.lt;have hLl36:Lc.length=36:=htk.2.2.1;have HLc36:=qe hLl36;have HX:=qe (HX.1.below hbc (by omega));have HP:=qe (HP.1.below hbc (by omega));have HZ:=qe (HZ.1.below hbc (by omega));have HB:=qe (HB.1.trans (hbc.mono (by omega)));have HTd:=qe htk.2.2.2.2
     clear hbO hbL htk hbc hLl36;by_cases hT0:T=0
     ·
      obtain⟨g,og,cg,y,hOc,hLc,hyl,hyA,hro,hyf⟩:=HTd.1 (by rw[←HT.1];exact hT0);obtain⟨O,hO⟩:∃O,O=qS l.l p.nu:=⟨_,rfl⟩;obtain⟨ctx,hctx⟩:∃ctx,ctx=vF p.grp p.ep p.fr p.nu:=⟨_,rfl⟩;rw[←hO]at hOc hro;have HOE4:=HOE3.1;rw[if_neg (by rw[hT0];decide),←hO,←hctx]at HOE4;obtain⟨E,hE⟩:∃E,E=jV O.key O.nonce ctx p.sl:=⟨_,rfl⟩;rw[←hE]at HOE4;have HOE5:=qe HOE4;obtain⟨kv,hkv⟩:∃kv,kv=O.key.map b8:=⟨_,rfl⟩
      have HKl:=qe (show O.key.length=32 from hro.key);have HNl:=qe (show O.nonce.length=12 from hro.nn);have HCtl:=qe (show ctx.length=41 by rw[hctx];exact uB HG.1 _ _ _);have HCap:=qe (show 12≤cg from hro.cap);have HRo:=qe (show Rd b8 wc (g+1) (some ⟨g,og,none⟩) O.nonce from hro.read);have hgw:g<wc.heap.size:=hro.lt;have hi2k:(prog.info? 92).map (·.size)=some kv.length:=by rw[hkv,QN,HKl.1];exact kJ
      have hi3p:(prog.info? 41).map (·.size)=some D.length:=by rw[HDl.1];exact jC
      have HCt:=qe (show∀W,Calls prog 46 #[.agg D.toArray] W fun e w'=>∃v,e= .returned v∧Own b8 w' W.heap.size 5 v ctx∧Below W.heap.size W w' from fun W=>by rw[HDe.1,hctx];exact qer p.grp HG.1 p.ep p.fr p.nu hep0 hep1 hfr0 hfr1 hnu0 hnu1 A n c W);have HS22:=qe (show∀W,Below wc.heap.size wc W→W.rangeAt gO 1 kv∧W.cell? ⟨gO,33,none⟩=some (.slice (some ⟨g,og,none⟩) 12 cg)∧W.rangeAt (w.heap.size+1) 0 D∧W.cell? ⟨w.heap.size+1,35,none⟩=some (.slice A n c)from fun W hb=>by
       have h5:=(HbO.1.below hb hgOc).cast hOc;have h6:=h5.range 1 32;rw[show((qy p.nu O.key (.slice (some ⟨g,og,none⟩) 12 cg)).drop 1).take 32=kv by unfold qy;rw[hkv,List.drop_succ_cons,List.drop_zero,List.take_left' (by rw[QN,HKl.1])]]at h6;have h7:=HP.1.below hb HP.1.lt;exact⟨h6,h5.cell 33 (qa4 _ _ _ HKl.1),h7.whole,qZ.c35 (show qZ W (w.heap.size+1) p.grp p.ep p.fr p.nu A n c from h7.cast HDe.1) HG.1⟩)
      have HKv:=qe hkv;have HyA:=qe hyA;have Hyl:=qe hyl;have Hyf:=qe hyf;have HLcy:=qe hLc;have HEe:=qe hE;have HOo:=qe hO;have HCx:=qe hctx;subst hT0;clear hOc hLc hyl hyA hro hyf hO hctx HOE4 hE hkv HTk HS HOE3 HOE2;go_upto_region 22 with fail
      have hS22:=HS22.1 _ (QK _ wc).drew;have hu2:=underlying92;have hu3:=underlying41;refine wp_region_noPanic ?_;refine wp_region_held_drew (S:=fun W=>W.rangeAt gO 1 kv∧W.cell? ⟨gO,33,none⟩=some (.slice (some ⟨g,og,none⟩) 12 cg)∧W.rangeAt (w.heap.size+1) 0 D∧W.cell? ⟨w.heap.size+1,35,none⟩=some (.slice A n c)) (by kernel_rfl) hS22 (fun hS=>?_);clear hS22;have HBd:=qe ((QK wc.heap.size wc).drew)
      generalize World.drew wc=wd at hS HBd ⊢;refine tkA 0 (.pointer (some ⟨gO,1,none⟩)) hS ?_;refine tkK 1 (.agg (kv).toArray) rfl rfl (yieldsIf_load_mid (by rfl) 92 (.tmp 98) rfl _ _ rfl (kv) _ (fun _ h=>h.1) hu2 rfl hi2k) hS ?_;refine tkA 2 (.pointer (some ⟨gO,33,none⟩)) hS ?_;try simp only[QJ,qj,qz,qv]
      refine tkA 3 (.slice (some ⟨g,og,none⟩) 12 cg) hS ?_;refine tkK 4 (.agg (D).toArray) rfl rfl (yieldsIf_load_mid (by rfl) 41 (.tmp 3) rfl _ _ rfl (D) _ (fun _ h=>h.2.2.1) hu3 rfl hi3p) hS ?_;refine tkA 6 (.pointer (some ⟨w.heap.size+1,35,none⟩)) hS ?_;try simp only[QJ,qj,qz,qv]
      refine tkA 7 (.slice A n c) hS ?_;try simp only[QJ,qj,qz,qv]
      refine rdH 5 (fun K' hK=>?_);go_simp;go_at_call 46;refine(HCt.1 _).mono ?_;rintro r wa ⟨va,rfl,hoa,hba⟩;obtain⟨Aa,ca,rfl,hra,-,-,-⟩:=hoa.shape' HCtl.1;have HBa:=qe (HBd.1.trans (hba.mono HBd.1.size));have HRa:=qe hra;have hza:=HBa.1.size;clear hoa hba hra;refine hK.out _ _ (HS22.1 _ HBa.1) (fun hS=>?_);clear hK K';try simp only[QJ,qj,qz,qv]
      have HOp:=qe (show Calls prog 45 #[.agg kv.toArray,.slice (some ⟨g,og,none⟩) 12 cg,.slice Aa 41 ca,.slice A n c] wa fun e w'=>∃v,e= .returned (.tuple #[v,.int .i64 (E:Int)])∧Own b8 w' wa.heap.size 5 v (j3 O.key O.nonce ctx p.sl)∧Below wa.heap.size wa w' by
       have h5:=qhZ wa O.key HKl.1 (some ⟨g,og,none⟩) Aa A 12 cg 41 ca n c wc.heap.size wa.heap.size w.heap.size O.nonce ctx p.sl ((HRo.1.more (by omega)).below HBa.1) hza HNl.1 HCap.1 HRa.1 (QI _) HCtl.1 ((HR.1.more hBm).below (HB.1.trans (HBa.1.mono HB.1.size))) (by omega) HN.1 hnc (by simp only[maxLen];omega);rw[qn,←HKv.1,←HEe.1]at h5;exact h5)
      refine rdH 8 (fun K' hK=>?_);go_simp;go_at_call 45;refine HOp.1.mono ?_;rintro r wb ⟨vb,rfl,hob,hbb⟩;have HBb:=qe (HBa.1.trans (hbb.mono hza));have HOb:=qe (hob.less (show w.heap.size≤wa.heap.size by omega));have hzb:=HBb.1.size;clear hob hbb;refine hK.out _ _ (HS22.1 _ HBb.1) (fun hS=>?_);clear hK K';refine tkA 9 (.tuple #[vb,.int .i64 (E:Int)]) hS ?_;refine tkA 10 vb hS ?_;try simp only[QJ,qj,qz,qv]
      refine tkA 11 (.int .i64 (E:Int)) hS ?_;refine tkA 12 vb hS ?_;refine tkA 13 (.int .i64 (E:Int)) hS ?_;try simp only[QJ,qj,qz,qv]
      refine wpAnyH_done (by kernel_rfl) ?_ _;refine Q4 ?_;clear hS;have HX:=qe (HX.1.below HBb.1 (by omega));have HP:=qe (HP.1.below HBb.1 (by omega));have HZ:=qe (HZ.1.below HBb.1 (by omega));have HbL:=qe (HbL.1.below HBb.1 hgLc);have HyA:=qe (HyA.1.below HBb.1 (QI _));have HB:=qe (HB.1.trans (HBb.1.mono HB.1.size));clear HbO HRo HS22 HCt HOp HRa HBa hi2k hi3p hu2 hu3
      by_cases hE0:E=0
      ·have hpl:yh x.m p=some (i,l.l):=qcL Hfi.1 (by
        unfold zT;rw[Hmi.1,Hft.1];show(e.ls.map RL.l)[f]?=some l.l;rw[Jn,Hl0.1];rfl)
       have hE0':jI x.m p=0:=by rw[HOE5.1];exact hE0
       have hoT:ue x.m p=j3 O.key O.nonce ctx p.sl:=by rw[qeo hpl hE0',←HOo.1,←HCx.1]
       have hoM:uf x.m p=⟨x.m.grp,zD x.m.es i f y.l,x.m.clr⟩:=by rw[qhN hpl hE0',Hft.1,Hyl.1]
       have hwi:=qhW wb x (HHx.1.below HB.1 (QI _)) (by rw[←HNx.1];exact hNl) i f e He.1 (HBnd.1 e (Zq He.1)).1 l Hl0.1 y HyA.1 (fun q hq=>by have:=(Hyf.1 q (.inl hq)).2;omega);rw[←HCe.1,←HLcy.1]at hwi;have HWi:=qe hwi;have HoT:=qe hoT;have HoM:=qe hoM;have HE0:=qe hE0';subst hE0;clear hwi hoT hoM hE0' hpl;obtain⟨-,d33,-,-,-⟩:=qZ.all5 (show qZ wb (w.heap.size+1) p.grp p.ep p.fr p.nu A n c from HP.1.cast HDe.1) HG.1
       rw[Hf.1]at d33;go_wp2_with (first
        |(refine wpList_load_mid rfl 34 (.tmp 2) rfl w.heap.size 0 rfl C _ HX.1.whole underlying34 rfl (by rw[HCl.1];exact qt) ?_)
        |(refine wpList_load_mid rfl 89 (.tmp 13) rfl gL 0 rfl Lc _ HbL.1.whole underlying89 rfl (by rw[HLc36.1];exact qT) ?_))
       refine HWi.1.mono ?_;rintro r w8 ⟨x',rfl,hm',hA',hf',hb8⟩;obtain⟨C',hC'⟩:∃C',C'=x'.cells:=⟨_,rfl⟩;have HC':=qe hC';have HCl':=qe (show C'.length=34 by rw[hC'];exact j8 hA'.glen);have HC1':=qe (show∀u∈C',u.oneCell'=true by rw[hC'];exact zI rfl);rw[←hC'];have HZ:=qe (HZ.1.below hb8 (by omega));have hz8:=hb8.size;have HB8:=qe (HB.1.trans (hb8.mono (by omega)));have HO8:=qe (HOb.1.below hb8 (QI _))
       have HM':=qe hm';have HA':=qe hA';have HF':=qe hf';clear hC' hm' hA' hf' hb8;go_wp2_with (refine qi rfl 34 (.tmp 5) (.tmp 119) rfl (w.heap.size+2) 0 rfl C' rfl 34 _ [] jd [] HZ.1 (by simp) rfl (by rw[HCl'.1];rfl) (by rw[HCl'.1];exact qt) HC1'.1 ?_;intro w9 hx9 hg9)
       have HX9:=qe (show Blk w9 (w.heap.size+2) 34 C' from hx9.cast (by simp));refine bodyPost_ret (v:= .tuple #[vb,.agg C'.toArray,.int .i64 0]) (zm (g:=w.heap.size+2) rfl _ _ _ _ _ _ _ rfl rfl rfl HX9.1 underlying34 rfl (by rw[HCl'.1];exact qt)) rfl ?_;have hx2:w.heap.size+2∉x'.foot:=fun hm=>by
        rcases HF'.1 _ hm with h|h|h
        ·have:=HHx.1.lt _ h;omega
        ·obtain⟨h1,-⟩:=Hyf.1 _ (.inl h)
         rcases h1 with h1|h1
         ·have:=HHx.1.lt _ h1;omega
         ·omega
        ·omega
       refine⟨vb,x',by rw[HC'.1,HE0.1];rfl,?_,by rw[HM'.1,HoM.1],HA'.1.grown hg9 hx2,fun q hq=>?_,HB8.1.grown hg9 HB8.1.size (fun q e=>by cases e;omega)⟩
       ·rw[HoT.1]
        exact HO8.1.kept hg9 (.inr (fun e=>HZ.1.not_row (by decide) HO8.1 e.symm))
       ·rcases HF'.1 q hq with h|h|h
        ·exact .inl h
        ·obtain⟨h1,-⟩:=Hyf.1 q (.inl h)
         exact h1.imp id (fun h=>by omega)
        ·exact .inr (by omega)
      ·have hEz:¬((E:Int)=0):=by omega
       have HE:=qe HOE5.1;go_upto_region 24 with fail
       refine wp_region_noPanic ?_;refine wp_region_held_drew (S:=fun W=>W.rangeAt w.heap.size 0 C) (by kernel_rfl) HX.1.drew.whole (fun hS=>?_);refine tkK 0 (.agg (C).toArray) rfl rfl (yieldsIf_load_mid (by rfl) 34 (.tmp 2) rfl _ _ rfl (C) _ (fun _ h=>h) underlying34 rfl (by rw[HCl.1];exact qt)) hS ?_;refine tkA 1 (.int .i64 (E:Int)) hS ?_;refine tkA 2 (.slice none 0 0) hS ?_;try simp only[QJ,qj,qz,qv]
       refine rdH 3 (fun K' hK=>?_);rw[if_pos (by rfl)];refine qo 34 (.tmp 5) (.tmp 111) rfl (w.heap.size+2) 0 rfl C rfl 34 _ [] jd [] HZ.1.drew (by simp) rfl (by rw[HCl.1];rfl) (by rw[HCl.1];exact qt) HC1.1 ?_;intro w9 hx9 hg9;have HX9:=qe (show Blk w9 (w.heap.size+2) 34 C from hx9.cast (by simp));have HB9:=qe (HB.1.drew.grown hg9 HB.1.drew.size (fun k e=>by cases e;omega))
       refine hK.out _ _ (HX.1.drew.grown hg9 (fun e=>by injection e with e;omega)).whole (fun hS=>?_);clear hK K' hx9 hg9;refine tkA 4 (.int .i64 (E:Int)) hS ?_;try simp only[QJ,qj,qz,qv]
       refine wpAnyH_done (by kernel_rfl) ?_ _;refine Q4 ?_;go_wp2_with fail
       refine bodyPost_ret (v:= .tuple #[.slice none 0 0,.agg C.toArray,.int .i64 (E:Int)]) (zm (g:=w.heap.size+2) rfl _ _ _ _ _ _ _ rfl rfl rfl HX9.1 underlying34 rfl (by rw[HCl.1];exact qt)) rfl ?_;refine⟨_,x,by rw[HCe.1,HE.1]<;>rfl,by rw[vp (by rw[HE.1];exact hE0)];exact Own.nil_ _ _ _ _,(zK (by rw[HE.1];exact hE0)).symm,HHx.1.below HB9.1 (QI _),fun k hk=> .inl hk,HB9.1⟩
     ·
      have hTz:¬((T:Int)=0):=by omega
      have HE:=qe (show jI x.m p=T by rw[HOE3.1,if_pos hT0]);go_upto_region 21 with fail
      refine wp_region_noPanic ?_;refine wp_region_held_drew (S:=fun W=>W.rangeAt w.heap.size 0 C) (by kernel_rfl) HX.1.drew.whole (fun hS=>?_);refine tkK 0 (.agg (C).toArray) rfl rfl (yieldsIf_load_mid (by rfl) 34 (.tmp 2) rfl _ _ rfl (C) _ (fun _ h=>h) underlying34 rfl (by rw[HCl.1];exact qt)) hS ?_;refine tkA 1 (.int .i64 (T:Int)) hS ?_;refine tkA 2 (.slice none 0 0) hS ?_;try simp only[QJ,qj,qz,qv]
      refine rdH 3 (fun K' hK=>?_);rw[if_pos (by rfl)];refine qo 34 (.tmp 5) (.tmp 95) rfl (w.heap.size+2) 0 rfl C rfl 34 _ [] jd [] HZ.1.drew (by simp) rfl (by rw[HCl.1];rfl) (by rw[HCl.1];exact qt) HC1.1 ?_;intro w9 hx9 hg9;have HX9:=qe (show Blk w9 (w.heap.size+2) 34 C from hx9.cast (by simp));have HB9:=qe (HB.1.drew.grown hg9 HB.1.drew.size (fun k e=>by cases e;omega))
      refine hK.out _ _ (HX.1.drew.grown hg9 (fun e=>by injection e with e;omega)).whole (fun hS=>?_);clear hK K' hx9 hg9;refine tkA 4 (.int .i64 (T:Int)) hS ?_;try simp only[QJ,qj,qz,qv]
      refine wpAnyH_done (by kernel_rfl) ?_ _;refine Q4 ?_;go_wp2_with fail
      refine bodyPost_ret (v:= .tuple #[.slice none 0 0,.agg C.toArray,.int .i64 (T:Int)]) (zm (g:=w.heap.size+2) rfl _ _ _ _ _ _ _ rfl rfl rfl HX9.1 underlying34 rfl (by rw[HCl.1];exact qt)) rfl ?_;refine⟨_,x,by rw[HCe.1,HE.1]<;>rfl,by rw[vp (by rw[HE.1];exact hT0)];exact Own.nil_ _ _ _ _,(zK (by rw[HE.1];exact hT0)).symm,HHx.1.below HB9.1 (QI _),fun k hk=> .inl hk,HB9.1⟩
   ·have HE:=qe (show jI x.m p=6 by
     rw[HOE.1];cases hfe:vw x.m.es p.ep with
     |none=>rfl
     |some i=>
      dsimp only;rw[if_pos (fun h=>hfo ⟨by rw[HSm.1,h,hgr];simp,i,hfe⟩)])
    have haV:aV= -1:=by
     rw[hfin];split
     ·rename_i h
      unfold uC;cases hfe:vw x.m.es p.ep with
      |none=>rfl
      |some i=>exact absurd ⟨h,i,hfe⟩ hfo
     ·rfl
    clear hfin hfo;subst haV;go_upto_region 15 with fail
    refine wp_region_noPanic ?_;refine wp_region_held_drew (S:=fun W=>W.rangeAt w.heap.size 0 C) (by kernel_rfl) HX.1.drew.whole (fun hS=>?_);refine tkK 0 (.agg (C).toArray) rfl rfl (yieldsIf_load_mid (by rfl) 34 (.tmp 2) rfl _ _ rfl (C) _ (fun _ h=>h) underlying34 rfl (by rw[HCl.1];exact qt)) hS ?_;refine tkA 1 (.slice none 0 0) hS ?_;try simp only[QJ,qj,qz,qv]
    refine rdH 2 (fun K' hK=>?_);rw[if_pos (by rfl)];refine qo 34 (.tmp 5) (.tmp 60) rfl (w.heap.size+2) 0 rfl C rfl 34 _ [] jd [] HZ.1.drew (by simp) rfl (by rw[HCl.1];rfl) (by rw[HCl.1];exact qt) HC1.1 ?_;intro w9 hx9 hg9;have HX9:=qe (show Blk w9 (w.heap.size+2) 34 C from hx9.cast (by simp));have HB9:=qe (HB.1.drew.grown hg9 HB.1.drew.size (fun k e=>by cases e;omega))
    refine hK.out _ _ (HX.1.drew.grown hg9 (fun e=>by injection e with e;omega)).whole (fun hS=>?_);clear hK K' hx9 hg9;refine tkA 3 (.int .i64 6) hS ?_;try simp only[QJ,qj,qz,qv]
    refine wpAnyH_done (by kernel_rfl) ?_ _;refine Q4 ?_;go_wp2_with fail
    refine bodyPost_ret (v:= .tuple #[.slice none 0 0,.agg C.toArray,.int .i64 6]) (zm (g:=w.heap.size+2) rfl _ _ _ _ _ _ _ rfl rfl rfl HX9.1 underlying34 rfl (by rw[HCl.1];exact qt)) rfl ?_;refine⟨_,x,by rw[HCe.1,HE.1]<;>rfl,by rw[vp (by rw[HE.1];decide)];exact Own.nil_ _ _ _ _,(zK (by rw[HE.1];decide)).symm,HHx.1.below HB9.1 (QI _),fun k hk=> .inl hk,HB9.1⟩
theorem qlw{w:World}{B1 B2:Nat}{A1 A2:Option Addr}{xs:List Int}{n:Nat}(c1 c2:Nat)(h1:Rd uZ w B1 A1 xs)(h2:Rd uZ w B2 A2 xs)(hB1:B1≤w.heap.size)(hB2:B2≤w.heap.size)(hn:xs.length=n)(hx:n≤1000):
 Calls prog 48 #[.slice A1 n c1,.slice A2 n c2] w fun e w'=>e= .returned (.bool true)∧Below w.heap.size w w':=by
 have HN:=qe hn;have H1:=qe h1;have H2:=qe h2;clear hn h1 h2;go_enter func48,ntmps48
 go_wp2_with fail
 go_loopw [13] (fun iv wr=>∃k:Nat,iv= .int .i64 (k:Int)∧k≤n∧Below w.heap.size w wr) (fun iv _=>n-(intOf iv).toNat)
 case atStart=>exact⟨0,rfl,Nat.zero_le _,QK _ _⟩
 case round=>
  obtain⟨k,rfl,hk,hb⟩:=hrel;by_cases hlt:k<n
  ·have hkl:k<xs.length:=by rw[HN.1];exact hlt
   obtain⟨b1,o1,rfl,hb1,d1⟩:=H1.1.at_ hkl;obtain⟨b2,o2,rfl,hb2,d2⟩:=H2.1.at_ hkl;obtain⟨y,hy⟩:∃y,y=xs[k]:=⟨_,rfl⟩;rw[←hy]at d1 d2;have d1:wr.cell? ⟨b1,o1+k,none⟩=some (.int .i64 y):=(hb.cell (p:=⟨b1,o1+k,none⟩) (by show b1<_;omega)).trans d1;have d2:wr.cell? ⟨b2,o2+k,none⟩=some (.int .i64 y):=(hb.cell (p:=⟨b2,o2+k,none⟩) (by show b2<_;omega)).trans d2;have hlt2:(k:Int)<(n:Int):=by omega
   have HB:=qe hb;clear hy hb;go_upto_region 6 with fail
   go_quiet (fail)
   go_wp2_with fail
   go_roundw
   case rel=>exact⟨k+1,by go_num,by omega,je HB.1 nq⟩
   case measure=>simp[intOf];omega
  ·obtain rfl:n=k:=by omega
   go_wp2_with fail
   go_ret;exact⟨rfl,hb⟩
def nxt(es:List EM):Int:=match jY es with
 |none=>0
 |some l=>l.place
theorem qna{es:List RE}{k:Nat}{e:RE}{y:RL}(hk:es[k]?=some e)(hy:e.ls[e.leaf]?=some y):nxt ((es.take (k+1)).map RE.m)=y.l.place:=by
 have hlt:=(JS.1 hk).1;have hl:((es.take (k+1)).map RE.m).length=k+1:=by rw[QN,QV];omega
 have hg:((es.take (k+1)).map RE.m)[k]?=some e.m:=by rw[Jn,List.getElem?_take_of_lt (by omega),hk];rfl
 have hs:jY ((es.take (k+1)).map RE.m)=some y.l:=by
  unfold jY vE zT;rw[hl,Nat.add_sub_cancel,hg];show(e.ls.map RL.l)[e.leaf]?=some y.l;rw[Jn,hy];rfl
 unfold nxt;rw[hs]
theorem qje{w:World}{base gB:Nat}{b:BX}{x:RX}(h:qI w base gB b)(hx:x.At w)(hm:x.m=b.m)(h4:b.es.length≤4):
 Calls prog 16 #[.pointer (some ⟨gB,0,none⟩),.agg x.cells.toArray] w fun e w'=>e= .returned (.bool true)∧Below w.heap.size w w':=by
 obtain⟨i0,hi0,hz0,hzz1,hzz2⟩:=info_parts qdn;obtain⟨C,hC⟩:∃C,C=x.cells:=⟨_,rfl⟩;obtain⟨m,hm0⟩:∃m,m=x.es.length:=⟨_,rfl⟩;have hml:x.es.length=b.es.length:=by
  have h1:=congrArg (fun q:BM=>q.es.length) hm;simpa[RX.m,BX.m]using h1
 have hm4:m≤4:=by omega
 obtain⟨w1,hw1⟩:∃w1,w1=w.alloc (.cells C.toArray 34):=⟨_,rfl⟩;obtain⟨w2,hw2⟩:∃w2,w2=w1.alloc (.cells #[] 3):=⟨_,rfl⟩;have hz1:w1.heap.size=w.heap.size+1:=by rw[hw1];simp
 have hz2:w2.heap.size=w.heap.size+2:=by rw[hw2,QQ];omega
 have HB2:=qe (show Below w.heap.size w w2 by rw[hw2,hw1];exact((QK _ w).alloc (QI _) _).alloc (by simp) _);have HX1:=qe (show Blk w2 w.heap.size 34 C by rw[hw2,hw1];exact(Blk.new w _ _).alloc _);have HO2:=qe (show Own uZ w2 (w.heap.size+1) 3 (.slice (some ⟨w.heap.size+1,0,none⟩) 0 0) [] by
  rw[hw2,←hz1];have:=Own.lit uZ w1 w1.heap.size 3 [] (by omega) (by simp[maxLen]);simpa using this)
 have c32:w1.cell? ⟨w.heap.size,32,none⟩=some (.slice x.A m x.c):=by
  rw[hw1,hm0];exact(Blk.new w 34 C).cell 32 (by rw[hC];exact jG hx.glen)
 have c322:w2.cell? ⟨w.heap.size,32,none⟩=some (.slice x.A m x.c):=HX1.1.cell 32 (by rw[hC,hm0];exact jG hx.glen);have HE:=qe (show∀k (hk:k<m),∃(b0 off b2 off2 c2:Nat) (e:RE) (y:RL),x.es[k]?=some e∧e.ls[e.leaf]?=some y∧x.A=some ⟨b0,off,none⟩∧b0<w.heap.size∧b2<w.heap.size∧e.leaf<e.ls.length∧e.ls.length≤32∧
  w.cell? ⟨b0,off+k*3,none⟩=some (.int .i64 e.no)∧w.cell? ⟨b0,off+k*3+1,none⟩=some (.int .i64 (e.leaf:Int))∧w.cell? ⟨b0,off+k*3+2,none⟩=some (.slice (some ⟨b2,off2,none⟩) e.ls.length c2)∧w.cell? ⟨b2,off2+e.leaf*36+32,none⟩=some (.int .i64 y.l.place)from fun k hk=>by
  have hkx:k<x.es.length:=by omega
  have hke:x.es[k]?=some x.es[k]:=QT hkx;have hem:x.es[k].m=b.es[k].m:=by
   have h1:=congrArg (fun q:BM=>q.es[k]?) hm;simp only[RX.m,BX.m,Jn,hke,QT (show k<b.es.length by omega),Option.map_some]at h1;injection h1
  have hlf:x.es[k].leaf=b.es[k].leaf:=congrArg EM.leaf hem;have hll:x.es[k].ls.length=b.es[k].xs.length:=by
   have h1:=congrArg (fun q:EM=>q.ls.length) hem;simpa[RE.m,EP.m]using h1
  obtain⟨n1,n2,-,-⟩:=h.bnd b.es[k] (Q5 _);have hyl:x.es[k].leaf<x.es[k].ls.length:=by omega
  have heA:=hx.each x.es[k] (Q5 _);obtain⟨b0,off,hA,hb0,hc0⟩:=RdV.elem hx.rows (fun y _=>RE.cells_len y) (by decide) hke;obtain⟨b2,off2,hA2,hb2,hc2⟩:=RdV.elem heA.rows (fun y hy=>jS (heA.each y hy).ok.len) (by decide) (QT hyl);rw[Jw 3 k]at hc0;rw[Jw 36]at hc2;refine⟨b0,off,b2,off2,x.es[k].c,x.es[k],x.es[k].ls[x.es[k].leaf],hke,QT hyl,hA,hb0,hb2,hyl,by omega,hc0 0 _ rfl,hc0 1 _ rfl,?_,?_⟩
  ·rw[←hA2];exact hc0 2 _ rfl
  ·exact hc2 32 _ (qb8 (heA.each _ (Q5 _)).ok.len))
 have HBx:=qe h;have HMm:=qe hm;have HW1:=qe hw1;have HW2:=qe hw2;have HH4:=qe h4;have HM0:=qe hm0;obtain⟨Ns,hNs⟩:∃Ns,Ns=x.es.map RE.no:=⟨_,rfl⟩;have HNs:=qe hNs;have hNl:Ns.length=m:=by rw[hNs,QN,hm0]
 have HNl:=qe hNl;rw[←hC];clear h hx hm h4 hC hw1 hw2 hml hm0 hNs hNl;go_enter func16,ntmps16
 go_upto_region 1 with fail
 rw[←HW1.1];go_upto_region 2 with fail
 rw[←HW2.1];clear c32;go_upto_region 4 with fail
 go_loopw [5,6,13] (fun lv nv iv wr=>∃k:Nat,iv= .int .i64 (k:Int)∧k≤m∧nv= .int .i64 (nxt ((x.es.take k).map RE.m))∧Own uZ wr (w.heap.size+1) 3 lv (Ns.take k)∧Below w.heap.size w wr∧w.heap.size+1≤wr.heap.size) (fun _ _ iv _=>m-(intOf iv).toNat)
 case atStart=>exact⟨0,rfl,Nat.zero_le _,rfl,HO2.1,HB2.1,by omega⟩
 case round=>
  obtain⟨k,rfl,hk,rfl,hown,hb,hzr⟩:=hrel;have HO:=qe hown;have HB:=qe hb;clear hown;by_cases hlt:k<m
  ·obtain⟨b0,off,b2,off2,c2,e,y,hke,hly,hA,hb0,hb2,hyl,hl32,a0,a1,a2,a3⟩:=HE.1 k hlt
   have d0:=(hb.cell (p:=⟨b0,off+k*3,none⟩) hb0).trans a0;have d1:=(hb.cell (p:=⟨b0,off+k*3+1,none⟩) hb0).trans a1;have d2:=(hb.cell (p:=⟨b0,off+k*3+2,none⟩) hb0).trans a2;have hlt2:(k:Int)<(m:Int):=by omega
   obtain⟨q,hq⟩:∃q,q=e.ls.length:=⟨_,rfl⟩;obtain⟨lf,hlf⟩:∃lf,lf=e.leaf:=⟨_,rfl⟩;obtain⟨no,hno⟩:∃no,no=e.no:=⟨_,rfl⟩;obtain⟨pl,hpl⟩:∃pl,pl=y.l.place:=⟨_,rfl⟩;rw[←hlf]at d1 a3 hyl;rw[←hq]at d2 hyl hl32;rw[←hno]at d0;rw[←hpl]at a3;have hyl2:(lf:Int)<(q:Int):=by omega
   have hA2:=hA;rw[hA];have HNo:=qe hno;have HPl:=qe hpl;have HKe:=qe hke;have HLy:=qe hly;have HA3:=qe a3;have hkl:(Ns.take k).length=k:=by rw[QV,HNl.1];omega
   have HKl:=qe hkl;clear a0 a1 a2 a3 hq hlf hno hpl hke hly hA hA2 hkl hb;go_upto_region 6 with fail
   have HP0:=qe (show Blk ((wr.alloc (.cells #[.int .i64 no,.int .i64 (lf:Int),.slice (some ⟨b2,off2,none⟩) q c2] 85)).alloc (.cells #[.int .i64 no] 3)) wr.heap.size 85 [.int .i64 no,.int .i64 (lf:Int),.slice (some ⟨b2,off2,none⟩) q c2]from(Blk.new wr 85 [.int .i64 no,.int .i64 (lf:Int),.slice (some ⟨b2,off2,none⟩) q c2]).alloc _);go_upto_region 7 with(at_builtin;refine qh rfl _ _ 70 rfl qca (w.heap.size+1) 3 i0 _ 8 underlying70 hi0 hz0 hzz1 hzz2 rfl _ (Ns.take k) rfl ((HO.1.alloc _).alloc _) (wr.heap.size+2) _ 1 1 [no] rfl rfl (by have:=Rd.new uZ (wr.alloc (Obj.cells #[Value.int IntKind.i64 no,Value.int IntKind.i64 (lf:Int),Value.slice (some {block:=b2,off:=off2}) q c2] 85)) 3 [no];rw[QQ]at this;exact this) (by rw[HKl.1];simp[maxLen];omega) (by rw[HKl.1];simp;omega) (by simp;omega) ?_;intro v7 w7 hown7 hg7 hbb7)
   have hrowne:=HP0.1.not_row (by decide) ((HO.1.alloc (.cells #[.int .i64 no,.int .i64 (lf:Int),.slice (some ⟨b2,off2,none⟩) q c2] 85)).alloc (.cells #[.int .i64 no] 3));have HP7:=qe (HP0.1.grown hg7.by_ hrowne);have HB7:=qe (hbb7 w.heap.size w (by omega) ((HB.1.alloc HB.1.size _).alloc (QX HB.1.size (by simp)) _));have HO7:=qe hown7;have hz7:w.heap.size+1≤w7.heap.size:=by
    have h1:=(hbb7 (w.heap.size+1) _ (QI _) (QK (w.heap.size+1) _)).size;simp only[QQ]at h1;omega
   have d1:=HP7.1.cell 1 rfl;have d2:=HP7.1.cell 2 rfl;have d3:=(HB7.1.cell (p:=⟨b2,off2+lf*36+32,none⟩) hb2).trans HA3.1;clear hown7 hg7 hbb7 hrowne;go_wp2_with fail
   go_roundw
   case rel=>
    refine⟨k+1,by go_num,by omega,?_,HO7.1.cast ?_,HB7.1,hz7⟩
    ·rw[qna HKe.1 HLy.1,HPl.1]
    ·have hg:Ns[k]?=some no:=by rw[HNs.1,Jn,HKe.1,HNo.1];rfl
     rw[List.take_add_one,hg];rfl
   case measure=>simp[intOf];omega
  ·obtain rfl:m=k:=by omega
   have hlt2:¬((m:Int)<(m:Int)):=by omega
   have e1:Ns.take m=Ns:=Js (by rw[HNl.1];exact QI _);have e2:nxt ((x.es.take m).map RE.m)=Qn b.m:=by
    rw[HM0.1,List.take_length];have h1:=congrArg Qn HMm.1;exact h1
   have e3:Ns=QF b.m:=by
    rw[HNs.1];have h1:=congrArg QF HMm.1;rw[←h1];unfold QF RX.m;rw[List.map_map];rfl
   rw[e2];have hO:=HO.1;rw[e1]at hO;obtain⟨A9,c9,rfl,hr9,-⟩:=hO.shape;rw[HNl.1];have HR9:=qe hr9;have HEp:=qe (qiK (HBx.1.below hb));have HBz:=qe (HBx.1.below hb);have HE3:=qe e3;have hm4i:(m:Int)≤4:=by omega
   clear e1 e2 e3 hO hr9 hb;go_wp2_with fail
   refine HEp.1.mono ?_;rintro e w8 ⟨v,rfl,ho8,hb8⟩;rw[←HE3.1]at ho8;obtain⟨A8,c8,rfl,hr8,-⟩:=ho8.shape;rw[HNl.1];have HIn:=qe (qlw (w:=w8) c8 c9 hr8 (HR9.1.below hb8) (QI _) hb8.size HNl.1 (by omega));have HB8:=qe (HB.1.trans (hb8.mono HB.1.size));have HBx8:=qe (HBz.1.below hb8);clear ho8 hr8 hb8;go_wp2_with fail
   refine HIn.1.mono ?_;rintro e w9 ⟨rfl,hb9⟩;have HNx:=qe (qhk (HBx8.1.below hb9));have HB9:=qe (HB8.1.trans (hb9.mono HB8.1.size));clear hb9;go_wp2_with fail
   refine HNx.1.mono ?_;rintro e w10 ⟨rfl,q,hq⟩;have HB10:=qe (HB9.1.trans ((qN hq).mono HB9.1.size));clear hq;go_wp2_with fail
   go_ret;exact⟨rfl,HB10.1⟩
end
end Go.Proofs.YtelgjaiknaalkaaGreatDoor
