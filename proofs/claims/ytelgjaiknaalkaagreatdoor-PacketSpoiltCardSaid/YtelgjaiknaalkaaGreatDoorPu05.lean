/- Lemmas. -/
import Derived.Test.YtelgjaiknaalkaaGreatDoorPu04
import Derived.Maps.OwnSet
import Derived.Maps.RangeWalk
import Derived.Maps.Ext
import Derived.Lib.SlMapFilter
import Derived.Laws.Externs
import Derived.MapKept
import Derived.Deep.LoopGhost
import Derived.Laws.IdiomRangeMap
open Go.Proofs.Tryz
open List renaming setIfInBounds_toArray → qj
open List renaming set_cons_zero → qz
open List renaming set_cons_succ → qv
open Go.IntWalk renaming i64_in → Jc
open List renaming length → JT, length_map → QN, mem_map → QW, mem_cons → Ja, set_append → JR, mem_append → QS, map_append → Q9, length_take → QV, map_cons → Jd, length_cons → Jr, map_nil → Jt, append_assoc → Jb, mem_singleton → Je, take_append_drop → JV, nodup_append → J9, length_append → QO, append_nil → Zb, flatMap_cons → JW, flatMap_append → JG, drop_eq_getElem_cons → ZA, getElem_mem → Q5
open Go.RowKit.Below renaming refl → QK
open Nat renaming le_refl → QI, le_trans → QX, lt_of_lt_of_le → Jq, mul_comm → Jw
open Go.Act renaming put → QJ
open Go.NoPanic renaming normal → Q4
open Prod renaming snd → Jp
set_option linter.unusedVariables false
set_option linter.unusedSimpArgs false
set_option maxRecDepth 100000
set_option maxHeartbeats 8000000
namespace Go.Proofs.YtelgjaiknaalkaaGreatDoor
section
open Go.RowKit
structure uE(w:World)(g o:Nat)(T:TypeId)(cs:List Value)(t:Bool)(h:Int)(s:BitVec 64):Prop where
 blk:Blk w g T cs
 e0:cs[o]?=some (.bool t)
 e1:cs[o+1]?=some (.int .i64 h)
 e2:cs[o+2]?=some (.int .u64 (bv s))
def Qx(cs:List Value)(o:Nat)(t:Bool)(h:Int)(s:BitVec 64):List Value:=((cs.set o (.bool t)).set (o+1) (.int .i64 h)).set (o+2) (.int .u64 (bv s))
theorem qb1{α:Type}(l:List α)(i:Nat)(v:α)(h:l[i]?=some v):l.set i v=l:=by
 obtain⟨hi,rfl⟩:=List.getElem?_eq_some_iff.1 h;exact List.set_getElem_self hi
theorem qdT{w w':World}{r:Option Nat}(h:w.grownBy w' r):w.grownBy w'.drew r:=⟨h.os,h.tape,h.output,h.size,h.block⟩
section
variable{w:World}{g o:Nat}{T:TypeId}{cs:List Value}{t:Bool}{h:Int}{s:BitVec 64}
theorem uE.cells(x:uE w g o T cs t h s):w.cell? ⟨g,o,none⟩=some (.bool t)∧w.cell? ⟨g,o+1,none⟩=some (.int .i64 h)∧w.cell? ⟨g,o+2,none⟩=some (.int .u64 (bv s))∧
 w.frozen? ⟨g,o,none⟩=false∧w.frozen? ⟨g,o+1,none⟩=false∧w.frozen? ⟨g,o+2,none⟩=false:=
 ⟨x.blk.cell _ x.e0,x.blk.cell _ x.e1,x.blk.cell _ x.e2,x.blk.frozen _,x.blk.frozen _,x.blk.frozen _⟩
theorem uE.same2(x:uE w g o T cs t h s)(t':Bool)(h':Int):Qx cs o t' h' s=(cs.set o (.bool t')).set (o+1) (.int .i64 h'):=
 qb1 _ _ _ (by rw[List.getElem?_set_ne (by omega),List.getElem?_set_ne (by omega)];exact x.e2)
theorem uE.same0(x:uE w g o T cs t h s)(h':Int)(s':BitVec 64):Qx cs o t h' s'=(cs.set (o+2) (.int .u64 (bv s'))).set (o+1) (.int .i64 h'):=by
 unfold Qx;rw[qb1 _ _ _ x.e0,List.set_comm _ _ (by omega)]
theorem uE.same01(x:uE w g o T cs t h s)(s':BitVec 64):Qx cs o t h s'=cs.set (o+2) (.int .u64 (bv s')):=by
 unfold Qx;rw[qb1 _ _ _ x.e0,qb1 _ _ _ x.e1]
end
theorem uG(g o:Nat)(T:TypeId)(cs:List Value)(t:Bool)(h:Int)(s:BitVec 64)(n:Int)(w:World)(hw:uE w g o T cs t h s)(hh:t=true→0≤h∧h<4294967295):
 Calls prog 81 #[.pointer (some ⟨g,o,none⟩),.int .i64 n] w fun e w'=>e= .returned (zG (jb t h s n))∧w=w':=by
 obtain⟨c0,c1,c2,-,-,-⟩:=hw.cells;by_cases h1:n<0
 ·have e:jb t h s n=8:=by unfold jb;rw[if_pos (.inl h1)]
  rw[e];clear hh;go_enter func81,ntmps81
  go_wp2
  go_ret;exact⟨rfl,rfl⟩
 by_cases h2:4294967295≤n
 ·have e:jb t h s n=8:=by unfold jb;rw[if_pos (.inr h2)]
  rw[e];clear hh;have h1':decide (n<0)=false:=by simpa using h1
  go_enter func81,ntmps81
  go_wp2
  go_ret;exact⟨rfl,rfl⟩
 have h1':decide (n<0)=false:=by simpa using h1
 have h2':decide (4294967295≤n)=false:=by simpa using h2
 have e0:jb t h s n=if t=false∨h<n then 0 else if n=h then 7 else if 64<h-n then 11 else if s.getLsbD (h-n-1).toNat then 7 else 0:=by unfold jb;rw[if_neg (by omega)]
 cases t with
 |false=>
  rw[e0,if_pos (.inl rfl)];clear e0 hh;go_enter func81,ntmps81
  go_wp2
  go_ret;exact⟨rfl,rfl⟩
 |true=>
  obtain⟨hh0,hh1⟩:=hh rfl;by_cases h3:h<n
  ·rw[e0,if_pos (.inr h3)]
   clear e0;go_enter func81,ntmps81
   go_wp2
   go_ret;exact⟨rfl,rfl⟩
  rw[if_neg (by simp;omega)]at e0;have h3':decide (h<n)=false:=by simpa using h3
  by_cases h4:n=h
  ·rw[e0,if_pos h4]
   clear e0;subst h4;go_enter func81,ntmps81
   go_wp2
   go_ret;exact⟨rfl,rfl⟩
  rw[if_neg h4]at e0;have h4':(n==h)=false:=by simpa using h4
  by_cases h5:64<h-n
  ·rw[e0,if_pos h5]
   clear e0;go_enter func81,ntmps81
   go_wp2
   go_ret;exact⟨rfl,rfl⟩
  rw[if_neg h5]at e0;obtain⟨k,hk⟩:∃k:Nat,h-n-1=(k:Int):=⟨(h-n-1).toNat,by omega⟩;have hk2:(h-n-1).toNat=k:=by omega
  rw[hk2]at e0;have hb:=qon s k;have h5':decide (64<h-n)=false:=by simpa using h5
  rw[e0];have b1:0≤n:=by omega
  have b2:n<h:=by omega
  clear e0 hk2 h1 h2 h3 h4 h5;cases hbit:s.getLsbD k with
  |true=>
   rw[hbit]at hb;simp only[if_true];go_enter func81,ntmps81
   go_wp2
   go_ret;exact⟨rfl,rfl⟩
  |false=>
   rw[hbit]at hb;simp only[Bool.false_eq_true,if_false];go_enter func81,ntmps81
   go_wp2
   go_ret;exact⟨rfl,rfl⟩
theorem qma(g o:Nat)(T:TypeId)(cs:List Value)(t:Bool)(h:Int)(s:BitVec 64)(n:Int)(w:World)(hw:uE w g o T cs t h s)(hh:t=true→0≤h∧h<4294967295):
 Calls prog 82 #[.pointer (some ⟨g,o,none⟩),.int .i64 n] w fun e w'=>e= .returned (zG (jb t h s n))∧
  (jb t h s n≠0→w=w')∧(jb t h s n=0→Blk w' g T (Qx cs o (js t h s n).1 (js t h s n).2.1 (js t h s n).2.2)∧w.grownBy w' (some g)):=by
 have Hw:=qe hw;by_cases h0:jb t h s n=0
 ·have hr:(0≤n∧n<4294967295)∧(t=true→n≠h∧h-n≤64):=by
   unfold jb at h0;split at h0
   ·cases h0
   ·rename_i h1
    refine⟨by omega,?_⟩;rintro rfl;split at h0
    ·rename_i h2
     have:h<n:=by simpa using h2
     omega
    ·split at h0
     ·cases h0
     ·split at h0
      ·cases h0
      ·omega
  obtain⟨c0,c1,c2,f0,f1,f2⟩:=hw.cells;cases t with
  |false=>
   have H0:=qe h0;have Hc:=qe (uG g o T cs false h s n w Hw.1 hh);clear h0 hh hr;go_enter func82,ntmps82
   go_wp2_with (go_at_call 81;refine Hc.1.mono ?_;rintro e w' ⟨rfl,rfl⟩;rw[H0.1,qW])
   go_ret;refine⟨by rw[H0.1];rfl,fun hn=>absurd H0.1 hn,fun _=>?_⟩;exact⟨((Hw.1.blk.set_ o (.bool true)).set_ (o+1) (.int .i64 n)).cast (by show _=Qx cs o true n s;exact(Hw.1.same2 _ _).symm),qp (qM _ _ _ _) (qM _ _ _ _) (fun q e=> .inl e)⟩
  |true=>
   obtain⟨⟨b0,b1⟩,hr2⟩:=hr;obtain⟨b2,b3⟩:=hr2 rfl;obtain⟨b4,b5⟩:=hh rfl;have H0:=qe h0;have Hc:=qe (uG g o T cs true h s n w Hw.1 hh);clear h0 hh hr2;by_cases hlt:n<h
   ·obtain⟨k,hk⟩:∃k:Nat,h-n-1=(k:Int):=⟨(h-n-1).toNat,by omega⟩
    have e:js true h s n=(true,h,s|||1#64<<<k):=by
     unfold js;rw[if_neg (by simp),if_pos hlt,show(h-n-1).toNat=k from by omega]
    rw[e];have hw1:IntKind.i64.wrap (h-n)=h-n:=Jc _ (by omega);have hw2:IntKind.i64.wrap (h-n-1)=(k:Int):=by rw[←hk];exact Jc _ (by omega)
    clear hk;clear e b2;go_enter func82,ntmps82
    go_wp2_with (go_at_call 81;refine Hc.1.mono ?_;rintro e w' ⟨rfl,rfl⟩;rw[H0.1,qW])
    go_still_tail 15,(by kernel_rfl)
    go_wp2
    go_ret;exact⟨by rw[H0.1];rfl,fun hn=>absurd H0.1 hn,fun _=>⟨((Hw.1.blk.set_ (o+2) _).cast (Hw.1.same01 _).symm).drew,qdT (qM _ _ _ _)⟩⟩
   ·obtain⟨k,hk⟩:∃k:Nat,n-h-1=(k:Int):=⟨(n-h-1).toNat,by omega⟩
    have hk1:n-h=((k+1:Nat):Int):=by omega
    have e:js true h s n=(true,n,s<<<(k+1)|||1#64<<<k):=by
     unfold js;rw[if_neg (by simp),if_neg hlt,show(n-h-1).toNat=k from by omega,show(n-h).toNat=k+1 from by omega]
    rw[e];have hw1:IntKind.i64.wrap (n-h)=((k+1:Nat):Int):=by rw[←hk1];exact Jc _ (by omega)
    have hw2:IntKind.i64.wrap (((k+1:Nat):Int)-1)=(k:Int):=by rw[Jc _ (by omega)];omega
    have hlt':decide (n<h)=false:=by simpa using hlt
    generalize hK:k+1=K at hw1 hw2 hk1 ⊢;clear e b2 hk hlt;go_enter func82,ntmps82
    go_wp2_with (go_at_call 81;refine Hc.1.mono ?_;rintro e w' ⟨rfl,rfl⟩;rw[H0.1,qW])
    go_still_tail 13,(by kernel_rfl)
    go_wp2
    go_ret;exact⟨by rw[H0.1];rfl,fun hn=>absurd H0.1 hn,fun _=>⟨(((Hw.1.blk.set_ (o+2) _).set_ (o+1) (.int .i64 n)).cast (Hw.1.same0 _ _).symm).drew,qdT (qp (qM _ _ _ _) (qM _ _ _ _) (fun q e=> .inl e))⟩⟩
 ·have H0:=qe h0
  have hne:=jO h0;have Hne:=qe hne;have Hc:=qe (uG g o T cs t h s n w hw hh);clear h0 hh hw hne;go_enter func82,ntmps82
  go_wp2_with (go_at_call 81;refine Hc.1.mono ?_;rintro e w' ⟨rfl,rfl⟩;rw[Hne.1])
  go_ret;exact⟨by rw[Hne.1];rfl,fun _=>rfl,fun hn=>absurd hn H0.1⟩
theorem qmb(g o:Nat)(T:TypeId)(cs:List Value)(t:Bool)(h:Int)(s:BitVec 64)(w:World)(hw:uE w g o T cs t h s):
 Calls prog 101 #[.pointer (some ⟨g,o,none⟩)] w fun e w'=>e= .returned (.int .i64 (if t then h else-1))∧w=w':=by
 obtain⟨c0,c1,-,-,-,-⟩:=hw.cells;cases t<;>
 ·go_enter func101,ntmps101
  go_wp2
  go_ret;exact⟨rfl,rfl⟩
end
section
open Go.RowKit Go.Maps
theorem kC:Keyed prog 3:=int_keyed underlying3
def Qm:Value→Bool
 | .agg cs=>cs.size==34&&cs.all (·.oneCell')
 |_=>false
def yL(v:Value):Option (DataW Value×List MemPlace):=if Qm v then some (.held v,[])else none
theorem qjA{v:Value}(h:Qm v=true):yL v=some (.held v,[]):=if_pos h
theorem uN{v:Value}{y:DataW Value×List MemPlace}(h:yL v=some y):Qm v=true∧y=(.held v,[]):=by
 unfold yL at h;split at h
 ·cases h;exact⟨by assumption,rfl⟩
 ·cases h
theorem qe0{v:Value}(h:Qm v=true):∃cs:List Value,v= .agg cs.toArray∧cs.length=34∧∀u∈cs,u.oneCell'=true:=by
 unfold Qm at h;split at h
 ·rename_i cs
  simp only[Bool.and_eq_true,beq_iff_eq]at h;refine⟨cs.toList,by simp,by simpa using h.1,fun u hu=>?_⟩;have:=h.2;rw[←Array.all_toList]at this;exact List.all_eq_true.1 this u hu
 ·cases h
theorem qgN{cs:List Value}(hl:cs.length=34)(h1:∀u∈cs,u.oneCell'=true):Qm (.agg cs.toArray)=true:=by
 unfold Qm;simp only[Bool.and_eq_true,beq_iff_eq];exact⟨by simpa using hl,by rw[←Array.all_toList];exact List.all_eq_true.2 h1⟩
def kP(l:List (Int×Value)):DataW Value:= .map (l.map fun p=>(.int .i64 p.1,.held p.2))
def qmc(l:List (Int×Value)):Prop:=l.Pairwise fun a b=>a.1<b.1
def zu(w:World)(g:Nat)(l:List (Int×Value)):Prop:=w.ownsMap prog 3 yL g l.length (kP l)
section
variable{w w':World}{g n:Nat}{l:List (Int×Value)}
theorem zu.of(h:w.ownsMap prog 3 yL g n (kP l)):zu w g l:=by
 obtain⟨es,clock,hb,F,hs,hD⟩:=h;refine⟨es,clock,hb,F,?_,hD⟩;unfold kP at hD;injection hD with hD;have:=congrArg JT hD;rw[QN,length_sorted]at this;simp at this;omega
theorem zu.lt(h:zu w g l):g<w.heap.size:=World.ownsMap.lt h
theorem zu.kept{row:Option Nat}(h:zu w g l)(hg:w.grownBy w' row)(hne:some g≠row):zu w' g l:=World.ownsMap.kept h hg hne
theorem zu.alloc(h:zu w g l)(o:Obj):zu (w.alloc o) g l:=World.ownsMap.alloc h o
theorem zu.drew(h:zu w g l):zu w.drew g l:=h
theorem zu.at_(h:zu w g l)(hb:w'.heap[g]?=w.heap[g]?):zu w' g l:=by
 obtain⟨es,clock,hb0,F,hs,hD⟩:=h;exact⟨es,clock,hb.trans hb0,F,hs,hD⟩
theorem zu.below{B:Nat}(h:zu w g l)(hb:Below B w w')(hg:g<B):zu w' g l:=h.at_ (hb.block g hg)
theorem zu.new(w:World):zu (w.alloc (.map #[] 0)) w.heap.size []:=World.ownsMap_made w _ _ _
theorem zu.obj(h:zu w g l):∃es clock,w.heap[g]?=some (.map es clock):=by
 obtain⟨es,clock,hb,-⟩:=h;exact⟨es,clock,hb⟩
theorem zu.not_cells(h:zu w g l){b:Nat}{cs:Array Value}{T:TypeId}{fr:Nat×Nat}(hb:w.heap[b]?=some (.cells cs T fr)):g≠b:=by
 intro e;subst e;obtain⟨es,clock,h1⟩:=h.obj;rw[h1]at hb;cases hb
end
theorem qau(a b:Int):(Lit.int .i64 a).sameKey (.int .i64 b)=decide (a=b):=by simp[Lit.sameKey]
theorem qb2(l:List (Int×Value))(k:Int):Maps.has (kP l) (.int .i64 k)=l.any fun p=>decide (p.1=k):=by
 unfold kP;rw[Maps.has_eq,List.any_map]
 congr 1;funext p
 exact qau _ _
theorem qc0(l:List (Int×Value))(k:Int):(l.map fun p=>((Lit.int .i64 p.1:Lit),(DataW.held p.2:DataW Value))).filter (fun p=>!p.1.sameKey (.int .i64 k))=(l.filter fun p=>!decide (p.1=k)).map fun p=>(.int .i64 p.1,.held p.2):=by
 rw[List.filter_map]
 congr 2
 funext p;show(!(Lit.int .i64 p.1).sameKey (.int .i64 k))=_;rw[qau]
theorem qmd(l:List (Int×Value))(k:Int):(kP l).del (.int .i64 k)=kP (l.filter fun p=>!decide (p.1=k)):=by
 unfold kP DataW.del;simp only[qc0]
theorem qc1{H:Type}(x:Lit×DataW H):∀(l:List (Lit×DataW H)),(∀y∈l,x.1.before y.1=false)→DataW.insert x l=l++ [x]
 | [],_=>rfl
 |y::r,h=>by
  unfold DataW.insert;rw[if_neg (by rw[h y (by simp)];decide),qc1 x r (fun z hz=>h z (by simp[hz]))];rfl
theorem qme(l:List (Int×Value))(k:Int)(v:Value)(h:∀p∈l,p.1<k):(kP l).put (.int .i64 k) (.held v)=kP (l++ [(k,v)]):=by
 unfold kP DataW.put;have e:l.filter (fun p=>!decide (p.1=k))=l:=List.filter_eq_self.2 (fun p hp=>by have:=h p hp;simp;omega);simp only[qc0];rw[e,qc1]
 ·simp
 ·intro y hy
  obtain⟨p,hp,rfl⟩:=QW.1 hy;have:=h p hp;simp[Lit.before];omega
theorem qnz(l:List (Int×Value))(k:Int)(v:Value)(hr:qmc l)(h:(k,v)∈l)(zd:DataW Value):(kP l).atKey (.int .i64 k) zd= .held v:=by
 unfold kP DataW.atKey;simp only[List.find?_map]
 induction l with
 |nil=>cases h
 |cons p r ih=>
  obtain⟨h1,h2⟩:=List.pairwise_cons.1 hr;rw[List.find?_cons];simp only[Function.comp,qau];rcases Ja.1 h with e|h
  ·subst e;simp
  ·have:¬p.1=k:=by have:=h1 _ h;simp at this;omega
   simp only[this,decide_false];exact ih h2 h
theorem qcx(l:List (Int×Value))(k:Int)(h:∀p∈l,p.1≠k)(zd:DataW Value):(kP l).atKey (.int .i64 k) zd=zd:=by
 unfold kP DataW.atKey;simp only[List.find?_map];have:l.find? ((fun p:Lit×DataW Value=>p.1.sameKey (.int .i64 k))∘fun p=>(.int .i64 p.1,.held p.2))=none:=by
  rw[List.find?_eq_none];intro p hp;simp only[Function.comp,qau];have:=h p hp;simp[this]
 rw[this];rfl
theorem qmf{a:Int}(h1: -9223372036854775808≤a)(h2:a<9223372036854775808):keyOf prog 3 (.int .i64 a)=some (.int .i64 a):=keyOf_int_mk underlying3 (WalkArith.wf_i64 (by omega))
end
section
open Go.RowKit
def jf(t:Bool)(h:Int)(s:BitVec 64)(link:qf)(place:Int)(m:Value):List Value:= .bool t:: .int .i64 h:: .int .u64 (bv s)::(link.map b8++ [.int .i64 place,m])
theorem kD(t:Bool)(h:Int)(s:BitVec 64)(link:qf)(place:Int)(m:Value)(hl:link.length=32):(jf t h s link place m).length=37:=by simp[jf,hl]
theorem qa2:(prog.info? 130).map (·.size)=some 37:=by kernel_rfl
section
variable{t:Bool}{h:Int}{s:BitVec 64}{link:qf}{place:Int}{m:Value}
theorem qiv(hl:link.length=32):((jf t h s link place m).drop 3).take 32=link.map b8:=by
 unfold jf;simp[List.take_append,hl]
theorem zR(hl:link.length=32):(jf t h s link place m)[35]?=some (.int .i64 place):=by
 unfold jf;simp[List.getElem?_append,hl]
theorem vC(hl:link.length=32):(jf t h s link place m)[36]?=some m:=by
 unfold jf;simp[List.getElem?_append,hl]
theorem qc2(hl:link.length=32)(p:Int):(jf t h s link place m).set 35 (.int .i64 p)=jf t h s link p m:=by
 unfold jf;simp[JR,hl]
theorem qgO(hl:link.length=32)(m':Value):(jf t h s link place m).set 36 m'=jf t h s link place m':=by
 unfold jf;simp[JR,hl]
theorem qdU(t':Bool)(h':Int)(s':BitVec 64):Qx (jf t h s link place m) 0 t' h' s'=jf t' h' s' link place m:=by
 unfold Qx jf;simp
theorem qgP:jf t h s link place m=[.bool t,.int .i64 h,.int .u64 (bv s)]++(link.map b8++ [.int .i64 place,m]):=rfl
theorem qcy(hm:m.oneCell'=true):∀u∈jf t h s link place m,u.oneCell'=true:=by
 intro u hu;unfold jf at hu;simp only[Ja,QS,List.not_mem_nil,or_false]at hu;rcases hu with rfl|rfl|rfl|hu|rfl|rfl
 ·rfl
 ·rfl
 ·rfl
 ·obtain⟨x,-,rfl⟩:=QW.1 hu;exact qH x
 ·rfl
 ·exact hm
theorem uE.of_line{w:World}{g:Nat}(hB:Blk w g 130 (jf t h s link place m)):uE w g 0 130 (jf t h s link place m) t h s:=⟨hB,rfl,rfl,rfl⟩
end
end
section
open Go.RowKit Go.Maps
theorem qfN{P:Program}(w:World)(d:Nat)(t k e:TypeId)(p:Option Nat)(h:P.underlying t=some (.map k e)):(Op.equalIn (d+1) t (.map p) (.map none)).run P w= .ok p.isNone w:=by
 cases p<;>simp[Op.equalIn,run_underlying h]
theorem qiw{P:Program}(w:World)(t k e:TypeId)(p:Option Nat)(h:P.underlying t=some (.map k e)):(binOp .eql t (.map p) (.map none)).run P w= .ok (.bool p.isNone) w:=by
 simp only[binOp];simp[show Op.equal t (.map p) (.map none)=Op.equalIn (9999+1) t (.map p) (.map none)from rfl,qfN w 9999 t k e p h]
theorem qdV{P:Program}(w:World)(t xT k e:TypeId)(v:Value)(h:P.underlying t=some (.map k e)):(Instr.typeAssert (.iface t v) xT t false).run P w= .ok v w:=by
 simp[Instr.typeAssert,run_underlying h,go_sem,Result.andThen]
theorem qix{P:Program}(w:World){r:Nat}{es:Array MapEntry}{clock:Nat}(t:TypeId)(hb:w.heap[r]?=some (.map es clock)):
 (Extern.MapsClone.clone #[.iface t (.map (some r))]).run P w= .ok (.iface t (.map (some w.heap.size))) (w.alloc (.map es clock)):=by
 have e:Extern.MapsClone.clone #[.iface t (.map (some r))]=(getObj r>>=fun o=>match o with
  | .map entries clock=>(newObj (.map entries clock)>>=fun n=>pure (.iface t (.map (some n))))
  |_=>stuck "maps.clone: a map expected"):=rfl
 rw[e];simp[MapKept.run_getObj_map hb,Result.andThen,go_sem]
theorem qiy(w:World)(b:Nat)(l:List (Int×Value))(hm:zu w b l):
 Calls prog 97 #[.map (some b)] w fun e w'=>e= .returned (.map (some w.heap.size))∧zu w' w.heap.size l∧Below w.heap.size w w':=by
 obtain⟨es,clock,hb,F,hs,hD⟩:=hm;have hq:=fun w=>qiw (P:=prog) w 128 _ _ (some b) underlying128
 go_enter func97,ntmps97
 go_wp2
 rw[run_callFunc_extern func117 (by kernel_rfl) (by kernel_rfl) (by kernel_rfl) (e:=Extern.MapsClone.clone) (by kernel_rfl),qix w 128 hb];simp only[Result.andThen];rw[Oper.upon_value]
 go_wp2
 rw[qdV _ 128 20 _ _ _ underlying128];simp only[Result.andThen];rw[Oper.upon_value]
 go_wp2
 go_ret;exact⟨rfl,⟨es,clock,heap_alloc_new w _,F,hs,hD⟩,(QK _ w).alloc (QI _) _⟩
def qn8(lim:Int)(kl:Lit)(_:DataW Value):Bool:=
 match kl with
 | .int _ a=>decide (a<lim)
 |_=>false
theorem qmg(l:List (Int×Value))(lim:Int):Lib.deleteFuncD (qn8 lim) (kP l)=kP (l.filter fun p=>!decide (p.1<lim)):=by
 unfold Lib.deleteFuncD kP;simp only[List.filter_map]
 congr 2
theorem qgQ(lim:Int)(f:Nat)(cb:Array Value)(b:Nat)(l:List (Int×Value))(w:World)(hm:zu w b l)
 (eg:∀args w,(callFunc f args).run prog w= .ok (.enter f args) w)
 (hdel:∀(W:World) (x:Int) (cs:List Value),w.grownBy W (some b)→Calls prog f (#[.int .i64 x,.agg cs.toArray]++cb) W fun e w'=>e= .returned (.bool (decide (x<lim)))∧W.grownBy w' none):
 Calls prog 99 #[.map (some b),.func (.func f) #[] cb] w fun e w'=>e= .returned (.tuple #[])∧zu w' b (l.filter fun p=>!decide (p.1<lim))∧w.grownBy w' (some b):=by
 obtain⟨n,hn⟩:∃n,n=l.length:=⟨_,rfl⟩;have hown:w.ownsMap prog 3 yL b n (kP l):=by rw[hn];exact hm
 have hap:(l.map fun p=>((Lit.int .i64 p.1:Lit),(DataW.held p.2:DataW Value))).Pairwise (fun p q=>p.1≠q.1):=by
  obtain⟨es0,he,h1,-⟩:=hown.entries kC;unfold kP at he;injection he with he;rw[he];exact h1
 have hkeys:∀p∈ (l.map fun p=>((Lit.int .i64 p.1:Lit),(DataW.held p.2:DataW Value))),WideAt.IsKeyLit p.1:=by
  obtain⟨es0,he,-,h1⟩:=hown.entries kC;unfold kP at he;injection he with he;rw[he];exact h1
 obtain⟨es0,he0⟩:∃es0,es0=l.map fun p=>((Lit.int .i64 p.1:Lit),(DataW.held p.2:DataW Value)):=⟨_,rfl⟩
 have hD:kP l= .map es0:=by rw[he0];rfl
 have HEnd:=qe (qmg l lim);rw[←he0]at hap hkeys;rw[hD]at hown HEnd;have HD:=qe hdel;clear hdel hm hn he0 hD;go_enter func99,ntmps99
 go_wp2_with (first
  |(at_range;refine wpList_range_own _ rfl _ 128 rfl 3 94 kC underlying128 yL b n _ rfl hown ?_;intro w0 hrg0 hg0 hs0))
 go_frame
 go_loopw [8] (fun _ wr=>∃(left:Lit→Bool) (cnt:Nat),wr.ranges prog 3 yL b w.heap.size n (Fk (qn8 lim) es0 left) left cnt∧w.grownBy wr (some b)) (fun _ wr=>wr.rangeLeft b w.heap.size)
 case atStart=>exact⟨_,_,by rw[Fk_start hkeys];exact hrg0,hg0.but _⟩
 case round=>
  obtain⟨left,cnt,hrg,hgw⟩:=hrel;go_wp2_with (first
   |(at_next;refine wpList_next_ranges _ rfl _ rfl 3 kC yL (Value.int .i64) (fun cs:List Value=>Value.agg cs.toArray) (fun key kl hk=>by obtain⟨x,rfl,_⟩:=keyOf_int_inv underlying3 hk;exact⟨x,rfl⟩) (fun v y hv=>by obtain⟨cs,rfl,-⟩:=qe0 (uN hv).1;exact⟨cs,rfl⟩) b w.heap.size n _ _ _ rfl hrg ?_ ?_))
  ·intro _ hl0
   go_wp2_with fail
   go_end0
   refine⟨rfl,?_,hgw⟩;have h2:=hrg.owns;rw[Fk_end hl0,HEnd.1]at h2;exact zu.of h2
  ·intro x cs kl yd yp w1 cnt1 hkey hlx hv hat hrg1 hlt hg1 hs1 hen
   have hgw1:=hgw.andThen hg1 (fun j hj=>by cases hj;exact Or.inl (QI _));obtain⟨h34,he⟩:=uN hv;injection he with he1 he2;subst he1 he2;obtain⟨cs',e1,hcl,hc1⟩:=qe0 h34;obtain rfl:cs=cs':=by injection e1 with e1;simpa using e1
   obtain⟨x',e2,rfl,hwx⟩:=keyOf_int_inv underlying3 hkey;injection e2 with _ e2;subst e2;have HZ:=qe (show Blk (w1.alloc (.cells qg.toArray 94)) wr.heap.size 94 qg by rw[←hs1];exact Blk.new _ _ _);go_upto_region 3 with(refine qi rfl 94 (.tmp 5) (.tmp 12) rfl wr.heap.size 0 rfl cs rfl 94 _ [] qg [] HZ.1 (by simp) rfl (by rw[hcl];rfl) (by rw[qA,hcl]) hc1 ?_;intro w2 hx2 hg2)
   have HX2:=qe (show Blk w2 wr.heap.size 94 cs from hx2.cast (by simp));have hgn:w1.grownBy w2 none:=by
    have ha:=World.grownBy_alloc w1 (.cells qg.toArray 94) none;exact⟨hg2.os.trans ha.os,hg2.tape.trans ha.tape,hg2.output.trans ha.output,QX ha.size hg2.size,fun k hk _=>(hg2.block k (by simp;omega) (fun e=>by injection e with e;omega)).trans (ha.block k hk (by simp))⟩
   have hrg2:=hrg1.kept hgn (by simp) (by simp);have hgw2:=hgw1.andThen hgn (fun j hj=>by cases hj);have hc:=HD.1 w2 x cs hgw2;clear hx2 hg2 HZ;cases hp:decide (x<lim)<;>rw[hp]at hc
   ·go_wp2_with (first
     |(refine wpList_load_mid rfl 94 (.tmp 5) rfl wr.heap.size 0 rfl cs _ HX2.1.whole underlying94 rfl (by rw[qA,hcl]) ?_)
     |(go_at_fn f;refine hc.mono ?_;rintro e w3 ⟨rfl,hg3⟩))
    have hrg3:=hrg2.kept hg3 (by simp) (by simp);go_roundw
    case rel=>exact⟨_,cnt1,by rw[←Fk_stays hap (kC.key hkey) hlx hp hat];exact hrg3,hgw2.andThen hg3 (fun j hj=>by cases hj)⟩
    case measure=>rw[hrg3.left_eq,hrg.left_eq];exact hlt
   ·go_wp2_with (first
     |(refine wpList_load_mid rfl 94 (.tmp 5) rfl wr.heap.size 0 rfl cs _ HX2.1.whole underlying94 rfl (by rw[qA,hcl]) ?_)
     |(go_at_fn f;refine hc.mono ?_;rintro e w3 ⟨rfl,hg3⟩;have hrg3:=hrg2.kept hg3 (by simp) (by simp))
     |(at_delete;refine wpList_delete_ranges _ rfl _ _ 128 3 rfl 94 kC underlying128 yL b w.heap.size n _ _ _ rfl hrg3 _ _ rfl hkey ?_;intro w4 cnt4 hrg4 hle hturn;go_frame))
    rw[strike_twice]at hrg4;go_roundw
    case rel=>exact⟨_,cnt4,by rw[←Fk_struck hap (kC.key hkey) hlx hp hat];exact hrg4,(hgw2.andThen hg3 (fun j hj=>by cases hj)).andThen hturn.grown (fun j hj=>by cases hj;exact Or.inr rfl)⟩
    case measure=>rw[hrg4.left_eq,hrg.left_eq];omega
end
section
open Go.RowKit
def uy:List Value:=jf false 0 0#64 (List.replicate 32 0#8) 0 (.map none)
theorem qaF(w:World)(g o:Nat)(t:Bool)(h:Int)(s:BitVec 64)(link:qf)(place:Int)(gm:Nat)(hr:w.rangeAt g o (jf t h s link place (.map (some gm))))(hl:link.length=32)(hg:g<w.heap.size)(es:List (Int×Value))(hm:zu w gm es):
 Calls prog 67 #[.pointer (some ⟨g,o,none⟩)] w fun e w'=>∃gn mn,e= .returned (.pointer (some ⟨gn,0,none⟩))∧w.heap.size≤gn∧w.heap.size≤mn∧
  Blk w' gn 130 (jf t h s link place (.map (some mn)))∧zu w' mn es∧Below w.heap.size w w':=by
 have HS:=qe hl;have HM:=qe hm;have HR:=qe hr;have HZ:=qe (show Blk (w.alloc (.cells uy.toArray 130)) w.heap.size 130 uy from Blk.new _ _ _);have c36:=hr 36 _ (vC hl);clear hr hl hm;go_enter func67,ntmps67
 go_upto_region 2 with(first
  |(refine wpList_load_mid rfl 130 (.tmp 5) rfl g o rfl _ _ HR.1 underlying130 rfl (by rw[qa2,kD _ _ _ _ _ _ HS.1]) ?_)
  |(refine qi rfl 130 (.tmp 3) (.tmp 6) rfl w.heap.size 0 rfl (jf t h s link place (.map (some gm))) rfl 130 _ [] uy [] HZ.1 (by simp) rfl (by rw[kD _ _ _ _ _ _ HS.1];rfl) (by rw[qa2,kD _ _ _ _ _ _ HS.1]) (qcy rfl) ?_;intro w2 hx2 hg2))
 have hB2:Below w.heap.size w w2:=((QK _ w).alloc (QI _) _).grown hg2 (by simp) (fun k e=>by cases e;exact QI _);have hz2:w.heap.size+1≤w2.heap.size:=by have:=hg2.size;simpa using this
 have HX2:=qe (show Blk w2 w.heap.size 130 (jf t h s link place (.map (some gm)))from hx2.cast (by simp));have HB2:=qe hB2;have c36':=(hB2.cell (p:=⟨g,o+36,none⟩) hg).trans c36;have HC:=qe (qiy w2 gm es (HM.1.below hB2 HM.1.lt));clear hx2 hg2 c36 HM HR HZ hB2;go_wp2_with fail
 refine HC.1.mono ?_;rintro e w3 ⟨rfl,hm3,hb3⟩;have HX3:=qe (HX2.1.below hb3 (by omega));have HM3:=qe hm3;have HB3:=qe (HB2.1.trans (hb3.mono (by omega)));have f36:=HX3.1.frozen 36;have c36:=HX3.1.cell 36 (vC HS.1);have hz3:=hb3.size;clear hm3 hb3 c36';go_wp2_with fail
 go_ret;have hg4:=qM w3 w.heap.size 36 (.map (some w2.heap.size));exact⟨w.heap.size,w2.heap.size,rfl,QI _,by omega,(HX3.1.set_ 36 _).cast (qgO HS.1 _),HM3.1.kept hg4 (fun e=>by injection e with e;omega),HB3.1.grown hg4 HB3.1.size (fun k e=>by cases e;exact QI _)⟩
structure zz(M:List Int)(t:Bool)(h:Int)(s:BitVec 64)(l:jo):Prop where
 inv:Inv M t h s
 hi:hiL M=l.place-1
 mem:∀n,l.low≤n→(n∈M↔n∈l.asked)
theorem zz.start(link:qf):zz [] false 0 0#64 (ju link):=⟨Inv.start,rfl,fun n _=>Iff.rfl⟩
section
variable{M:List Int}{t:Bool}{h:Int}{s:BitVec 64}{l:jo}
theorem zz.bound(x:zz M t h s l):t=true→0≤h∧h<4294967295:=x.inv.bound
theorem zz.refuse(x:zz M t h s l)(k:LOK l){n:Int}(hc:jb t h s n≠0):qQ l n=jb t h s n:=by
 rw[x.inv.check n]at hc ⊢;have hh:=x.hi;have hk:=k.hi;unfold kg at hc ⊢;unfold qQ;rw[hh]at hc ⊢;rw[hk];by_cases h1:n<0∨4294967294<n
 ·rw[if_pos h1,if_pos h1]
 rw[if_neg h1]at hc ⊢;rw[if_neg h1];by_cases h2:n<l.place-1-64
 ·rw[if_pos h2,if_pos h2]
 rw[if_neg h2]at hc ⊢;rw[if_neg h2];by_cases h3:n∈M
 ·rw[if_pos h3]
  by_cases h4:n<l.low
  ·rw[if_pos h4]
  ·rw[if_neg h4,if_pos ((x.mem n (by omega)).1 h3)]
 ·rw[if_neg h3]at hc;exact absurd rfl hc
theorem zz.pass(x:zz M t h s l){n:Int}(hc:jb t h s n=0):0≤n∧n≤4294967294∧l.place-65≤n∧n∉M∧kg M n=0:=by
 rw[x.inv.check n]at hc;have hc':=hc;unfold kg at hc;rw[x.hi]at hc;split at hc;cases hc;split at hc;cases hc;split at hc;cases hc;exact⟨by omega,by omega,by omega,by assumption,hc'⟩
theorem zz.found(x:zz M t h s l)(k:LOK l){n:Int}(hc:jb t h s n=0){o:jm}(ho:o∈l.held)(hn:o.no=n):qQ l n=0:=by
 obtain⟨n0,n1,n2,-,-⟩:=x.pass hc;obtain⟨g1,g2,g3,-⟩:=k.held o ho;have hk:=k.hi;subst hn;unfold qQ;rw[hk,if_neg (by omega),if_neg (by omega),if_neg (by omega),if_neg g3,if_neg (by omega)]
theorem zz.passed(x:zz M t h s l)(k:LOK l){n:Int}(hc:jb t h s n=0)(hno:∀o∈l.held,o.no≠n)(hp:n<l.place):qQ l n=7:=by
 obtain⟨n0,n1,n2,n3,-⟩:=x.pass hc;have hk:=k.hi;unfold qQ;rw[hk,if_neg (by omega),if_neg (by omega)];by_cases h4:n<l.low
 ·rw[if_pos h4]
 ·rw[if_neg h4]
  by_cases h5:n∈l.asked
  ·rw[if_pos h5]
  ·exfalso
   obtain⟨o,ho,he⟩:=k.all n (by omega) hp h5 n2;exact hno o ho he
theorem zz.beyond(x:zz M t h s l)(k:LOK l){n:Int}(hc:jb t h s n=0)(hp:l.place≤n):qQ l n=if 256<n-l.place then 12 else 0:=by
 obtain⟨n0,n1,n2,n3,-⟩:=x.pass hc;have hk:=k.hi;have hl:=k.lowp;unfold qQ;rw[hk,if_neg (by omega),if_neg (by omega),if_neg (by omega),if_neg (fun h5=>n3 ((x.mem n (by omega)).2 h5))];by_cases hf:256<n-l.place
 ·rw[if_pos hf,if_pos (by omega)]
 ·rw[if_neg hf,if_neg (by omega)]
theorem zz.take(x:zz M t h s l)(k:LOK l){n:Int}(hc:jb t h s n=0)(h0:qQ l n=0):
 zz (M++ [n]) (js t h s n).1 (js t h s n).2.1 (js t h s n).2.2 (jR l n):=by
 obtain⟨n0,n1,n2,n3,hr⟩:=x.pass hc;refine⟨x.inv.mark n hr,?_,fun m hm=>?_⟩
 ·rw[qdR,x.hi]
  show _=(if l.place≤n then n+1 else l.place)-1;by_cases hp:l.place≤n
  ·rw[if_pos (by omega),if_pos hp];omega
  ·rw[if_neg (by omega),if_neg hp]
 ·have hm':l.low≤m:=hm
  show m∈M++ [n]↔m∈l.asked++ [n];rw[QS,QS,x.mem m hm']
end
def uI(hp:List (jm×Nat)):List (Int×Value):=hp.map fun p=>(p.1.no,.agg (qy p.1.no p.1.key (qx p.2)).toArray)
theorem qmh(a b:List (jm×Nat)):uI (a++b)=uI a++uI b:=by unfold uI;rw[Q9]
theorem qc3(hp:List (jm×Nat))(f:Int→Bool):(uI hp).filter (fun p=>f p.1)=uI (hp.filter fun p=>f p.1.no):=by
 unfold uI;rw[List.filter_map]
 congr 1
structure jn(w:World)(gm:Nat)(hp:List (jm×Nat)):Prop where
 map:zu w gm (uI hp)
 mem:∀p∈hp,Arr b8 w p.2 5 (p.1.key++p.1.nonce)
theorem jn.below{w w':World}{gm B:Nat}{hp:List (jm×Nat)}(x:jn w gm hp)(hb:Below B w w')(hg:gm<B)(hB:∀p∈hp,p.2<B):jn w' gm hp:=
 ⟨x.map.below hb hg,fun p hp'=>(x.mem p hp').below hb (hB p hp')⟩
theorem jn.alloc{w:World}{gm:Nat}{hp:List (jm×Nat)}(x:jn w gm hp)(o:Obj):jn (w.alloc o) gm hp:=⟨x.map.alloc o,fun p hp'=>(x.mem p hp').alloc o⟩
theorem jn.cells{w w':World}{gm g:Nat}{hp:List (jm×Nat)}(x:jn w gm hp){cs:Array Value}{T:TypeId}(hg:w.heap[g]?=some (.cells cs T (0,0)))(hT:T≠5)(hb:w.grownBy w' (some g)):jn w' gm hp:=
 ⟨x.map.kept hb (fun e=>by injection e with e;subst e;exact x.map.not_cells hg rfl),fun p hp'=>(x.mem p hp').grown hb (fun e=>by
  injection e with e;subst e;have h1:=x.mem p hp';unfold Arr at h1;rw[h1]at hg;cases hg;exact hT rfl)⟩
theorem qkG{hp:List (jm×Nat)}{n:Int}(h:∃p∈hp,p.1.no=n):(uI hp).any (fun p=>decide (p.1=n))=true:=by
 obtain⟨p,hp',e⟩:=h;exact List.any_eq_true.2 ⟨_,QW.2 ⟨p,hp',rfl⟩,by simp[e]⟩
theorem qcz{hp:List (jm×Nat)}{n:Int}(h:∀p∈hp,p.1.no≠n):(uI hp).any (fun p=>decide (p.1=n))=false:=by
 rw[List.any_eq_false];intro x hx;obtain⟨p,hp',rfl⟩:=QW.1 hx;simp[h p hp']
theorem qkH{hp:List (jm×Nat)}(h:yM (hp.map Prod.fst)):qmc (uI hp):=by
 unfold qmc uI;unfold yM at h;rw[List.pairwise_map]at h ⊢;exact h
theorem qgR(w:World)(g:Nat)(t:Bool)(h:Int)(s:BitVec 64)(link:qf)(place:Int)(m:Value)(hB:Blk w g 130 (jf t h s link place m))(hl:link.length=32)(hp:0≤place∧place≤4294967295):
 Calls prog 98 #[.pointer (some ⟨g,0,none⟩)] w fun e w'=>∃b,e= .returned (.tuple #[.agg (qy place ((ki link ku 44).take 32) (qx b)).toArray,.nilIface])∧
  w.heap.size≤b∧Arr b8 w' b 5 (ki link ku 44)∧Blk w' g 130 (jf t h s (vB link yy) (place+1) m)∧w.grownBy w' (some g):=by
 obtain⟨V,hV⟩:∃V,V=ki link ku 44:=⟨_,rfl⟩;have HVl:=qe (show V.length=44 by rw[hV];exact kO _ _ _ (by omega));obtain⟨Kk,hKk⟩:∃Kk,Kk=V.take 32:=⟨_,rfl⟩;have HKl:=qe (show Kk.length=32 by rw[hKk,QV,HVl.1];rfl);obtain⟨N,hN⟩:∃N,N=vB link yy:=⟨_,rfl⟩;have HNl:=qe (show N.length=32 by rw[hN];exact jl _ _);have HS:=qe hl;have HB:=qe hB;have hgl:=hB.lt;have HOnce:=qe (show∀W':World,Calls prog 118 #[.agg (link.map b8).toArray,.int .i64 place] W' fun e w'=>∃b,e= .returned (.tuple #[.agg (qy place Kk (qx b)).toArray,.nilIface])∧
  W'.heap.size≤b∧Arr b8 w' b 5 V∧Below W'.heap.size W' w' from fun W'=>by rw[hKk,hV];exact ql9 W' link hl place)
 have HNext:=qe (show∀W':World,Calls prog 84 #[.agg (link.map b8).toArray,.string ⟨#[110,101,120,116]⟩] W' fun e w'=>e= .returned (.agg (N.map b8).toArray)∧Below W'.heap.size W' w' from fun W'=>by
  have h:=qbA W' link hl ⟨#[110,101,120,116]⟩ yy qjz (by decide);rw[qn,qn,←hN]at h;exact h)
 obtain⟨w1,hw1⟩:∃w1,w1=w.alloc (.cells qg.toArray 94):=⟨_,rfl⟩;have HZ1:=qe (show Blk w1 w.heap.size 94 qg by rw[hw1];exact Blk.new _ _ _);have HB1:=qe (show Blk w1 g 130 (jf t h s link place m) by rw[hw1];exact hB.alloc _);have HG1:=qe (show Below w.heap.size w w1 by rw[hw1];exact(QK _ w).alloc (QI _) _);have hz1:w1.heap.size=w.heap.size+1:=by rw[hw1];simp
 have HW1:=qe hw1;have HKeep:=qe (show∀W':World,Blk W' g 130 (jf t h s link place m)→W'.rangeAt g 3 (link.map b8)∧W'.cell? ⟨g,35,none⟩=some (.int .i64 place)from fun W' hb=>by
  refine⟨?_,hb.cell 35 (zR hl)⟩;have h1:=hb.range 3 32;rwa[qiv hl]at h1)
 have hk1:=HKeep.1 _ HB1.1.drew;have hu:=underlying23;have hi32:(prog.info? 23).map (·.size)=some (link.map b8).length:=by rw[QN,hl];exact qR
 rw[←hV,←hKk,←hN];clear hV hKk hN hw1 hB hl;go_enter func98,ntmps98
 go_upto_region 1 with fail
 have hw1:=HW1.1;simp only[q7]at hw1
 rw[←hw1];clear hw1;refine wp_region_noPanic ?_;refine wp_region_held_drew (S:=fun w'=>w'.rangeAt g 3 (link.map b8)∧w'.cell? ⟨g,35,none⟩=some (.int .i64 place)) (by kernel_rfl) hk1 (fun hS=>?_);refine tkA 0 (.pointer (some ⟨g,0,none⟩)) hS ?_;refine tkA 1 (.pointer (some ⟨g,0,none⟩)) hS ?_;refine tkA 2 (.pointer (some ⟨g,3,none⟩)) hS ?_;try simp only[QJ,qj,qz,qv]
 refine tkK 3 (.agg (link.map b8).toArray) rfl rfl (yieldsIf_load_mid (by rfl) 23 (.tmp 9) rfl g 3 rfl (link.map b8) _ (fun _ h=>h.1) hu rfl hi32) hS ?_;refine tkA 4 (.pointer (some ⟨g,0,none⟩)) hS ?_;refine tkA 5 (.pointer (some ⟨g,0,none⟩)) hS ?_;try simp only[QJ,qj,qz,qv]
 refine tkA 6 (.pointer (some ⟨g,35,none⟩)) hS ?_;refine tkA 7 (.int .i64 place) hS ?_;try simp only[QJ,qj,qz,qv]
 refine wpAnyH_ready (rs:=[8,12]) (by kernel_rfl) (by simp) (AllReadyH.cons (o:={dst:=some 15,op:=_,type:=_,pos:=_,after:=_,guard:=_}) rfl (fun K' hK=>?_) (AllReadyH.cons (o:={dst:=some 4,op:=_,type:=_,pos:=_,after:=_,guard:=_}) rfl (fun K' hK=>?_) AllReadyH.nil))
 ·
  go_simp;go_at_call 118;refine(HOnce.1 _).mono ?_;rintro e w2 ⟨b,rfl,hb1,ho,hb2⟩;have HB2:=qe (HB1.1.drew.below hb2 (by simp;omega));have HO2:=qe ho;have HQ2:=qe (show Below w1.heap.size w1 w2 from(QK _ w1).drew.trans (hb2.mono (by simp)));have hbz:w1.heap.size≤b:=by simp at hb1;omega
  have hzb:b<w2.heap.size:=ho.lt;clear hb1 ho hb2;refine hK.out _ _ (HKeep.1 _ HB2.1) (fun hS=>?_);clear hK K';refine tkA 9 (.tuple #[(.agg (qy place Kk (qx b)).toArray),.nilIface]) hS ?_;refine tkA 10 ((.agg (qy place Kk (qx b)).toArray)) hS ?_;try simp only[QJ,qj,qz,qv]
  refine tkA 11 (.nilIface) hS ?_;try simp only[QJ,qj,qz,qv]
  refine rdH 12 (fun K' hK=>?_);go_simp;have hz2:=HQ2.1.size;refine hK.out _ _ (HKeep.1 _ (HB2.1.alloc _)) (fun hS=>?_);clear hK K';try simp only[QJ,qj,qz,qv]
  refine rdH 13 (fun K' hK=>?_);rw[if_pos (by rfl)];refine qo 94 (.tmp 4) (.tmp 16) rfl w2.heap.size 0 rfl (qy place Kk (qx b)) rfl _ _ [] qg [] (Blk.new w2 94 qg) (by simp) rfl (by rw[qw _ _ _ HKl.1];rfl) (by rw[qA,qw _ _ _ HKl.1]) (qF _ _ _ _ _) ?_;intro w5 hx5 hg5;obtain⟨a,ha⟩:∃a,a=w2.heap.size:=⟨_,rfl⟩;rw[←ha]at hx5 hg5;have HX5:=qe (show Blk w5 a 94 (qy place Kk (qx b))from hx5.cast (by simp))
  have hag:w1.heap.size≤a:=by rw[ha];omega
  have HB5:=qe ((HB2.1.alloc _).grown hg5 (fun e=>by injection e with e;omega));have HO5:=qe ((HO2.1.alloc _).grown hg5 (fun e=>by injection e with e;omega));have HQ5:=qe ((HQ2.1.alloc hz2 _).grown hg5 ((HQ2.1.alloc hz2 _).size) (fun k e=>by cases e;omega));have HZ5:=qe (HZ1.1.below HQ5.1 (by omega));clear hx5 hg5;refine hK.out _ _ (HKeep.1 _ HB5.1) (fun hS=>?_);clear hK K';try simp only[QJ,qj,qz,qv]
  refine rdH 14 (fun K' hK=>?_);go_simp;refine hK.out _ _ (HKeep.1 _ HB5.1) (fun hS=>?_);clear hK K';try simp only[QJ,qj,qz,qv]
  refine wpAnyH_done (by kernel_rfl) ?_ _;refine Q4 ?_;simp only[←ha];clear ha;have hk5:=HKeep.1 _ HB5.1;go_wp2_with (refine wpList_load_mid rfl 23 (.tmp 21) rfl g 3 rfl (link.map b8) _ hk5.1 underlying23 rfl hi32 ?_)
  refine(HNext.1 w5).mono ?_;rintro e w6 ⟨rfl,hb6⟩;have hz5:=HQ5.1.size;have ha5:=HX5.1.lt;have hb5:=HO5.1.lt;have HB6:=qe (HB5.1.below hb6 (by omega));have HX6:=qe (HX5.1.below hb6 ha5);have HO6:=qe (HO5.1.below hb6 hb5);have HZ6:=qe (HZ5.1.below hb6 (by omega));have HG6:=qe (show w.grownBy w6 (some g)from j2 (j2 (j2 (World.grownBy.refl w (some g)) HG1.1) HQ5.1) hb6)
  have hz6:=hb6.size;clear hb6 HB5 HX5 HO5 HZ5 hk5;go_upto_region 3 with(refine qi rfl 23 (.tmp 25) (.tmp 23) rfl g 3 rfl (N.map b8) rfl _ _ [.bool t,.int .i64 h,.int .u64 (bv s)] (link.map b8) [.int .i64 place,m] HB6.1 qgP rfl (by rw[QN,QN,HS.1,HNl.1]) (by rw[QN,HNl.1];exact qR) (fun u hu=>by obtain⟨x,-,rfl⟩:=QW.1 hu;exact qH x) ?_;intro w7 hx7 hg7;have HB7:=qe (show Blk w7 g 130 (jf t h s N place m)from hx7);have HX7:=qe (HX6.1.grown hg7 (fun e=>by injection e with e;omega));have HO7:=qe (HO6.1.grown hg7 (fun e=>by injection e with e;omega));have HZ7:=qe (HZ6.1.grown hg7 (fun e=>by injection e with e;omega));have HG7:=qe (qp HG6.1 hg7 (fun _ e=> .inl e));have hz7:=hg7.size;clear hx7 hg7)
  have c35:=HB7.1.cell 35 (zR HNl.1);have f35:=HB7.1.frozen 35;have hpw:IntKind.i64.wrap (place+1)=place+1:=Jc _ (by omega);have HB8:=qe ((HB7.1.set_ 35 (.int .i64 (place+1))).cast (qc2 HNl.1 _));have hg8:=qM w7 g 35 (.int .i64 (place+1));have HX8:=qe (HX7.1.grown hg8 (fun e=>by injection e with e;omega));have HO8:=qe (HO7.1.grown hg8 (fun e=>by injection e with e;omega))
  have HZ8:=qe (HZ7.1.grown hg8 (fun e=>by injection e with e;omega));have HG8:=qe (qp HG7.1 hg8 (fun _ e=> .inl e));have hz8:=hg8.size;clear hg8;go_upto_region 4 with fail
  refine wp_region_lit ?_;refine wpList_load_mid rfl 94 (.tmp 4) rfl a 0 rfl (qy place Kk (qx b)) _ HX8.1.whole underlying94 rfl (by rw[qA,qw _ _ _ HKl.1]) ?_;go_wp2_with (refine qi rfl 94 (.tmp 2) (.tmp 33) rfl w.heap.size 0 rfl (qy place Kk (qx b)) rfl _ _ [] qg [] HZ8.1 (by simp) rfl (by rw[qw _ _ _ HKl.1];rfl) (by rw[qA,qw _ _ _ HKl.1]) (qF _ _ _ _ _) ?_;intro w9 hx9 hg9)
  have HX9:=qe (show Blk w9 w.heap.size 94 (qy place Kk (qx b))from hx9.cast (by simp));have HB9:=qe (HB8.1.grown hg9 (fun e=>by injection e with e;omega));have HO9:=qe (HO8.1.grown hg9 (fun e=>by injection e with e;omega));refine bodyPost_ret (v:= .tuple #[.agg (qy place Kk (qx b)).toArray,.nilIface]) (qu (g:=w.heap.size) rfl _ _ _ _ _ _ rfl rfl HX9.1 underlying94 rfl (by rw[qA,qw _ _ _ HKl.1])) rfl ?_
  have hg:=HG8.1;exact⟨b,rfl,by omega,HO9.1,HB9.1,⟨hg9.os.trans hg.os,hg9.tape.trans hg.tape,hg9.output.trans hg.output,QX hg.size hg9.size,fun k hk hne=>(hg9.block k (Jq hk hg.size) (fun e=>by injection e with e;omega)).trans (hg.block k hk hne)⟩⟩
 ·
  go_simp;refine hK.out _ _ (HKeep.1 _ (HB1.1.drew.alloc _)) (fun hS=>?_);clear hK K';try simp only[QJ,qj,qz,qv]
  refine rdH 8 (fun K' hK=>?_);go_simp;go_at_call 118;refine(HOnce.1 _).mono ?_;rintro e w2 ⟨b,rfl,hb1,ho,hb2⟩;have HB2:=qe ((HB1.1.drew.alloc _).below hb2 (by simp;omega));have HO2:=qe ho;have HQ2:=qe (show Below w1.heap.size w1 w2 from((QK _ w1).drew.alloc (QI _) _).trans (hb2.mono (by simp)));have hbz:w1.heap.size≤b:=by simp at hb1;omega
  have HZ2:=qe (show Blk w2 (w.heap.size+1) 94 qg by rw[←hz1];exact(Blk.new w1.drew 94 qg).below hb2 (by simp));have hbz2:w1.heap.size+1≤b:=by simp at hb1;omega
  have hzb:b<w2.heap.size:=ho.lt;have hz2:=HQ2.1.size;clear hb1 ho hb2;refine hK.out _ _ (HKeep.1 _ HB2.1) (fun hS=>?_);clear hK K';refine tkA 9 (.tuple #[(.agg (qy place Kk (qx b)).toArray),.nilIface]) hS ?_;refine tkA 10 ((.agg (qy place Kk (qx b)).toArray)) hS ?_;try simp only[QJ,qj,qz,qv]
  refine tkA 11 (.nilIface) hS ?_;try simp only[QJ,qj,qz,qv]
  refine rdH 13 (fun K' hK=>?_);rw[if_pos (by rfl)];refine qo 94 (.tmp 4) (.tmp 16) rfl (w.heap.size+1) 0 rfl (qy place Kk (qx b)) rfl _ _ [] qg [] HZ2.1 (by simp) rfl (by rw[qw _ _ _ HKl.1];rfl) (by rw[qA,qw _ _ _ HKl.1]) (qF _ _ _ _ _) ?_;intro w5 hx5 hg5;obtain⟨a,ha⟩:∃a,a=(w.heap.size+1):=⟨_,rfl⟩;rw[←ha]at hx5 hg5;have HX5:=qe (show Blk w5 a 94 (qy place Kk (qx b))from hx5.cast (by simp))
  have hag:w1.heap.size≤a:=by rw[ha];omega
  have HB5:=qe (HB2.1.grown hg5 (fun e=>by injection e with e;omega));have HO5:=qe (HO2.1.grown hg5 (fun e=>by injection e with e;omega));have HQ5:=qe (HQ2.1.grown hg5 (HQ2.1.size) (fun k e=>by cases e;omega));have HZ5:=qe (HZ1.1.below HQ5.1 (by omega));clear hx5 hg5;refine hK.out _ _ (HKeep.1 _ HB5.1) (fun hS=>?_);clear hK K';try simp only[QJ,qj,qz,qv]
  refine rdH 14 (fun K' hK=>?_);go_simp;refine hK.out _ _ (HKeep.1 _ HB5.1) (fun hS=>?_);clear hK K';try simp only[QJ,qj,qz,qv]
  refine wpAnyH_done (by kernel_rfl) ?_ _;refine Q4 ?_;simp only[←ha];clear ha;have hk5:=HKeep.1 _ HB5.1;go_wp2_with (refine wpList_load_mid rfl 23 (.tmp 21) rfl g 3 rfl (link.map b8) _ hk5.1 underlying23 rfl hi32 ?_)
  refine(HNext.1 w5).mono ?_;rintro e w6 ⟨rfl,hb6⟩;have hz5:=HQ5.1.size;have ha5:=HX5.1.lt;have hb5:=HO5.1.lt;have HB6:=qe (HB5.1.below hb6 (by omega));have HX6:=qe (HX5.1.below hb6 ha5);have HO6:=qe (HO5.1.below hb6 hb5);have HZ6:=qe (HZ5.1.below hb6 (by omega));have HG6:=qe (show w.grownBy w6 (some g)from j2 (j2 (j2 (World.grownBy.refl w (some g)) HG1.1) HQ5.1) hb6)
  have hz6:=hb6.size;clear hb6 HB5 HX5 HO5 HZ5 hk5;go_upto_region 3 with(refine qi rfl 23 (.tmp 25) (.tmp 23) rfl g 3 rfl (N.map b8) rfl _ _ [.bool t,.int .i64 h,.int .u64 (bv s)] (link.map b8) [.int .i64 place,m] HB6.1 qgP rfl (by rw[QN,QN,HS.1,HNl.1]) (by rw[QN,HNl.1];exact qR) (fun u hu=>by obtain⟨x,-,rfl⟩:=QW.1 hu;exact qH x) ?_;intro w7 hx7 hg7;have HB7:=qe (show Blk w7 g 130 (jf t h s N place m)from hx7);have HX7:=qe (HX6.1.grown hg7 (fun e=>by injection e with e;omega));have HO7:=qe (HO6.1.grown hg7 (fun e=>by injection e with e;omega));have HZ7:=qe (HZ6.1.grown hg7 (fun e=>by injection e with e;omega));have HG7:=qe (qp HG6.1 hg7 (fun _ e=> .inl e));have hz7:=hg7.size;clear hx7 hg7)
  have c35:=HB7.1.cell 35 (zR HNl.1);have f35:=HB7.1.frozen 35;have hpw:IntKind.i64.wrap (place+1)=place+1:=Jc _ (by omega);have HB8:=qe ((HB7.1.set_ 35 (.int .i64 (place+1))).cast (qc2 HNl.1 _));have hg8:=qM w7 g 35 (.int .i64 (place+1));have HX8:=qe (HX7.1.grown hg8 (fun e=>by injection e with e;omega));have HO8:=qe (HO7.1.grown hg8 (fun e=>by injection e with e;omega))
  have HZ8:=qe (HZ7.1.grown hg8 (fun e=>by injection e with e;omega));have HG8:=qe (qp HG7.1 hg8 (fun _ e=> .inl e));have hz8:=hg8.size;clear hg8;go_upto_region 4 with fail
  refine wp_region_lit ?_;refine wpList_load_mid rfl 94 (.tmp 4) rfl a 0 rfl (qy place Kk (qx b)) _ HX8.1.whole underlying94 rfl (by rw[qA,qw _ _ _ HKl.1]) ?_;go_wp2_with (refine qi rfl 94 (.tmp 2) (.tmp 33) rfl w.heap.size 0 rfl (qy place Kk (qx b)) rfl _ _ [] qg [] HZ8.1 (by simp) rfl (by rw[qw _ _ _ HKl.1];rfl) (by rw[qA,qw _ _ _ HKl.1]) (qF _ _ _ _ _) ?_;intro w9 hx9 hg9)
  have HX9:=qe (show Blk w9 w.heap.size 94 (qy place Kk (qx b))from hx9.cast (by simp));have HB9:=qe (HB8.1.grown hg9 (fun e=>by injection e with e;omega));have HO9:=qe (HO8.1.grown hg9 (fun e=>by injection e with e;omega));refine bodyPost_ret (v:= .tuple #[.agg (qy place Kk (qx b)).toArray,.nilIface]) (qu (g:=w.heap.size) rfl _ _ _ _ _ _ rfl rfl HX9.1 underlying94 rfl (by rw[qA,qw _ _ _ HKl.1])) rfl ?_
  have hg:=HG8.1;exact⟨b,rfl,by omega,HO9.1,HB9.1,⟨hg9.os.trans hg.os,hg9.tape.trans hg.tape,hg9.output.trans hg.output,QX hg.size hg9.size,fun k hk hne=>(hg9.block k (Jq hk hg.size) (fun e=>by injection e with e;omega)).trans (hg.block k hk hne)⟩⟩
theorem vh:qg.length=34:=rfl
theorem qbl:yL (.agg qg.toArray)=some (.held (.agg qg.toArray),[]):=qjA (qgN rfl (qF _ _ _ _ _))
theorem j6{w w':World}{g b:Nat}{xs:qf}{T:TypeId}{cs:List Value}(x:Arr b8 w b 5 xs)(hg:Blk w g T cs)(hT:T≠5)(hb:w.grownBy w' (some g)):Arr b8 w' b 5 xs:=
 x.grown hb (fun e=>by
  injection e with e;subst e;have h1:w.heap[b]?=some (.cells (xs.map b8).toArray 5 (0,0)):=x;have h2:w.heap[b]?=some (.cells cs.toArray T (0,0)):=hg;rw[h1]at h2;cases h2;exact hT rfl)
theorem zJ{w w':World}{gm b:Nat}{xs:qf}{l:List (Int×Value)}(x:Arr b8 w b 5 xs)(hm:zu w gm l)(hb:w.grownBy w' (some gm)):Arr b8 w' b 5 xs:=
 x.grown hb (fun e=>by injection e with e;exact hm.not_cells x e.symm)
theorem qfO(w:World)(g gm:Nat)(hp:List (jm×Nat))(l:jo)(M:List Int)(t:Bool)(h:Int)(s:BitVec 64)(n:Int)(hB:Blk w g 130 (jf t h s l.link l.place (.map (some gm))))(hH:jn w gm hp)
 (hok:LOK l)(hM:zz M t h s l)(hc:jb t h s n≠0):
 Calls prog 68 #[.pointer (some ⟨g,0,none⟩),.int .i64 n] w fun e w'=>e= .returned (.tuple #[.agg qg.toArray,zG (qQ l n)])∧Below w.heap.size w w':=by
 rw[hM.refuse hok hc];have Hne:=qe (jO hc);generalize hcc:jb t h s n=c at Hne hc ⊢;have HCc:=qe hcc;clear hcc;have HH:=qe hH;have HS:=qe hok.len;have HPl:=qe hok;obtain⟨w2,hw2⟩:∃w2,w2=(w.alloc (.cells #[.pointer (some ⟨g,0,none⟩)] 123)).alloc (.cells qg.toArray 94):=⟨_,rfl⟩;have HX2:=qe (show Boxed w2 w.heap.size 123 (.pointer (some ⟨g,0,none⟩)) by rw[hw2];exact(Boxed.new w _ _).alloc _)
 have HZ2:=qe (show Blk w2 (w.heap.size+1) 94 qg by rw[hw2];exact Blk.at_size _ _ (by simp));have HB2:=qe (show Blk w2 g 130 (jf t h s l.link l.place (.map (some gm))) by rw[hw2];exact(hB.alloc _).alloc _);have HH2:=qe (show jn w2 gm hp by rw[hw2];exact(hH.alloc _).alloc _);have HK2:=qe (show Below w.heap.size w w2 by rw[hw2];exact((QK _ w).alloc (QI _) _).alloc (by simp) _)
 have hgl:=hB.lt;have hml:=hH.map.lt;have hz2:w2.heap.size=w.heap.size+2:=by rw[hw2];simp
 have HW2:=qe hw2;have HC:=qe (uG g 0 130 _ t h s n w2 (uE.of_line HB2.1) hM.bound);clear hw2 hB hH hok hM;go_enter func68,ntmps68
 go_upto_region 1 with fail
 have hw2:=HW2.1;simp only[q7]at hw2
 rw[←hw2];clear hw2;have cb:=HX2.1.cell;go_wp2_with fail
 refine HC.1.mono ?_;rintro e w3 ⟨rfl,rfl⟩;rw[HCc.1,Hne.1];go_upto_region 3 with fail
 refine wp_region_lit ?_;refine jh rfl 94 [] rfl qg.toArray [] rfl qab ?_;go_wp2_with (refine qi rfl 94 (.tmp 4) (.tmp 21) rfl (w.heap.size+1) 0 rfl qg rfl 94 _ [] qg [] HZ2.1 (by simp) rfl rfl qA (qF _ _ _ _ _) ?_;intro w9 hx9 hg9)
 have HX9:=qe (show Blk w9 (w.heap.size+1) 94 qg from hx9.cast (by simp));refine bodyPost_ret (v:= .tuple #[.agg qg.toArray,zG c]) (qu (g:=w.heap.size+1) rfl _ _ _ _ _ _ rfl (by first|rfl|exact Hne.1.symm) HX9.1 underlying94 rfl qA) rfl ?_;exact⟨rfl,HK2.1.grown hg9 HK2.1.size (fun k e=>by cases e;omega)⟩
theorem qmi(w:World)(g gm:Nat)(hp:List (jm×Nat))(l:jo)(M:List Int)(t:Bool)(h:Int)(s:BitVec 64)(n:Int)(hB:Blk w g 130 (jf t h s l.link l.place (.map (some gm))))(hH:jn w gm hp)
 (hf:hp.map Prod.fst=l.held)(hok:LOK l)(hM:zz M t h s l)(hc:jb t h s n=0)(hno:∀p∈hp,p.1.no≠n)(hlo:n<l.place):
 Calls prog 68 #[.pointer (some ⟨g,0,none⟩),.int .i64 n] w fun e w'=>e= .returned (.tuple #[.agg qg.toArray,zG (qQ l n)])∧Below w.heap.size w w':=by
 rw[hM.passed hok hc (fun o ho=>by rw[←hf]at ho;obtain⟨p,hp',rfl⟩:=QW.1 ho;exact hno p hp') hlo];obtain⟨n0,n1,-,-,-⟩:=hM.pass hc;have HNo:=qe (qcz hno);have HNd:=qe (show∀zd,(kP (uI hp)).atKey (.int .i64 n) zd=zd from qcx _ _ (fun q hq=>by obtain⟨p,hp',rfl⟩:=QW.1 hq;exact hno p hp'));have HCc:=qe hc;clear hc hf hno;have HH:=qe hH;have HS:=qe hok.len
 have HPl:=qe hok;obtain⟨w2,hw2⟩:∃w2,w2=(w.alloc (.cells #[.pointer (some ⟨g,0,none⟩)] 123)).alloc (.cells qg.toArray 94):=⟨_,rfl⟩;have HX2:=qe (show Boxed w2 w.heap.size 123 (.pointer (some ⟨g,0,none⟩)) by rw[hw2];exact(Boxed.new w _ _).alloc _);have HZ2:=qe (show Blk w2 (w.heap.size+1) 94 qg by rw[hw2];exact Blk.at_size _ _ (by simp));have HB2:=qe (show Blk w2 g 130 (jf t h s l.link l.place (.map (some gm))) by rw[hw2];exact(hB.alloc _).alloc _)
 have HH2:=qe (show jn w2 gm hp by rw[hw2];exact(hH.alloc _).alloc _);have HK2:=qe (show Below w.heap.size w w2 by rw[hw2];exact((QK _ w).alloc (QI _) _).alloc (by simp) _);have hgl:=hB.lt;have hml:=hH.map.lt;have hz2:w2.heap.size=w.heap.size+2:=by rw[hw2];simp
 have HW2:=qe hw2;have HC:=qe (uG g 0 130 _ t h s n w2 (uE.of_line HB2.1) hM.bound);clear hw2 hB hH hok hM;go_enter func68,ntmps68
 go_upto_region 1 with fail
 have hw2:=HW2.1;simp only[q7]at hw2
 rw[←hw2];clear hw2;have cb:=HX2.1.cell;go_wp2_with fail
 refine HC.1.mono ?_;rintro e w3 ⟨rfl,rfl⟩;rw[HCc.1,qW];have hlk:(zeroValue 94).run prog w2= .ok (.agg qg.toArray) w2:=by kernel_rfl
 have c36:=HB2.1.cell 36 (vC HS.1);have hkey:=qmf (a:=n) (by omega) (by omega);have HZn:=qe (show Blk (w2.alloc (.cells qg.toArray 94)) (w.heap.size+2) 94 qg by rw[←hz2];exact Blk.new _ _ _);go_upto_region 4 with fail
 go_upto_region 5 with(first
  |(at_lookup;(refine wpList_lookup_own_ok _ rfl _ _ 128 rfl 3 94 kC underlying128 yL hlk (.held (.agg qg.toArray)) [] qbl gm _ _ rfl HH2.1.map _ _ rfl hkey ?_;intro v ps hv;obtain⟨-,hvy⟩:=uN hv;injection hvy with hv1 hv2;rw[HNd.1]at hv1;injection hv1 with hv1;subst hv1;rw[qb2,HNo.1];clear hv hv2))
  |(refine qi rfl 94 (.tmp 7) (.tmp 30) rfl (w.heap.size+2) 0 rfl (qg) rfl 94 _ [] qg [] HZn.1 (by simp) rfl (by have h34:=vh;first|(rw[h34];done)|(rw[h34];rfl)) (by rw[qA,vh]) ((qF _ _ _ _ _)) ?_;intro w4 hx4 hg4))
 have HX4:=qe (show Blk w4 (w.heap.size+2) 94 (qg)from hx4.cast (by simp));have HK4:=qe (show Below w2.heap.size w2 w4 from((QK _ w2).alloc (QI _) _).grown hg4 (by simp) (fun k e=>by cases e;omega));have hz4:w2.heap.size+1≤w4.heap.size:=by have:=hg4.size;simpa using this
 have HB4:=qe (HB2.1.below HK4.1 (by omega));have HH4:=qe (HH2.1.below HK4.1 (by omega) (fun p hp'=>(HH2.1.mem p hp').lt));have HB0:vM (Boxed w4 w.heap.size 123 (.pointer (some ⟨g,0,none⟩))):=qe ((HK4.1.block _ (by omega)).trans HX2.1);have HZ4:=qe (HZ2.1.below HK4.1 (by omega));have HK04:=qe (HK2.1.trans (HK4.1.mono (by omega)));clear hx4 hg4 c36 cb;have cb:=HB0.1.cell;have c35:=HB4.1.cell 35 (zR HS.1)
 have hd:decide (n<l.place)=true:=by simp[hlo]
 go_upto_region 9 with fail
 refine wp_region_lit ?_;refine jh rfl 94 [] rfl qg.toArray [] rfl qab ?_;go_wp2_with (refine qi rfl 94 (.tmp 4) (.tmp 51) rfl (w.heap.size+1) 0 rfl qg rfl 94 _ [] qg [] HZ4.1 (by simp) rfl rfl qA (qF _ _ _ _ _) ?_;intro w9 hx9 hg9)
 have HX9:=qe (show Blk w9 (w.heap.size+1) 94 qg from hx9.cast (by simp));refine bodyPost_ret (v:= .tuple #[.agg qg.toArray,zG 7]) (qu (g:=w.heap.size+1) rfl _ _ _ _ _ _ rfl (by first|rfl|exact Hne.1.symm) HX9.1 underlying94 rfl qA) rfl ?_;exact⟨rfl,HK04.1.grown hg9 HK04.1.size (fun k e=>by cases e;omega)⟩
theorem qmj(w:World)(g gm:Nat)(hp:List (jm×Nat))(l:jo)(M:List Int)(t:Bool)(h:Int)(s:BitVec 64)(n:Int)(hB:Blk w g 130 (jf t h s l.link l.place (.map (some gm))))(hH:jn w gm hp)
 (hf:hp.map Prod.fst=l.held)(hok:LOK l)(hM:zz M t h s l)(hc:jb t h s n=0)(hno:∀p∈hp,p.1.no≠n)(hlo:l.place≤n)(hfar:256<n-l.place):
 Calls prog 68 #[.pointer (some ⟨g,0,none⟩),.int .i64 n] w fun e w'=>e= .returned (.tuple #[.agg qg.toArray,zG (qQ l n)])∧Below w.heap.size w w':=by
 rw[hM.beyond hok hc hlo,if_pos hfar];obtain⟨n0,n1,-,-,-⟩:=hM.pass hc;have hp0:=hok.low0;have hp1:=hok.lowp;have hp2:=hok.top;have HNo:=qe (qcz hno);have HNd:=qe (show∀zd,(kP (uI hp)).atKey (.int .i64 n) zd=zd from qcx _ _ (fun q hq=>by obtain⟨p,hp',rfl⟩:=QW.1 hq;exact hno p hp'));have HCc:=qe hc;clear hc hf hno;have HH:=qe hH;have HS:=qe hok.len;have HPl:=qe hok
 obtain⟨w2,hw2⟩:∃w2,w2=(w.alloc (.cells #[.pointer (some ⟨g,0,none⟩)] 123)).alloc (.cells qg.toArray 94):=⟨_,rfl⟩;have HX2:=qe (show Boxed w2 w.heap.size 123 (.pointer (some ⟨g,0,none⟩)) by rw[hw2];exact(Boxed.new w _ _).alloc _);have HZ2:=qe (show Blk w2 (w.heap.size+1) 94 qg by rw[hw2];exact Blk.at_size _ _ (by simp));have HB2:=qe (show Blk w2 g 130 (jf t h s l.link l.place (.map (some gm))) by rw[hw2];exact(hB.alloc _).alloc _)
 have HH2:=qe (show jn w2 gm hp by rw[hw2];exact(hH.alloc _).alloc _);have HK2:=qe (show Below w.heap.size w w2 by rw[hw2];exact((QK _ w).alloc (QI _) _).alloc (by simp) _);have hgl:=hB.lt;have hml:=hH.map.lt;have hz2:w2.heap.size=w.heap.size+2:=by rw[hw2];simp
 have HW2:=qe hw2;have HC:=qe (uG g 0 130 _ t h s n w2 (uE.of_line HB2.1) hM.bound);clear hw2 hB hH hok hM;go_enter func68,ntmps68
 go_upto_region 1 with fail
 have hw2:=HW2.1;simp only[q7]at hw2
 rw[←hw2];clear hw2;have cb:=HX2.1.cell;go_wp2_with fail
 refine HC.1.mono ?_;rintro e w3 ⟨rfl,rfl⟩;rw[HCc.1,qW];have hlk:(zeroValue 94).run prog w2= .ok (.agg qg.toArray) w2:=by kernel_rfl
 have c36:=HB2.1.cell 36 (vC HS.1);have hkey:=qmf (a:=n) (by omega) (by omega);have HZn:=qe (show Blk (w2.alloc (.cells qg.toArray 94)) (w.heap.size+2) 94 qg by rw[←hz2];exact Blk.new _ _ _);go_upto_region 4 with fail
 go_upto_region 5 with(first
  |(at_lookup;(refine wpList_lookup_own_ok _ rfl _ _ 128 rfl 3 94 kC underlying128 yL hlk (.held (.agg qg.toArray)) [] qbl gm _ _ rfl HH2.1.map _ _ rfl hkey ?_;intro v ps hv;obtain⟨-,hvy⟩:=uN hv;injection hvy with hv1 hv2;rw[HNd.1]at hv1;injection hv1 with hv1;subst hv1;rw[qb2,HNo.1];clear hv hv2))
  |(refine qi rfl 94 (.tmp 7) (.tmp 30) rfl (w.heap.size+2) 0 rfl (qg) rfl 94 _ [] qg [] HZn.1 (by simp) rfl (by have h34:=vh;first|(rw[h34];done)|(rw[h34];rfl)) (by rw[qA,vh]) ((qF _ _ _ _ _)) ?_;intro w4 hx4 hg4))
 have HX4:=qe (show Blk w4 (w.heap.size+2) 94 (qg)from hx4.cast (by simp));have HK4:=qe (show Below w2.heap.size w2 w4 from((QK _ w2).alloc (QI _) _).grown hg4 (by simp) (fun k e=>by cases e;omega));have hz4:w2.heap.size+1≤w4.heap.size:=by have:=hg4.size;simpa using this
 have HB4:=qe (HB2.1.below HK4.1 (by omega));have HH4:=qe (HH2.1.below HK4.1 (by omega) (fun p hp'=>(HH2.1.mem p hp').lt));have HB0:vM (Boxed w4 w.heap.size 123 (.pointer (some ⟨g,0,none⟩))):=qe ((HK4.1.block _ (by omega)).trans HX2.1);have HZ4:=qe (HZ2.1.below HK4.1 (by omega));have HK04:=qe (HK2.1.trans (HK4.1.mono (by omega)));clear hx4 hg4 c36 cb;have cb:=HB0.1.cell;have c35:=HB4.1.cell 35 (zR HS.1)
 have hd:decide (n<l.place)=false:=by simp;omega
 have hsub:IntKind.i64.wrap (n-l.place)=n-l.place:=Jc _ (by omega);have hd2:decide (256<n-l.place)=true:=by simp[hfar]
 go_upto_region 11 with fail
 refine wp_region_lit ?_;refine jh rfl 94 [] rfl qg.toArray [] rfl qab ?_;go_wp2_with (refine qi rfl 94 (.tmp 4) (.tmp 61) rfl (w.heap.size+1) 0 rfl qg rfl 94 _ [] qg [] HZ4.1 (by simp) rfl rfl qA (qF _ _ _ _ _) ?_;intro w9 hx9 hg9)
 have HX9:=qe (show Blk w9 (w.heap.size+1) 94 qg from hx9.cast (by simp));refine bodyPost_ret (v:= .tuple #[.agg qg.toArray,zG 12]) (qu (g:=w.heap.size+1) rfl _ _ _ _ _ _ rfl (by first|rfl|exact Hne.1.symm) HX9.1 underlying94 rfl qA) rfl ?_;exact⟨rfl,HK04.1.grown hg9 HK04.1.size (fun k e=>by cases e;omega)⟩
theorem qiz(w:World)(g gm:Nat)(hp1 hp2:List (jm×Nat))(o:jm)(b:Nat)(l:jo)(M:List Int)(t:Bool)(h:Int)(s:BitVec 64)(n:Int)(hB:Blk w g 130 (jf t h s l.link l.place (.map (some gm))))(hH:jn w gm (hp1++(o,b)::hp2))
 (hf:(hp1++(o,b)::hp2).map Prod.fst=l.held)(hok:LOK l)(hM:zz M t h s l)(hc:jb t h s n=0)(hn:o.no=n)(K:Nat)(hKb:K≤g∧K≤gm∧K≤w.heap.size):
 Calls prog 68 #[.pointer (some ⟨g,0,none⟩),.int .i64 n] w fun e w'=>e= .returned (.tuple #[.agg (qy o.no o.key (qx b)).toArray,.nilIface])∧
  Arr b8 w' b 5 (o.key++o.nonce)∧Blk w' g 130 (jf (js t h s n).1 (js t h s n).2.1 (js t h s n).2.2 l.link l.place (.map (some gm)))∧jn w' gm (hp1++hp2)∧Below K w w':=by
 obtain⟨n0,n1,-,-,-⟩:=hM.pass hc;obtain⟨hp,hhp⟩:∃hp,hp=hp1++(o,b)::hp2:=⟨_,rfl⟩;have hr:yM (hp.map Prod.fst):=by rw[hhp,hf];exact hok.rise
 rw[←hhp]at hH hf;have HNo:=qe (qkG (hp:=hp) (n:=n) ⟨(o,b),by rw[hhp];simp,hn⟩);have HNd:=qe (show∀zd,(kP (uI hp)).atKey (.int .i64 n) zd= .held (.agg (qy o.no o.key (qx b)).toArray)from qnz _ _ _ (qkH hr) (by rw[←hn];exact QW.2 ⟨(o,b),by rw[hhp];simp,rfl⟩));have HOk:=qe (show o.key.length=32 from(hok.held o (by rw[←hf,hhp];simp)).2.2.2.2.1);have HOl:=qe (qw o.no o.key (qx b) HOk.1)
 have HHp:=qe hhp;have HR:=qe hr;have HBd:=qe hM.bound;have HCc:=qe hc;have HN:=qe hn;clear hc hf hr hhp hn;have HH:=qe hH;have HS:=qe hok.len;have HPl:=qe hok;obtain⟨w2,hw2⟩:∃w2,w2=(w.alloc (.cells #[.pointer (some ⟨g,0,none⟩)] 123)).alloc (.cells qg.toArray 94):=⟨_,rfl⟩;have HX2:=qe (show Boxed w2 w.heap.size 123 (.pointer (some ⟨g,0,none⟩)) by rw[hw2];exact(Boxed.new w _ _).alloc _)
 have HZ2:=qe (show Blk w2 (w.heap.size+1) 94 qg by rw[hw2];exact Blk.at_size _ _ (by simp));have HB2:=qe (show Blk w2 g 130 (jf t h s l.link l.place (.map (some gm))) by rw[hw2];exact(hB.alloc _).alloc _);have HH2:=qe (show jn w2 gm hp by rw[hw2];exact(hH.alloc _).alloc _);have HK2:=qe (show Below w.heap.size w w2 by rw[hw2];exact((QK _ w).alloc (QI _) _).alloc (by simp) _)
 have hgl:=hB.lt;have hml:=hH.map.lt;have hz2:w2.heap.size=w.heap.size+2:=by rw[hw2];simp
 have HW2:=qe hw2;have HC:=qe (uG g 0 130 _ t h s n w2 (uE.of_line HB2.1) hM.bound);clear hw2 hB hH hok hM;go_enter func68,ntmps68
 go_upto_region 1 with fail
 have hw2:=HW2.1;simp only[q7]at hw2
 rw[←hw2];clear hw2;have cb:=HX2.1.cell;go_wp2_with fail
 refine HC.1.mono ?_;rintro e w3 ⟨rfl,rfl⟩;rw[HCc.1,qW];have hlk:(zeroValue 94).run prog w2= .ok (.agg qg.toArray) w2:=by kernel_rfl
 have c36:=HB2.1.cell 36 (vC HS.1);have hkey:=qmf (a:=n) (by omega) (by omega);have HZn:=qe (show Blk (w2.alloc (.cells qg.toArray 94)) (w.heap.size+2) 94 qg by rw[←hz2];exact Blk.new _ _ _);go_upto_region 4 with fail
 go_upto_region 5 with(first
  |(at_lookup;(refine wpList_lookup_own_ok _ rfl _ _ 128 rfl 3 94 kC underlying128 yL hlk (.held (.agg qg.toArray)) [] qbl gm _ _ rfl HH2.1.map _ _ rfl hkey ?_;intro v ps hv;obtain⟨-,hvy⟩:=uN hv;injection hvy with hv1 hv2;rw[HNd.1]at hv1;injection hv1 with hv1;subst hv1;rw[qb2,HNo.1];clear hv hv2))
  |(refine qi rfl 94 (.tmp 7) (.tmp 30) rfl (w.heap.size+2) 0 rfl (qy o.no o.key (qx b)) rfl 94 _ [] qg [] HZn.1 (by simp) rfl (by have h34:=HOl.1;first|(rw[h34];done)|(rw[h34];rfl)) (by rw[qA,HOl.1]) ((qF _ _ _ _ _)) ?_;intro w4 hx4 hg4))
 have HX4:=qe (show Blk w4 (w.heap.size+2) 94 (qy o.no o.key (qx b))from hx4.cast (by simp));have HK4:=qe (show Below w2.heap.size w2 w4 from((QK _ w2).alloc (QI _) _).grown hg4 (by simp) (fun k e=>by cases e;omega));have hz4:w2.heap.size+1≤w4.heap.size:=by have:=hg4.size;simpa using this
 have HB4:=qe (HB2.1.below HK4.1 (by omega));have HH4:=qe (HH2.1.below HK4.1 (by omega) (fun p hp'=>(HH2.1.mem p hp').lt));have HB0:vM (Boxed w4 w.heap.size 123 (.pointer (some ⟨g,0,none⟩))):=qe ((HK4.1.block _ (by omega)).trans HX2.1);have HZ4:=qe (HZ2.1.below HK4.1 (by omega));have HK04:=qe (HK2.1.trans (HK4.1.mono (by omega)));clear hx4 hg4 c36 cb;have cb:=HB0.1.cell;have c36:=HB4.1.cell 36 (vC HS.1)
 go_upto_region 7 with(first
  |(at_delete;refine wpList_delete_own _ rfl _ _ 128 3 rfl 94 kC underlying128 yL gm _ _ rfl HH4.1.map _ _ rfl hkey ?_;intro w5 hown5 hturn5))
 have hg5:=hturn5.grown;have hgm:gm≠g:=HH4.1.map.not_cells HB4.1;have HX5:=qe (HX4.1.grown hg5 (fun e=>by injection e with e;omega));have HZ5:=qe (HZ4.1.grown hg5 (fun e=>by injection e with e;omega));have HB5:=qe (HB4.1.grown hg5 (fun e=>by injection e with e;exact hgm e.symm));have HO5:=qe (HB0.1.kept hg5 (fun e=>by injection e with e;omega));have HA5:=qe (zJ (HH4.1.mem (o,b) (by rw[HHp.1];simp)) HH4.1.map hg5)
 have HH5:=qe (show jn w5 gm (hp1++hp2)from⟨by
  rw[qmd,qc3 (f:=fun x=>!decide (x=n))]at hown5;have e:hp.filter (fun p=>!decide (p.1.no=n))=hp1++hp2:=by
   have hr:=HR.1;rw[HHp.1]at hr ⊢;rw[Q9,Jd]at hr;obtain⟨-,hr2,hr3⟩:=List.pairwise_append.1 hr;obtain⟨hr4,-⟩:=List.pairwise_cons.1 hr2;rw[List.filter_append,List.filter_cons,if_neg (by simp[HN.1])]
   congr 1
   ·exact List.filter_eq_self.2 (fun p hp'=>by
     have h9:p.1.no<o.no:=hr3 p.1 (QW.2 ⟨p,hp',rfl⟩) o (by simp);have:=HN.1;simp;omega)
   ·exact List.filter_eq_self.2 (fun p hp'=>by
     have h9:o.no<p.1.no:=hr4 p.1 (QW.2 ⟨p,hp',rfl⟩);have:=HN.1;simp;omega)
  rw[e]at hown5;exact zu.of hown5,fun p hp'=>zJ (HH4.1.mem p (by rw[HHp.1];simp at hp' ⊢;rcases hp' with h|h;exact .inl h;exact .inr (.inr h))) HH4.1.map hg5⟩)
 have hz5:=hg5.size;have HK5:=qe (show Below K w w5 from(HK04.1.mono hKb.2.2).grown hg5 (QX hKb.2.2 HK04.1.size) (fun k e=>by cases e;exact hKb.2.1));have HMk:=qe (qma g 0 130 _ t h s n w5.drew (uE.of_line HB5.1.drew) HBd.1);have hk5:w5.drew.rangeAt (w.heap.size+2) 0 (qy o.no o.key (qx b))∧w5.drew.cell? ⟨w.heap.size,0,none⟩=some (.pointer (some ⟨g,0,none⟩)):=⟨HX5.1.drew.whole,HO5.1.cell⟩
 have hu:=underlying94;have hi34:(prog.info? 94).map (·.size)=some (qy o.no o.key (qx b)).length:=by rw[HOl.1];exact qA
 clear hg5 hown5 hturn5;refine wp_region_noPanic ?_;refine wp_region_held_drew (S:=fun w'=>w'.rangeAt (w.heap.size+2) 0 (qy o.no o.key (qx b))∧w'.cell? ⟨w.heap.size,0,none⟩=some (.pointer (some ⟨g,0,none⟩))) (by kernel_rfl) hk5 (fun hS=>?_);refine tkK 0 (.agg (qy o.no o.key (qx b)).toArray) rfl rfl (yieldsIf_load_mid (by rfl) 94 (.tmp 7) rfl (w.heap.size+2) 0 rfl (qy o.no o.key (qx b)) _ (fun _ h=>h.1) hu rfl hi34) hS ?_
 refine tkA 1 (.pointer (some ⟨g,0,none⟩)) hS ?_;refine tkA 2 (.pointer (some ⟨g,0,none⟩)) hS ?_;try simp only[QJ,qj,qz,qv]
 refine tkA 3 (.pointer (some ⟨g,0,none⟩)) hS ?_;refine tkA 4 (.int .i64 n) hS ?_;try simp only[QJ,qj,qz,qv]
 refine rdH 5 (fun K' hK=>?_);go_simp;go_at_call 82;refine(HMk.1).mono ?_;rintro e w6 ⟨rfl,-,hb6⟩;obtain⟨hb6,hg6⟩:=hb6 HCc.1;rw[qdU]at hb6;have HB6:=qe hb6;have hg6':w5.grownBy w6 (some g):=⟨hg6.os,hg6.tape,hg6.output,hg6.size,hg6.block⟩;have HX6:=qe (HX5.1.grown hg6' (fun e=>by injection e with e;omega));have HZ6:=qe (HZ5.1.grown hg6' (fun e=>by injection e with e;omega));have HO6:=qe (HO5.1.kept hg6' (fun e=>by injection e with e;omega))
 have HH6:=qe (HH5.1.cells HB5.1 (by decide) hg6');have HA6:=qe (j6 HA5.1 HB5.1 (by decide) hg6');have HK6:=qe (HK5.1.grown hg6' (QX hKb.2.2 (QX HK04.1.size hz5)) (fun k e=>by cases e;exact hKb.1));rw[HCc.1,qW];clear hb6 hg6;refine hK.out _ _ (⟨HX6.1.whole,HO6.1.cell⟩) (fun hS=>?_);clear hK K';try simp only[QJ,qj,qz,qv]
 refine rdH 6 (fun K' hK=>?_);rw[if_pos (by rfl)];refine qo 94 (.tmp 4) (.tmp 38) rfl (w.heap.size+1) 0 rfl (qy o.no o.key (qx b)) rfl _ _ [] qg [] HZ6.1 (by simp) rfl (by rw[HOl.1];rfl) (by rw[qA,HOl.1]) (qF _ _ _ _ _) ?_;intro w7 hx7 hg7;have HZ7:=qe (show Blk w7 (w.heap.size+1) 94 (qy o.no o.key (qx b))from hx7.cast (by simp));have HG7:=qe hg7;have HX7:=qe (HX6.1.grown hg7 (fun e=>by injection e with e;omega))
 have HO7:=qe (HO6.1.kept hg7 (fun e=>by injection e with e;omega));clear hx7 hg7;refine hK.out _ _ (⟨HX7.1.whole,HO7.1.cell⟩) (fun hS=>?_);clear hK K';try simp only[QJ,qj,qz,qv]
 refine rdH 7 (fun K' hK=>?_);go_simp;refine hK.out _ _ (⟨HX7.1.whole,HO7.1.cell⟩) (fun hS=>?_);clear hK K';try simp only[QJ,qj,qz,qv]
 refine wpAnyH_done (by kernel_rfl) ?_ _;refine Q4 ?_;go_wp2_with fail
 refine bodyPost_ret (v:= .tuple #[.agg (qy o.no o.key (qx b)).toArray,.nilIface]) (qu (g:=w.heap.size+1) rfl _ _ _ _ _ _ rfl rfl HZ7.1 underlying94 rfl (by rw[HOl.1];exact qA)) rfl ?_;exact⟨rfl,j6 HA6.1 HZ6.1 (by decide) HG7.1,HB6.1.grown HG7.1 (fun e=>by injection e with e;omega),HH6.1.cells HZ6.1 (by decide) HG7.1,
  HK6.1.grown HG7.1 (QX hKb.2.2 (QX HK04.1.size (QX hz5 hg6'.size))) (fun k e=>by cases e;omega)⟩
theorem qmk(W:World)(box g:Nat)(T:TypeId)(lc:List Value)(h:Int)(s:BitVec 64)(hb:Boxed W box 123 (.pointer (some ⟨g,0,none⟩)))(hw:uE W g 0 T lc true h s)(hh:0≤h∧h≤4294967295)(x:Int)(cs:List Value):
 Calls prog 100 #[.int .i64 x,.agg cs.toArray,.pointer (some ⟨box,0,none⟩)] W fun e w'=>e= .returned (.bool (decide (x<h-64)))∧W.grownBy w' none:=by
 have cb:=hb.alloc (.cells cs.toArray 94)|>.cell
 have HHi:=qe (qmb g 0 T lc true h s (W.alloc (.cells cs.toArray 94)) ⟨hw.blk.alloc _,hw.e0,hw.e1,hw.e2⟩);have hs:IntKind.i64.wrap (h-64)=h-64:=Jc _ (by omega);clear hb hw;go_enter func100,ntmps100
 go_wp2_with fail
 refine HHi.1.mono ?_;rintro e w1 ⟨rfl,rfl⟩;simp only[if_true];go_wp2_with fail
 go_ret;exact⟨rfl,World.grownBy_alloc W _ none⟩
def qiA(n:Int)(g:Nat)(w:World):Nat:=
 match w.cell? ⟨g,35,none⟩with
 |some (.int _ p)=>(n-p).toNat
 |_=>0
theorem qe1{n:Int}{g:Nat}{w:World}{t:Bool}{h:Int}{s:BitVec 64}{link:qf}{p:Int}{m:Value}(hB:Blk w g 130 (jf t h s link p m))(hl:link.length=32):qiA n g w=(n-p).toNat:=by
 unfold qiA;rw[hB.cell 35 (zR hl)]
theorem yS(link:qf)(n:Int):(ofL link n).no=n:=by simp only[ofL]
theorem qa3(link:qf)(n:Int):(ofL link n).key=(ki link ku 44).take 32:=by simp only[ofL]
theorem qbB(link:qf)(n:Int):(ofL link n).nonce=(ki link ku 44).drop 32:=by simp only[ofL]
theorem qml(o:jm)(b:Nat):uI [(o,b)]=[(o.no,.agg (qy o.no o.key (qx b)).toArray)]:=rfl
theorem zz.top{M:List Int}{t:Bool}{h:Int}{s:BitVec 64}{l:jo}(x:zz M t h s l){n:Int}(hn:l.place≤n):∃s',js t h s n=(true,n,s'):=by
 unfold js;cases t with
 |false=>exact⟨_,rfl⟩
 |true=>
  have h1:=(x.inv.some_ rfl).1;have h2:=x.hi;rw[if_neg (by simp),if_neg (by omega)];exact⟨_,rfl⟩
theorem qgS:∀(l:List jm) (a b:Int),yM l→(∀o∈l,a≤o.no∧o.no<b)→(l.length:Int)≤max 0 (b-a)
 | [],_,_,_,_=>by simp;omega
 |o::r,a,b,hr,h=>by
  obtain⟨h1,h2⟩:=List.pairwise_cons.1 hr;have ho:=h o (by simp);have ih:=qgS r (o.no+1) b h2 (fun x hx=>⟨by have:=h1 x hx;omega,(h x (by simp[hx])).2⟩);simp only[Jr];omega
structure Qy(w0 wr:World)(K g gm:Nat)(hp rs:List (jm×Nat))(l:jo)(t:Bool)(h:Int)(s:BitVec 64)(j:Nat):Prop where
 fst:rs.map Prod.fst=uv l.link l.place j
 box:Boxed wr w0.heap.size 123 (.pointer (some ⟨g,0,none⟩))
 zero:Blk wr (w0.heap.size+1) 94 qg
 line:Blk wr g 130 (jf t h s (jt l.link j) (l.place+(j:Int)) (.map (some gm)))
 held:jn wr gm (hp++rs)
 nd:((hp++rs).map Jp).Nodup
 new:∀p∈rs,w0.heap.size≤p.2
 below:Below K w0 wr
 size:w0.heap.size+3≤wr.heap.size
theorem Qy.more{w0 wr w8:World}{K g gm:Nat}{hp rs:List (jm×Nat)}{l:jo}{t:Bool}{h:Int}{s:BitVec 64}{j b:Nat}(x:Qy w0 wr K g gm hp rs l t h s j)(hf:hp.map Prod.fst=l.held)(hok:LOK l)
 (hb:wr.heap.size≤b)(hbox:Boxed w8 w0.heap.size 123 (.pointer (some ⟨g,0,none⟩)))(hz:Blk w8 (w0.heap.size+1) 94 qg)
 (hl:Blk w8 g 130 (jf t h s (jt l.link (j+1)) (l.place+(j:Int)+1) (.map (some gm))))(hm:zu w8 gm (uI (hp++rs)++ [(l.place+(j:Int),.agg (qy (l.place+(j:Int)) ((ki (jt l.link j) ku 44).take 32) (qx b)).toArray)]))
 (hmem:∀p∈hp++rs,Arr b8 w8 p.2 5 (p.1.key++p.1.nonce))(hA:Arr b8 w8 b 5 (ki (jt l.link j) ku 44))(hB:Below K w0 w8)(hs:w0.heap.size+3≤w8.heap.size)(hlt:∀p∈hp++rs,p.2<wr.heap.size):
 Qy w0 w8 K g gm hp (rs++ [(ofL (jt l.link j) (l.place+(j:Int)),b)]) l t h s (j+1) where
 fst:=by simp only[Q9,x.fst,Jd,Jt,uv]
 box:=hbox
 zero:=hz
 line:=by
  have e:l.place+((j+1:Nat):Int)=l.place+(j:Int)+1:=by omega
  rw[e];exact hl
 held:=⟨by
  rw[←Jb,qmh,qml,yS,qa3];exact hm,fun p hp'=>by
  rw[←Jb]at hp';rcases QS.1 hp' with h1|h1
  ·exact hmem p h1
  ·rw[Je]at h1;subst h1
   rw[qa3,qbB,JV];exact hA⟩
 nd:=by
  rw[←Jb,Q9];refine J9.2 ⟨x.nd,by simp,fun a ha c hc e=>?_⟩;simp only[Jd,Jt,Je]at hc;obtain⟨p,hp',rfl⟩:=QW.1 ha;have:=hlt p hp';omega
 new:=fun p hp'=>by
  rcases QS.1 hp' with h1|h1
  ·exact x.new p h1
  ·rw[Je]at h1;subst h1
   have:=x.size;show w0.heap.size≤b;omega
 below:=hB
 size:=hs
theorem Qy.keys{w0 wr:World}{K g gm:Nat}{hp rs:List (jm×Nat)}{l:jo}{t:Bool}{h:Int}{s:BitVec 64}{j:Nat}(x:Qy w0 wr K g gm hp rs l t h s j)(hf:hp.map Prod.fst=l.held)(hok:LOK l):∀q∈uI (hp++rs),q.1<l.place+(j:Int):=by
 intro q hq;obtain⟨p,hp',rfl⟩:=QW.1 hq;show p.1.no<l.place+(j:Int);rcases QS.1 hp' with h1|h1
 ·have:=(hok.held p.1 (by rw[←hf];exact QW.2 ⟨p,h1,rfl⟩)).2.1
  omega
 ·have h2:p.1∈uv l.link l.place j:=by rw[←x.fst];exact QW.2 ⟨p,h1,rfl⟩
  obtain⟨i,hi,e⟩:=(uw _ _ _ _).1 h2;rw[e,yS];omega
theorem Qy.len{w0 wr:World}{K g gm:Nat}{hp rs:List (jm×Nat)}{l:jo}{t:Bool}{h:Int}{s:BitVec 64}{j:Nat}(x:Qy w0 wr K g gm hp rs l t h s j)(hf:hp.map Prod.fst=l.held)(hok:LOK l)(hj:j≤256):(uI (hp++rs)).length<maxLen:=by
 have h1:hp.length=l.held.length:=by rw[←hf,QN]
 have h2:rs.length=j:=by have:=congrArg JT x.fst;rwa[QN,qgK]at this
 have h3:=qgS l.held (l.place-65) l.place hok.rise (fun o ho=>⟨(hok.held o ho).2.2.2.1,(hok.held o ho).2.1⟩);unfold uI maxLen;rw[QN,QO];omega
theorem qkI(w:World)(g gm:Nat)(hp:List (jm×Nat))(l:jo)(M:List Int)(t:Bool)(h:Int)(s:BitVec 64)(n:Int)(k:Nat)(hB:Blk w g 130 (jf t h s l.link l.place (.map (some gm))))(hH:jn w gm hp)
 (hf:hp.map Prod.fst=l.held)(hnd:(hp.map Jp).Nodup)(hok:LOK l)(hM:zz M t h s l)(hc:jb t h s n=0)(hno:∀p∈hp,p.1.no≠n)(hnk:n=l.place+(k:Int))(hk:k≤256)(K:Nat)(hKb:K≤g∧K≤gm∧K≤w.heap.size):
 Calls prog 68 #[.pointer (some ⟨g,0,none⟩),.int .i64 n] w fun e w'=>∃b hp',e= .returned (.tuple #[.agg (qy n ((ki (jt l.link k) ku 44).take 32) (qx b)).toArray,.nilIface])∧
  Arr b8 w' b 5 (ki (jt l.link k) ku 44)∧Blk w' g 130 (jf (js t h s n).1 (js t h s n).2.1 (js t h s n).2.2 (jt l.link (k+1)) (n+1) (.map (some gm)))∧
  jn w' gm hp'∧hp'.map Prod.fst=(l.held++uv l.link l.place k).filter (fun o=>!decide (o.no<n-64))∧(b::hp'.map Jp).Nodup∧(∀x∈b::hp'.map Jp,x∈hp.map Jp∨w.heap.size≤x)∧Below K w w':=by
 obtain⟨n0,n1,-,-,-⟩:=hM.pass hc;have p0:=hok.low0;have p1:=hok.lowp;have p2:=hok.top;have HNo:=qe (qcz hno);have HNd:=qe (show∀zd,(kP (uI hp)).atKey (.int .i64 n) zd=zd from qcx _ _ (fun q hq=>by obtain⟨p,hp',rfl⟩:=QW.1 hq;exact hno p hp'));have HCc:=qe hc;have HBd:=qe hM.bound;have HF:=qe hf;have HNd2:=qe hnd;have HNk:=qe hnk;have HMs:=qe hM;have HLt:=qe (show∀p∈hp,p.2<w.heap.size from fun p hp'=>(hH.mem p hp').lt)
 clear hc hf hno hnd;have hlo:l.place≤n:=by omega
 clear hnk;have HH:=qe hH;have HS:=qe hok.len;have HPl:=qe hok;obtain⟨w2,hw2⟩:∃w2,w2=(w.alloc (.cells #[.pointer (some ⟨g,0,none⟩)] 123)).alloc (.cells qg.toArray 94):=⟨_,rfl⟩;have HX2:=qe (show Boxed w2 w.heap.size 123 (.pointer (some ⟨g,0,none⟩)) by rw[hw2];exact(Boxed.new w _ _).alloc _);have HZ2:=qe (show Blk w2 (w.heap.size+1) 94 qg by rw[hw2];exact Blk.at_size _ _ (by simp))
 have HB2:=qe (show Blk w2 g 130 (jf t h s l.link l.place (.map (some gm))) by rw[hw2];exact(hB.alloc _).alloc _);have HH2:=qe (show jn w2 gm hp by rw[hw2];exact(hH.alloc _).alloc _);have HK2:=qe (show Below w.heap.size w w2 by rw[hw2];exact((QK _ w).alloc (QI _) _).alloc (by simp) _);have hgl:=hB.lt;have hml:=hH.map.lt;have hz2:w2.heap.size=w.heap.size+2:=by rw[hw2];simp
 have HW2:=qe hw2;have HC:=qe (uG g 0 130 _ t h s n w2 (uE.of_line HB2.1) hM.bound);clear hw2 hB hH hok hM;go_enter func68,ntmps68
 go_upto_region 1 with fail
 have hw2:=HW2.1;simp only[q7]at hw2
 rw[←hw2];clear hw2;have cb:=HX2.1.cell;go_wp2_with fail
 refine HC.1.mono ?_;rintro e w3 ⟨rfl,rfl⟩;rw[HCc.1,qW];have hlk:(zeroValue 94).run prog w2= .ok (.agg qg.toArray) w2:=by kernel_rfl
 have c36:=HB2.1.cell 36 (vC HS.1);have hkey:=qmf (a:=n) (by omega) (by omega);have HZn:=qe (show Blk (w2.alloc (.cells qg.toArray 94)) (w.heap.size+2) 94 qg by rw[←hz2];exact Blk.new _ _ _);go_upto_region 4 with fail
 go_upto_region 5 with(first
  |(at_lookup;(refine wpList_lookup_own_ok _ rfl _ _ 128 rfl 3 94 kC underlying128 yL hlk (.held (.agg qg.toArray)) [] qbl gm _ _ rfl HH2.1.map _ _ rfl hkey ?_;intro v ps hv;obtain⟨-,hvy⟩:=uN hv;injection hvy with hv1 hv2;rw[HNd.1]at hv1;injection hv1 with hv1;subst hv1;rw[qb2,HNo.1];clear hv hv2))
  |(refine qi rfl 94 (.tmp 7) (.tmp 30) rfl (w.heap.size+2) 0 rfl (qg) rfl 94 _ [] qg [] HZn.1 (by simp) rfl (by have h34:=vh;first|(rw[h34];done)|(rw[h34];rfl)) (by rw[qA,vh]) ((qF _ _ _ _ _)) ?_;intro w4 hx4 hg4))
 have HX4:=qe (show Blk w4 (w.heap.size+2) 94 (qg)from hx4.cast (by simp));have HK4:=qe (show Below w2.heap.size w2 w4 from((QK _ w2).alloc (QI _) _).grown hg4 (by simp) (fun k e=>by cases e;omega));have hz4:w2.heap.size+1≤w4.heap.size:=by have:=hg4.size;simpa using this
 have HB4:=qe (HB2.1.below HK4.1 (by omega));have HH4:=qe (HH2.1.below HK4.1 (by omega) (fun p hp'=>(HH2.1.mem p hp').lt));have HB0:vM (Boxed w4 w.heap.size 123 (.pointer (some ⟨g,0,none⟩))):=qe ((HK4.1.block _ (by omega)).trans HX2.1);have HZ4:=qe (HZ2.1.below HK4.1 (by omega));have HK04:=qe (HK2.1.trans (HK4.1.mono (by omega)));clear hx4 hg4 c36 cb;have cb:=HB0.1.cell;have c35:=HB4.1.cell 35 (zR HS.1)
 have hd:decide (n<l.place)=false:=by simp;omega
 have hsub:IntKind.i64.wrap (n-l.place)=n-l.place:=Jc _ (by omega);have hd2:decide (256<n-l.place)=false:=by have:=HNk.1;simp;omega
 go_wp2_with fail
 have HI:=qe (show Qy w w4 K g gm hp [] l t h s 0 from⟨rfl,HB0.1,HZ4.1,(by rw[show l.place+((0:Nat):Int)=l.place by omega];exact HB4.1),(by rw[Zb];exact HH4.1),(by rw[Zb];exact HNd2.1),(fun p hp'=>by cases hp'),HK04.1.mono hKb.2.2,by omega⟩);clear HX4 HK4 HB4 HH4 HB0 HZ4 HK04 HX2 HZ2 HB2 HH2 HK2 HH HC HZn c35 cb hd hsub hd2 hz4 HNo HNd;go_loopw [10] (fun _ wr=>∃(j:Nat) (rs:List (jm×Nat)),j≤k∧Qy w wr K g gm hp rs l t h s j) (fun _ wr=>qiA n g wr)
 case atStart=>exact⟨0,[],by omega,HI.1⟩
 case round=>
  clear HI;obtain⟨j,rs,hjk,hI⟩:=hrel;have HI:=qe hI;have hsz:=hI.size;have HLk:=qe (vL l.link HS.1 j);have hrest:=qe1 (n:=n) hI.line HLk.1;have HRest:=qe hrest;have cb:=hI.box.cell;have c35:=hI.line.cell 35 (zR HLk.1);clear hI hrest;by_cases hlt:j<k
  ·have hd:decide (l.place+(j:Int)<n)=true:=by have:=HNk.1;simp;omega
   obtain⟨V,hV⟩:∃V,V=ki (jt l.link j) ku 44:=⟨_,rfl⟩;obtain⟨Kk,hKk⟩:∃Kk,Kk=V.take 32:=⟨_,rfl⟩;obtain⟨q,hq⟩:∃q,q=l.place+(j:Int):=⟨_,rfl⟩;have HKl:=qe (show Kk.length=32 by rw[hKk,hV,QV,kO _ _ _ (by omega)];rfl);have hst:=qgR wr g t h s (jt l.link j) (l.place+(j:Int)) (.map (some gm)) HI.1.line HLk.1 (by have:=HNk.1;omega);rw[←hV,←hKk,←hq]at hst;have HSt:=qe hst
   have hq0:0≤q∧q≤4294967295:=by have:=HNk.1;omega
   have HV:=qe hV;have HKk:=qe hKk;have HQ:=qe hq;rw[←hq]at c35 hd;clear hst hV hKk hq;go_wp2_with fail
   refine HSt.1.mono ?_;rintro e w5 ⟨b,rfl,hb5,hA5,hB5,hg5⟩;have HA5:=qe hA5;have HB5:=qe (show Blk w5 g 130 (jf t h s (jt l.link (j+1)) (q+1) (.map (some gm)))from hB5);have hbl:=hA5.lt;have hz5:=hg5.size;have HX5:=qe (HI.1.box.kept hg5 (fun e=>by injection e with e;omega));have HZ5:=qe (HI.1.zero.grown hg5 (fun e=>by injection e with e;omega));have HH5:=qe (HI.1.held.cells HI.1.line (by decide) hg5)
   have HK5:=qe (HI.1.below.grown hg5 (QX hKb.2.2 (by omega)) (fun k e=>by cases e;exact hKb.1));have HZa:=qe (show Blk (w5.alloc (.cells qg.toArray 94)) w5.heap.size 94 qg from Blk.new _ _ _);clear hA5 hB5 hg5 HSt;go_upto_region 16 with(refine qi rfl 94 (.tmp 9) (.tmp 72) rfl w5.heap.size 0 rfl (qy q Kk (qx b)) rfl 94 _ [] qg [] HZa.1 (by simp) rfl (by rw[qw _ _ _ HKl.1];rfl) (by rw[qA,qw _ _ _ HKl.1]) (qF _ _ _ _ _) ?_;intro w6 hx6 hg6)
   have HX6:=qe (show Blk w6 w5.heap.size 94 (qy q Kk (qx b))from hx6.cast (by simp));have HK6:=qe (show Below w5.heap.size w5 w6 from((QK _ w5).alloc (QI _) _).grown hg6 (by simp) (fun k e=>by cases e;exact QI _));have hz6:=HK6.1.size;have hm6:=HH5.1.map.lt;have HP6:=qe (HX5.1.kept (World.grownBy.but ⟨HK6.1.os,HK6.1.tape,HK6.1.output,HK6.1.size,fun i hi _=>HK6.1.block i hi⟩ none) (by simp))
   have HB6:=qe (HB5.1.below HK6.1 (by omega));have HZ6:=qe (HZ5.1.below HK6.1 (by omega));have HH6:=qe (HH5.1.below HK6.1 hm6 (fun p hp'=>(HH5.1.mem p hp').lt));have HA6:=qe (HA5.1.below HK6.1 hbl);clear hx6 hg6 HX5 HZ5 HH5;have hkey:=qmf (a:=q) (by omega) (by omega);obtain⟨w8,hrun,hown8,hturn8⟩:=World.ownsMap.store (val:= .agg (qy q Kk (qx b)).toArray) HH6.1.map.drew kC underlying128 (HI.1.len HF.1 HPl.1 (by omega)) hkey (qjA (qgN (qw _ _ _ HKl.1) (qF q Kk (some ⟨b,32,none⟩) 12 12)))
   have hg8:=hturn8.grown;have hg8':w6.grownBy w8 (some gm):=⟨hg8.os,hg8.tape,hg8.output,hg8.size,hg8.block⟩;have hgm:gm≠g:=HH6.1.map.not_cells HB6.1;rw[qme _ _ _ (by rw[HQ.1];exact HI.1.keys HF.1 HPl.1)]at hown8;have HM8:=qe (zu.of hown8);have HX8:=qe (HX6.1.grown hg8' (fun e=>by injection e with e;have:=HI.1.held.map.lt;omega));have HP8:=qe (HP6.1.kept hg8' (fun e=>by injection e with e;omega))
   have HB8:=qe (HB6.1.grown hg8' (fun e=>by injection e with e;exact hgm e.symm));have HZ8:=qe (HZ6.1.grown hg8' (fun e=>by injection e with e;omega));have HA8:=qe (zJ HA6.1 HH6.1.map hg8');have HN8:=qe (show∀p∈hp++rs,Arr b8 w8 p.2 5 (p.1.key++p.1.nonce)from fun p hp'=>zJ (HH6.1.mem p hp') HH6.1.map hg8');have HK8:=qe (show Below K w w8 from(HK5.1.trans (HK6.1.mono (by omega))).grown hg8' (by omega) (fun k e=>by cases e;exact hKb.2.1))
   have hz8:=hg8'.size;have hk6:=show w6.drew.rangeAt w5.heap.size 0 (qy q Kk (qx b))∧w6.drew.cell? ⟨w.heap.size,0,none⟩=some (.pointer (some ⟨g,0,none⟩))∧w6.drew.cell? ⟨g,36,none⟩=some (.map (some gm))∧w6.drew.cell? ⟨w5.heap.size,0,none⟩=some (.int .i64 q)from
    ⟨HX6.1.drew.whole,HP6.1.cell,HB6.1.drew.cell 36 (vC (vL _ HS.1 _)),HX6.1.drew.cell 0 rfl⟩
   have hk8:=show w8.rangeAt w5.heap.size 0 (qy q Kk (qx b))∧w8.cell? ⟨w.heap.size,0,none⟩=some (.pointer (some ⟨g,0,none⟩))∧w8.cell? ⟨g,36,none⟩=some (.map (some gm))∧w8.cell? ⟨w5.heap.size,0,none⟩=some (.int .i64 q)from
    ⟨HX8.1.whole,HP8.1.cell,HB8.1.cell 36 (vC (vL _ HS.1 _)),HX8.1.cell 0 rfl⟩
   have hu:=underlying94;have hi34:(prog.info? 94).map (·.size)=some (qy q Kk (qx b)).length:=by rw[qw _ _ _ HKl.1];exact qA
   clear hown8 hturn8 hg8 hg8';refine wp_region_noPanic ?_;refine wp_region_held_drew (S:=fun w'=>w'.rangeAt w5.heap.size 0 (qy q Kk (qx b))∧w'.cell? ⟨w.heap.size,0,none⟩=some (.pointer (some ⟨g,0,none⟩))∧w'.cell? ⟨g,36,none⟩=some (.map (some gm))∧w'.cell? ⟨w5.heap.size,0,none⟩=some (.int .i64 q)) (by kernel_rfl) hk6 (fun hS=>?_);refine tkA 0 (.pointer (some ⟨g,0,none⟩)) hS ?_;refine tkA 1 (.pointer (some ⟨g,0,none⟩)) hS ?_
   refine tkA 2 (.pointer (some ⟨g,36,none⟩)) hS ?_;try simp only[QJ,qj,qz,qv]
   refine tkA 3 (.map (some gm)) hS ?_;refine tkA 4 (.pointer (some ⟨w5.heap.size,0,none⟩)) hS ?_;refine tkA 5 (.int .i64 q) hS ?_;try simp only[QJ,qj,qz,qv]
   refine tkK 6 (.agg (qy q Kk (qx b)).toArray) rfl rfl (yieldsIf_load_mid (by rfl) 94 (.tmp 9) rfl w5.heap.size 0 rfl (qy q Kk (qx b)) _ (fun _ h=>h.1) hu rfl hi34) hS ?_;try simp only[QJ,qj,qz,qv]
   refine rdH 7 (fun K' hK=>?_);go_simp;refine hK.out _ _ (hk8) (fun hS=>?_);clear hK K';try simp only[QJ,qj,qz,qv]
   refine wpAnyH_done (by kernel_rfl) ?_ _;refine Q4 ?_;go_wp2_with fail
   go_roundw
   case rel=>
    refine⟨j+1,rs++ [(ofL (jt l.link j) (l.place+(j:Int)),b)],by omega,?_⟩;have hq:=HQ.1;subst hq;exact HI.1.more HF.1 HPl.1 hb5 HP8.1 HZ8.1 HB8.1 (by rw[←HV.1,←HKk.1];exact HM8.1) HN8.1 (by rw[←HV.1];exact HA8.1) HK8.1 (by omega) (fun p hp'=>(HI.1.held.mem p hp').lt)
   case measure=>
    rw[HRest.1,qe1 (n:=n) HB8.1 (vL _ HS.1 _)];have:=HQ.1;have:=HNk.1;omega
  ·obtain rfl:j=k:=by omega
   have hn2:=HNk.1;have hd:decide (n<n)=false:=by simp
   obtain⟨V,hV⟩:∃V,V=ki (jt l.link j) ku 44:=⟨_,rfl⟩;obtain⟨Kk,hKk⟩:∃Kk,Kk=V.take 32:=⟨_,rfl⟩;have HKl:=qe (show Kk.length=32 by rw[hKk,hV,QV,kO _ _ _ (by omega)];rfl);have hst:=qgR wr g t h s (jt l.link j) (l.place+(j:Int)) (.map (some gm)) HI.1.line HLk.1 (by omega);rw[←hV,←hKk,←hn2]at hst;have HSt:=qe hst;have HV:=qe hV;have HKk:=qe hKk;rw[←hn2]at c35
   obtain⟨s',hs'⟩:=HMs.1.top hlo;have HMk0:=qe hs';clear hst hV hKk hn2 hs';go_wp2_with fail
   refine HSt.1.mono ?_;rintro e w5 ⟨b,rfl,hb5,hA5,hB5,hg5⟩;have HA5:=qe hA5;have HB5:=qe (show Blk w5 g 130 (jf t h s (jt l.link (j+1)) (n+1) (.map (some gm)))from hB5);have hbl:=hA5.lt;have hz5:=hg5.size;have HX5:=qe (HI.1.box.kept hg5 (fun e=>by injection e with e;omega));have HZ5:=qe (HI.1.zero.grown hg5 (fun e=>by injection e with e;omega));have HH5:=qe (HI.1.held.cells HI.1.line (by decide) hg5)
   have HK5:=qe (HI.1.below.grown hg5 (QX hKb.2.2 (by omega)) (fun k e=>by cases e;exact hKb.1));have HZa:=qe (show Blk (w5.alloc (.cells qg.toArray 94)) w5.heap.size 94 qg from Blk.new _ _ _);clear hA5 hB5 hg5 HSt;go_upto_region 18 with(refine qi rfl 94 (.tmp 11) (.tmp 88) rfl w5.heap.size 0 rfl (qy n Kk (qx b)) rfl 94 _ [] qg [] HZa.1 (by simp) rfl (by rw[qw _ _ _ HKl.1];rfl) (by rw[qA,qw _ _ _ HKl.1]) (qF _ _ _ _ _) ?_;intro w6 hx6 hg6)
   have HX6:=qe (show Blk w6 w5.heap.size 94 (qy n Kk (qx b))from hx6.cast (by simp));have HK6:=qe (show Below w5.heap.size w5 w6 from((QK _ w5).alloc (QI _) _).grown hg6 (by simp) (fun k e=>by cases e;exact QI _));have hz6:w5.heap.size+1≤w6.heap.size:=by have:=hg6.size;simpa using this
   have hm6:=HH5.1.map.lt;have HP6:=qe (HX5.1.kept (World.grownBy.but ⟨HK6.1.os,HK6.1.tape,HK6.1.output,HK6.1.size,fun i hi _=>HK6.1.block i hi⟩ none) (by simp));have HB6:=qe (HB5.1.below HK6.1 (by omega));have HZ6:=qe (HZ5.1.below HK6.1 (by omega));have HH6:=qe (HH5.1.below HK6.1 hm6 (fun p hp'=>(HH5.1.mem p hp').lt));have HA6:=qe (HA5.1.below HK6.1 hbl);have HMk:=qe (qma g 0 130 _ t h s n w6 (uE.of_line HB6.1) HBd.1)
   have hgm:gm≠g:=HH6.1.map.not_cells HB6.1;have hml2:=HI.1.held.map.lt;have cb:=HP6.1.cell;clear hx6 hg6 HX5 HZ5 HH5;go_wp2_with fail
   refine HMk.1.mono ?_;rintro e w7 ⟨rfl,-,hb7⟩;obtain⟨hb7,hg7⟩:=hb7 HCc.1;rw[qdU]at hb7;have HB7:=qe hb7;have HX7:=qe (HX6.1.grown hg7 (fun e=>by injection e with e;omega));have HZ7:=qe (HZ6.1.grown hg7 (fun e=>by injection e with e;omega));have HP7:=qe (HP6.1.kept hg7 (fun e=>by injection e with e;omega));have HH7:=qe (HH6.1.cells HB6.1 (by decide) hg7);have HA7:=qe (j6 HA6.1 HB6.1 (by decide) hg7)
   have HK7:=qe (show Below K w w7 from(HK5.1.trans (HK6.1.mono (by omega))).grown hg7 (by omega) (fun k e=>by cases e;exact hKb.1));have hz7:=hg7.size;have cb:=HP7.1.cell;have c36:=HB7.1.cell 36 (vC (vL _ HS.1 _));rw[HCc.1,qW];have hdel:=qgQ (n-64) 100 #[.pointer (some ⟨w.heap.size,0,none⟩)] gm _ w7 HH7.1.map (fun args w=>by kernel_rfl) (fun W x cs hW=>by
    have hb':=HB7.1.grown hW (fun e=>by injection e with e;exact hgm e.symm);rw[HMk0.1]at hb';exact qmk W w.heap.size g _ _ n s' (HP7.1.kept hW (fun e=>by injection e with e;omega)) (uE.of_line hb') (by omega) x cs)
   have HDel:=qe hdel;clear hb7 hg7 hdel;go_wp2_with fail
   refine HDel.1.mono ?_;rintro e w8 ⟨rfl,hm8,hg8⟩;rw[qc3 (f:=fun x=>!decide (x<n-64))]at hm8;obtain⟨hp',hhp⟩:∃hp',hp'=(hp++rs).filter (fun p=>!decide (p.1.no<n-64)):=⟨_,rfl⟩;rw[←hhp]at hm8;have hsub:∀p∈hp',p∈hp++rs:=fun p hp2=>by rw[hhp]at hp2;exact(List.mem_filter.1 hp2).1
   have HX8:=qe (HX7.1.grown hg8 (fun e=>by injection e with e;omega));have HZ8:=qe (HZ7.1.grown hg8 (fun e=>by injection e with e;omega));have HB8:=qe (HB7.1.grown hg8 (fun e=>by injection e with e;exact hgm e.symm));have HH8:jn w8 gm hp':=⟨hm8,fun p hp2=>zJ (HH7.1.mem p (hsub p hp2)) HH7.1.map hg8⟩;have HA8:=zJ HA7.1 HH7.1.map hg8;have HK8:=qe (HK7.1.grown hg8 (by omega) (fun k e=>by cases e;exact hKb.2.1))
   have HH8':=qe HH8;have HA8':=qe HA8;have HHp:=qe hhp;have HSub:=qe hsub;have hz8:=hg8.size;clear hm8 hg8 HH8 HA8 hhp hsub HDel;go_upto_region 24 with fail
   refine wp_region_lit ?_;refine wpList_load_mid rfl 94 (.tmp 11) rfl w5.heap.size 0 rfl (qy n Kk (qx b)) _ HX8.1.whole underlying94 rfl (by rw[qA,qw _ _ _ HKl.1]) ?_;go_wp2_with (refine qi rfl 94 (.tmp 4) (.tmp 109) rfl (w.heap.size+1) 0 rfl (qy n Kk (qx b)) rfl 94 _ [] qg [] HZ8.1 (by simp) rfl (by rw[qw _ _ _ HKl.1];rfl) (by rw[qA,qw _ _ _ HKl.1]) (qF _ _ _ _ _) ?_;intro w9 hx9 hg9)
   have HX9:=qe (show Blk w9 (w.heap.size+1) 94 (qy n Kk (qx b))from hx9.cast (by simp));refine bodyPost_ret (v:= .tuple #[.agg (qy n Kk (qx b)).toArray,.nilIface]) (qu (g:=w.heap.size+1) rfl _ _ _ _ _ _ rfl rfl HX9.1 underlying94 rfl (by rw[qA,qw _ _ _ HKl.1])) rfl ?_;refine⟨b,hp',by rw[HKk.1,HV.1],?_,?_,HH8'.1.cells HZ8.1 (by decide) hg9,?_,?_,?_,HK8.1.grown hg9 (by omega) (fun k e=>by cases e;omega)⟩
   ·rw[←HV.1];exact j6 HA8'.1 HZ8.1 (by decide) hg9
   ·exact HB8.1.grown hg9 (fun e=>by injection e with e;omega)
   ·rw[HHp.1,←HF.1,←HI.1.fst,←Q9,List.filter_map];rfl
   ·refine List.nodup_cons.2 ⟨fun hin=>?_,?_⟩
    ·obtain⟨p,hp2,e⟩:=QW.1 hin
     have:=(HI.1.held.mem p (HSub.1 p hp2)).lt;omega
    ·rw[HHp.1]
     exact HI.1.nd.sublist (List.Sublist.map _ List.filter_sublist)
   ·intro x hx
    rcases Ja.1 hx with rfl|hx
    ·exact .inr (by omega)
    ·obtain⟨p,hp2,rfl⟩:=QW.1 hx
     rcases QS.1 (HSub.1 p hp2)with h1|h1
     ·exact .inl (QW.2 ⟨p,h1,rfl⟩)
     ·exact .inr (HI.1.new p h1)
structure LP where
 l:jo
 hp:List (jm×Nat)
 gm:Nat
 t:Bool
 h:Int
 s:BitVec 64
 M:List Int
def LP.cells(x:LP):List Value:=jf x.t x.h x.s x.l.link x.l.place (.map (some x.gm))
structure LP.OK(x:LP):Prop where
 lok:LOK x.l
 marks:zz x.M x.t x.h x.s x.l
 fst:x.hp.map Prod.fst=x.l.held
 nd:(x.hp.map Jp).Nodup
theorem LP.cells_len(x:LP)(h:x.OK):x.cells.length=37:=kD _ _ _ _ _ _ h.lok.len
theorem qkJ{l:jo}(k:LOK l){n:Int}(hn:n<l.place)(h0:qQ l n=0):jR l n=⟨l.link,l.place,l.held.filter (fun o=>!decide (o.no=n)),l.asked++ [n],l.low⟩:=by
 have e0:(n+1-l.place).toNat=0:=by omega
 have hh:hiA (l.asked++ [n]) l.low=l.place-1:=by
  rw[qbZ];have:=k.hi;unfold hiM at this;rw[this,if_neg (by omega)]
 unfold jR kB;rw[e0,if_neg (by omega),hh];simp only[jt,uv,Zb]
 congr 1
 refine List.filter_congr (fun o ho=>?_);have:=(k.held o ho).2.2.2.1;unfold ux;have h2:decide (l.place-1-64≤o.no)=true:=by simp;omega
 rw[h2,Bool.and_true];by_cases h3:o.no=n
 ·simp[h3]
 ·simp[h3]
theorem qcA{l:jo}(k:LOK l){n:Int}(hn:n<l.place)(h0:qQ l n=0){o:jm}(ho:o∈l.held)(hno:o.no=n):qS l n=o:=by
 have e0:(n+1-l.place).toNat=0:=by omega
 unfold qS kB;rw[if_pos h0,e0];simp only[uv,Zb];rw[←hno];exact ql4 k.rise ho
theorem qkK{l:jo}(kk:LOK l){n:Int}{k:Nat}(hn:n=l.place+(k:Int))(h0:qQ l n=0):
 jR l n=⟨jt l.link (k+1),n+1,(l.held++uv l.link l.place k).filter (fun o=>!decide (o.no<n-64)),l.asked++ [n],l.low⟩:=by
 have e0:(n+1-l.place).toNat=k+1:=by omega
 have hh:hiA (l.asked++ [n]) l.low=n:=by
  rw[qbZ];have:=kk.hi;unfold hiM at this;rw[this,if_pos (by omega)]
 unfold jR kB;rw[e0,if_pos (by omega),hh]
 congr 1
 rw[show uv l.link l.place (k+1)=uv l.link l.place k++ [ofL (jt l.link k) (l.place+(k:Int))]from rfl,←Jb,List.filter_append,List.filter_cons,if_neg (by unfold ux;rw[yS];simp;omega),List.filter_nil,Zb];refine List.filter_congr (fun o ho=>?_);have hlt:o.no<n:=by
  rcases QS.1 ho with h1|h1
  ·have:=(kk.held o h1).2.1;omega
  ·obtain⟨j,hj,rfl⟩:=(uw _ _ _ _).1 h1
   rw[yS];omega
 unfold ux;have h2:(o.no==n)=false:=by simp;omega
 rw[h2];by_cases h3:o.no<n-64
 ·simp[h3]
 ·simp[h3];omega
theorem qbm{l:jo}{n:Int}{k:Nat}(hn:n=l.place+(k:Int))(h0:qQ l n=0):qS l n=ofL (jt l.link k) n:=by
 have e0:(n+1-l.place).toNat=k+1:=by omega
 unfold qS kB;rw[if_pos h0,e0,show uv l.link l.place (k+1)=uv l.link l.place k++ [ofL (jt l.link k) (l.place+(k:Int))]from rfl,←Jb,ql3,yS,if_pos hn.symm,←hn]
theorem qb3(w:World)(g:Nat)(x:LP)(hx:x.OK)(hB:Blk w g 130 x.cells)(hH:jn w x.gm x.hp)(n:Int)(K:Nat)(hK:K≤g∧K≤x.gm∧K≤w.heap.size):
 Calls prog 68 #[.pointer (some ⟨g,0,none⟩),.int .i64 n] w fun e w'=>
  (qQ x.l n≠0→e= .returned (.tuple #[.agg qg.toArray,zG (qQ x.l n)]))∧
  (qQ x.l n=0→∃b y,e= .returned (.tuple #[.agg (qy n (qS x.l n).key (qx b)).toArray,.nilIface])∧Arr b8 w' b 5 ((qS x.l n).key++(qS x.l n).nonce)∧LP.gm y=x.gm∧y.l=jR x.l n∧y.OK∧
   Blk w' g 130 y.cells∧jn w' y.gm y.hp∧(b::y.hp.map Jp).Nodup∧∀z∈b::y.hp.map Jp,z∈x.hp.map Jp∨w.heap.size≤z)∧Below K w w':=by
 obtain⟨hok,hM,hf,hnd⟩:=hx;by_cases hc:jb x.t x.h x.s n=0
 ·by_cases hin:∃p∈x.hp,p.1.no=n
  ·obtain⟨⟨o,b⟩,hp',hno⟩:=hin
   have hno':o.no=n:=hno;obtain⟨hp1,hp2,he⟩:=List.append_of_mem hp';have hoh:o∈x.l.held:=by
    show o∈x.l.held;rw[←hf];exact QW.2 ⟨(o,b),hp',rfl⟩
   have hE:=hM.found hok hc hoh hno';have hlow:n<x.l.place:=by rw[←hno'];exact(hok.held o hoh).2.1
   have hL:=qkJ hok hlow hE;have hO:=qcA hok hlow hE hoh hno';have hL0:=qb0 hok hE;rw[he]at hH hf hnd;refine(qiz w g x.gm hp1 hp2 o b x.l x.M x.t x.h x.s n hB hH hf hok hM hc hno' K hK).mono ?_;rintro e w' ⟨rfl,hA,hB',hH',hb⟩;have hMk:=hM.take hok hc hE;refine⟨fun h=>absurd hE h,fun _=>⟨b,⟨jR x.l n,hp1++hp2,x.gm,_,_,_,_⟩,?_,?_,rfl,rfl,⟨hL0,hMk,?_,?_⟩,?_,hH',?_,?_⟩,hb⟩
   ·rw[hO,hno']
   ·rw[hO];exact hA
   ·rw[hL]
    show(hp1++hp2).map Prod.fst=x.l.held.filter (fun o=>!decide (o.no=n));have hr:=hok.rise;rw[←hf]at hr ⊢;simp only[Q9,Jd]at hr ⊢;obtain⟨-,hr2,hr3⟩:=List.pairwise_append.1 hr;obtain⟨hr4,-⟩:=List.pairwise_cons.1 hr2;rw[List.filter_append,List.filter_cons,if_neg (by simp[hno'])]
    congr 1
    ·exact(List.filter_eq_self.2 (fun a ha=>by
      have h9:a.no<o.no:=hr3 a ha o (by simp);simp;omega)).symm
    ·exact(List.filter_eq_self.2 (fun a ha=>by
      have h9:o.no<a.no:=hr4 a ha;simp;omega)).symm
   ·exact hnd.sublist (by rw[Q9,Q9,Jd];exact List.Sublist.append (List.Sublist.refl _) (List.sublist_cons_self _ _))
   ·show Blk w' g 130 (jf _ _ _ (jR x.l n).link (jR x.l n).place _)
    rw[hL];exact hB'
   ·rw[Q9,Jd]at hnd
    show(b::(hp1++hp2).map Jp).Nodup;rw[Q9];exact(List.perm_middle.nodup_iff).1 hnd
   ·intro z hz
    refine .inl ?_;rw[he,Q9,Jd];have hz':z∈b::(hp1++hp2).map Jp:=hz;rw[Q9]at hz';simp only[Ja,QS]at hz' ⊢;rcases hz' with h|h|h
    ·exact .inr (.inl h)
    ·exact .inl h
    ·exact .inr (.inr h)
  ·have hno:∀p∈x.hp,p.1.no≠n:=fun p hp' e=>hin ⟨p,hp',e⟩
   by_cases hlo:n<x.l.place
   ·have hE:=hM.passed hok hc (fun o ho=>by rw[←hf]at ho;obtain⟨p,hp',rfl⟩:=QW.1 ho;exact hno p hp') hlo
    refine(qmi w g x.gm x.hp x.l x.M x.t x.h x.s n hB hH hf hok hM hc hno hlo).mono ?_;rintro e w' ⟨rfl,hb⟩;exact⟨fun _=>rfl,fun h0=>absurd h0 (by rw[hE];decide),hb.mono hK.2.2⟩
   ·by_cases hfar:256<n-x.l.place
    ·have hE:=hM.beyond hok hc (by omega:x.l.place≤n)
     rw[if_pos hfar]at hE;refine(qmj w g x.gm x.hp x.l x.M x.t x.h x.s n hB hH hf hok hM hc hno (by omega) hfar).mono ?_;rintro e w' ⟨rfl,hb⟩;exact⟨fun _=>rfl,fun h0=>absurd h0 (by rw[hE];decide),hb.mono hK.2.2⟩
    ·have hE:=hM.beyond hok hc (by omega:x.l.place≤n)
     rw[if_neg hfar]at hE;obtain⟨k,hk⟩:∃k:Nat,n=x.l.place+(k:Int):=⟨(n-x.l.place).toNat,by omega⟩;have hL:=qkK hok hk hE;have hO:=qbm hk hE;have hL0:=qb0 hok hE;have hMk:=hM.take hok hc hE;refine(qkI w g x.gm x.hp x.l x.M x.t x.h x.s n k hB hH hf hnd hok hM hc hno hk (by omega) K hK).mono ?_;rintro e w' ⟨b,hp',rfl,hA,hB',hH',hf',hn',hz',hb⟩;refine⟨fun h=>absurd hE h,fun _=>⟨b,⟨jR x.l n,hp',x.gm,_,_,_,_⟩,?_,?_,rfl,rfl,⟨hL0,hMk,?_,?_⟩,?_,hH',hn',hz'⟩,hb⟩
     ·rw[hO,qa3]
     ·rw[hO,qa3,qbB,JV];exact hA
     ·rw[hL];exact hf'
     ·exact(List.nodup_cons.1 hn').2
     ·show Blk w' g 130 (jf _ _ _ (jR x.l n).link (jR x.l n).place _)
      rw[hL];dsimp only;exact hB'
 ·refine(qfO w g x.gm x.hp x.l x.M x.t x.h x.s n hB hH hok hM hc).mono ?_
  rintro e w' ⟨rfl,hb⟩;exact⟨fun _=>rfl,fun h0=>absurd (h0.symm.trans (hM.refuse hok hc)).symm hc,hb.mono hK.2.2⟩
structure zo(w:World)(gC gl:Nat)(xs:List LP):Prop where
 top:Boxed w gC 117 (.slice (some ⟨gl,0,none⟩) xs.length xs.length)
 lines:Blk w gl 130 (xs.flatMap LP.cells)
 ok:∀x∈xs,x.OK
 held:∀x∈xs,jn w x.gm x.hp
 gms:(xs.map LP.gm).Nodup
 blks:(xs.flatMap fun x=>x.hp.map Jp).Nodup
theorem flat_len(xs:List LP)(h:∀x∈xs,x.OK):(xs.flatMap LP.cells).length=37*xs.length:=by
 induction xs with
 |nil=>rfl
 |cons x r ih=>
  rw[JW,QO,x.cells_len (h x (by simp)),ih (fun y hy=>h y (by simp[hy])),Jr];omega
theorem qdW(xs:List LP)(h:∀x∈xs,x.OK)(i:Nat)(hi:i<xs.length):xs.flatMap LP.cells=(xs.take i).flatMap LP.cells++(xs[i].cells++(xs.drop (i+1)).flatMap LP.cells)∧((xs.take i).flatMap LP.cells).length=37*i:=by
 refine⟨?_,?_⟩
 ·rw[←JW,←JG,←ZA hi,JV]
 ·rw[flat_len _ (fun x hx=>h x (List.mem_of_mem_take hx)),QV,Nat.min_eq_left (by omega)]
theorem zo.range{w:World}{gC gl:Nat}{xs:List LP}(c:zo w gC gl xs)(i:Nat)(hi:i<xs.length):w.rangeAt gl (i*37) xs[i].cells:=by
 rw[Jw];obtain⟨h1,h2⟩:=qdW xs c.ok i hi;have h3:=(c.lines.cast h1).range (37*i) 37;have e:(((xs.take i).flatMap LP.cells++(xs[i].cells++(xs.drop (i+1)).flatMap LP.cells)).drop (37*i)).take 37=xs[i].cells:=by
  rw[←h2,List.drop_left,List.take_append_of_le_length (by rw[xs[i].cells_len (c.ok _ (Q5 hi))];exact QI _),List.take_of_length_le (by rw[xs[i].cells_len (c.ok _ (Q5 hi))];exact QI _)]
 rwa[e]at h3
theorem uz(w:World)(gC gl:Nat)(xs:List LP)(hc:zo w gC gl xs)(i:Nat)(hi:i<xs.length)(hm:xs.length≤1000):
 Calls prog 58 #[.pointer (some ⟨gC,0,none⟩),.int .i64 (i:Int)] w fun e w'=>e= .returned (.pointer (some ⟨gl,i*37,none⟩))∧w=w':=by
 have ct:=hc.top.cell;obtain⟨n,hn⟩:∃n,n=xs.length:=⟨_,rfl⟩;rw[←hn]at ct hi hm;have h0:¬((i:Int)<0):=by omega
 have h1:¬((i:Int)≥(n:Int)):=by omega
 have h2:(0:Int)≤(i:Int):=by omega
 have h3:(i:Int)<(n:Int):=by omega
 clear hn hc;go_enter func58,ntmps58
 go_wp2_with fail
 go_ret;exact⟨rfl,rfl⟩
theorem qmm(w:World)(gC gl:Nat)(xs:List LP)(hc:zo w gC gl xs)(j:Int)(hj:j<0∨(xs.length:Int)≤j):
 Calls prog 58 #[.pointer (some ⟨gC,0,none⟩),.int .i64 j] w fun e w'=>e= .returned (.pointer none)∧w=w':=by
 have ct:=hc.top.cell;obtain⟨n,hn⟩:∃n,n=xs.length:=⟨_,rfl⟩;rw[←hn]at ct hj;clear hn hc;by_cases h0:j<0
 ·go_enter func58,ntmps58
  go_wp2_with fail
  go_ret;exact⟨rfl,rfl⟩
 ·have h1:j≥(n:Int):=by omega
  go_enter func58,ntmps58
  go_wp2_with fail
  go_ret;exact⟨rfl,rfl⟩
set_option maxRecDepth 100000
theorem qkL(w:World)(C:Value)(j n:Int)(hl:∀w1,Below w.heap.size w w1→Calls prog 58 #[C,.int .i64 j] w1 fun e w'=>e= .returned (.pointer none)∧w1=w'):
 Calls prog 40 #[C,.int .i64 j,.int .i64 n] w fun e w'=>e= .returned (.tuple #[.agg qg.toArray,zG 9])∧Below w.heap.size w w':=by
 obtain⟨w1,hw1⟩:∃w1,w1=w.alloc (.cells qg.toArray 94):=⟨_,rfl⟩;have HZ1:=qe (show Blk w1 w.heap.size 94 qg by rw[hw1];exact Blk.new _ _ _);have HK1:=qe (show Below w.heap.size w w1 by rw[hw1];exact(QK _ w).alloc (QI _) _);have hz1:w1.heap.size=w.heap.size+1:=by rw[hw1];simp
 have HW1:=qe hw1;clear hw1;have HL:=qe (hl w1 HK1.1);clear hl;go_enter func40,ntmps40
 go_upto_region 1 with fail
 have hw1:=HW1.1;simp only[q7]at hw1
 rw[←hw1];clear hw1;go_wp2_with fail
 refine HL.1.mono ?_;rintro e w2 ⟨rfl,rfl⟩;go_upto_region 3 with fail
 refine wp_region_lit ?_;refine jh rfl 94 [] rfl qg.toArray [] rfl qab ?_;go_wp2_with (refine qi rfl 94 (.tmp 6) (.tmp 16) rfl w.heap.size 0 rfl qg rfl 94 _ [] qg [] HZ1.1 (by simp) rfl rfl qA (qF _ _ _ _ _) ?_;intro w9 hx9 hg9)
 have HX9:=qe (show Blk w9 w.heap.size 94 qg from hx9.cast (by simp));refine bodyPost_ret (v:= .tuple #[.agg qg.toArray,zG 9]) (qu (g:=w.heap.size) rfl _ _ _ _ _ _ rfl rfl HX9.1 underlying94 rfl qA) rfl ?_;exact⟨rfl,HK1.1.grown hg9 HK1.1.size (fun k e=>by cases e;exact QI _)⟩
end
section
open Go.RowKit
set_option maxRecDepth 100000
theorem qkM(w:World)(gC gl:Nat)(xs:List LP)(hc:zo w gC gl xs)(i:Nat)(hi:i<xs.length)(hm:xs.length≤1000):
 Calls prog 52 #[.pointer (some ⟨gC,0,none⟩),.int .i64 (i:Int)] w fun e w'=>e= .returned (.int .i64 xs[i].l.place)∧w=w':=by
 have HL:=qe (uz w gC gl xs hc i hi hm);have hx:=hc.ok _ (Q5 hi);have c35:=hc.range i hi 35 _ (zR hx.lok.len);generalize xs[i].l.place=p at c35 ⊢;clear hx hc;go_enter func52,ntmps52
 go_wp2_with fail
 refine HL.1.mono ?_;rintro e w1 ⟨rfl,rfl⟩;go_wp2_with fail
 go_ret;exact⟨rfl,rfl⟩
theorem qcB(A B L L':List Nat)(N:Nat)(h:(A++(L++B)).Nodup)(hN:∀z∈A++(L++B),z<N)(h':L'.Nodup)(hz:∀z∈L',z∈L∨N≤z):(A++(L'++B)).Nodup:=by
 obtain⟨a1,a2,a3⟩:=J9.1 h;obtain⟨b1,b2,b3⟩:=J9.1 a2;refine J9.2 ⟨a1,J9.2 ⟨h',b2,fun x hx y hy e=>?_⟩,fun x hx y hy e=>?_⟩
 ·subst e
  rcases hz x hx with h1|h1
  ·exact b3 x h1 x hy rfl
  ·have:=hN x (by simp[hy]);omega
 ·subst e
  rcases QS.1 hy with h1|h1
  ·rcases hz x h1 with h2|h2
   ·exact a3 x hx x (by simp[h2]) rfl
   ·have:=hN x (by simp[hx]);omega
  ·exact a3 x hx x (by simp[h1]) rfl
theorem zo.blk_lt{w:World}{gC gl:Nat}{xs:List LP}(c:zo w gC gl xs):∀z∈xs.flatMap (fun x=>x.hp.map Jp),z<w.heap.size:=by
 intro z hz;obtain⟨x,hx,hz⟩:=List.mem_flatMap.1 hz;obtain⟨p,hp,rfl⟩:=QW.1 hz;exact((c.held x hx).mem p hp).lt
theorem zo.gm_lt{w:World}{gC gl:Nat}{xs:List LP}(c:zo w gC gl xs):∀z∈xs.map LP.gm,z<w.heap.size:=by
 intro z hz;obtain⟨x,hx,rfl⟩:=QW.1 hz;exact(c.held x hx).map.lt
theorem zo.put{w w':World}{gC gl:Nat}{xs:List LP}(c:zo w gC gl xs)(i:Nat)(hi:i<xs.length)(y:LP)(hy:y.OK)(htop:Boxed w' gC 117 (.slice (some ⟨gl,0,none⟩) xs.length xs.length))
 (hlines:Blk w' gl 130 ((xs.take i).flatMap LP.cells++(y.cells++(xs.drop (i+1)).flatMap LP.cells)))(hold:∀x∈xs,jn w' x.gm x.hp)(hheld:jn w' y.gm y.hp)(hgm:w.heap.size≤y.gm)
 (bs:List Nat)(hb:(bs++y.hp.map Jp).Nodup)(hz:∀z∈bs++y.hp.map Jp,z∈xs[i].hp.map Jp∨w.heap.size≤z):
 zo w' gC gl (xs.set i y)∧∀b∈bs,b∉ (xs.set i y).flatMap fun x=>x.hp.map Jp:=by
 have es:xs.set i y=xs.take i++y::xs.drop (i+1):=List.set_eq_take_append_cons_drop .. |>.trans (if_pos hi)
 have e0:xs=xs.take i++xs[i]::xs.drop (i+1):=by rw[←ZA hi,JV]
 have hm:∀x∈xs.set i y,x=y∨x∈xs:=fun x hx=>(List.mem_or_eq_of_mem_set hx).symm
 have hbl:=c.blks;have hlt:=c.blk_lt;rw[e0,JG,JW]at hbl hlt;have hall:=qcB _ _ _ _ _ hbl hlt hb hz;rw[Jb]at hall;obtain⟨q1,q2,q3⟩:=J9.1 hall;obtain⟨r1,r2,r3⟩:=J9.1 q2;refine⟨⟨?_,?_,?_,?_,?_,?_⟩,?_⟩
 ·rw[List.length_set];exact htop
 ·rw[es,JG,JW];exact hlines
 ·intro x hx
  rcases hm x hx with rfl|h
  ·exact hy
  ·exact c.ok x h
 ·intro x hx
  rcases hm x hx with rfl|h
  ·exact hheld
  ·exact hold x h
 ·have hg:=c.gms
  have hg2:=c.gm_lt;rw[e0,Q9,Jd]at hg hg2;rw[es,Q9,Jd];have:=qcB (xs.take i|>.map LP.gm) (xs.drop (i+1)|>.map LP.gm) [xs[i].gm] [y.gm] w.heap.size hg hg2 (by simp) (fun z hz=>by simp at hz;subst hz;exact .inr hgm);exact this
 ·rw[es,JG,JW]
  exact J9.2 ⟨q1,r2,fun a ha b hb'=>q3 a ha b (QS.2 (.inr hb'))⟩
 ·intro b hb' hin
  rw[es,JG,JW]at hin;rcases QS.1 hin with h1|h1
  ·exact q3 b h1 b (QS.2 (.inl hb')) rfl
  ·exact r3 b hb' b h1 rfl
theorem jn.keep{w w':World}{gm:Nat}{hp:List (jm×Nat)}(x:jn w gm hp)(hb:Below w.heap.size w w'):jn w' gm hp:=x.below hb x.map.lt (fun p hp'=>(x.mem p hp').lt)
theorem zo.below{w w':World}{gC gl:Nat}{xs:List LP}(c:zo w gC gl xs)(hb:Below w.heap.size w w'):zo w' gC gl xs:=
 ⟨(hb.block _ c.top.lt).trans c.top,c.lines.below hb c.lines.lt,c.ok,fun x hx=>(c.held x hx).keep hb,c.gms,c.blks⟩
theorem qkN(w:World)(gC gl:Nat)(xs:List LP)(hc:zo w gC gl xs)(i:Nat)(hi:i<xs.length)(hm:xs.length≤1000)(n:Int)(hE:qQ xs[i].l n≠0):
 Calls prog 42 #[.pointer (some ⟨gC,0,none⟩),.int .i64 (i:Int),.int .i64 n] w fun e w'=>e= .returned (.tuple #[.agg qg.toArray,zG (qQ xs[i].l n)])∧Below w.heap.size w w':=by
 obtain⟨w1,hw1⟩:∃w1,w1=w.alloc (.cells qg.toArray 94):=⟨_,rfl⟩;have HZ1:=qe (show Blk w1 w.heap.size 94 qg by rw[hw1];exact Blk.new _ _ _);have HK1:=qe (show Below w.heap.size w w1 by rw[hw1];exact(QK _ w).alloc (QI _) _);have hz1:w1.heap.size=w.heap.size+1:=by rw[hw1];simp
 have HW1:=qe hw1;clear hw1;have HC1:=qe (hc.below HK1.1);have HL:=qe (uz w1 gC gl xs HC1.1 i hi hm);have hx:=hc.ok _ (Q5 hi);obtain⟨x,hxe⟩:∃x,x=xs[i]:=⟨_,rfl⟩;rw[←hxe]at hx;have HXe:=qe hxe;have HX:=qe hx;have hh:=HC1.1.held _ (Q5 hi);have hr:=HC1.1.range i hi;rw[←hxe]at hh hr;have HCp:=qe (qaF w1 gl (i*37) x.t x.h x.s x.l.link x.l.place x.gm hr hx.lok.len HC1.1.lines.lt _ hh.map)
 have HH1:=qe hh;have HC0:=qe hc;rw[←hxe]at hE ⊢;have HNe:=qe (jO hE);have HE:=qe hE;clear hxe hx hh hr hE hc;generalize hEE:qQ x.l n=E at HNe HE ⊢;have HEE:=qe hEE;clear hEE;go_enter func42,ntmps42
 go_upto_region 1 with fail
 have hw1:=HW1.1;simp only[q7]at hw1
 rw[←hw1];clear hw1;go_wp2_with fail
 refine HL.1.mono ?_;rintro e w2 ⟨rfl,rfl⟩;go_wp2_with fail
 refine HCp.1.mono ?_;rintro e w2 ⟨gn,mn,rfl,hgn,hmn,hB2,hM2,hb2⟩;have hH2:jn w2 mn x.hp:=⟨hM2,fun p hp=>(HH1.1.mem p hp).below hb2 (HH1.1.mem p hp).lt⟩;have HT:=qe (qb3 w2 gn ⟨x.l,x.hp,mn,x.t,x.h,x.s,x.M⟩ ⟨HX.1.lok,HX.1.marks,HX.1.fst,HX.1.nd⟩ hB2 hH2 n w1.heap.size ⟨hgn,hmn,hb2.size⟩);have HB2:=qe hb2;have HZ2:=qe (HZ1.1.below hb2 (by omega));have hz2:=hb2.size;clear hB2 hM2 hb2 hH2
 go_wp2_with fail
 refine HT.1.mono ?_;rintro e w3 ⟨h1,-,hb3⟩;have h1:=h1 (by show qQ x.l n≠0;rw[HEE.1];exact HE.1);rw[show qQ (LP.l ⟨x.l,x.hp,mn,x.t,x.h,x.s,x.M⟩) n=E from HEE.1,HNe.1]at h1;subst h1;have HZ3:=qe (HZ2.1.below hb3 (by omega));have hz3:=hb3.size;have HB3:=qe (show Below w.heap.size w w3 from HK1.1.trans ((HB2.1.trans hb3).mono (by omega)));have HZa:=qe (show Blk (w3.alloc (.cells qg.toArray 94)) w3.heap.size 94 qg from Blk.new _ _ _)
 clear hb3;go_upto_region 7 with(refine qi rfl 94 (.tmp 10) (.tmp 25) rfl w3.heap.size 0 rfl qg rfl 94 _ [] qg [] HZa.1 (by simp) rfl rfl qA (qF _ _ _ _ _) ?_;intro w4 hx4 hg4)
 have HK4:=qe (show Below w3.heap.size w3 w4 from((QK _ w3).alloc (QI _) _).grown hg4 (by simp) (fun k e=>by cases e;exact QI _));have HZ4:=qe (HZ3.1.below HK4.1 (by omega));have HB4:=qe (HB3.1.trans (HK4.1.mono (by omega)));refine wp_region_lit ?_;refine jh rfl 94 [] rfl qg.toArray [] rfl qab ?_;go_wp2_with (refine qi rfl 94 (.tmp 6) (.tmp 29) rfl w.heap.size 0 rfl qg rfl 94 _ [] qg [] HZ4.1 (by simp) rfl rfl qA (qF _ _ _ _ _) ?_;intro w9 hx9 hg9)
 have HX9:=qe (show Blk w9 w.heap.size 94 qg from hx9.cast (by simp));refine bodyPost_ret (v:= .tuple #[.agg qg.toArray,zG E]) (qu (g:=w.heap.size) rfl _ _ _ _ _ _ rfl (by exact HNe.1.symm) HX9.1 underlying94 rfl qA) rfl ?_;exact⟨rfl,HB4.1.grown hg9 HB4.1.size (fun k e=>by cases e;exact QI _)⟩
theorem qe2(w:World)(gC gl:Nat)(xs:List LP)(hc:zo w gC gl xs)(i:Nat)(hi:i<xs.length)(hm:xs.length≤1000)(n:Int)(hE:qQ xs[i].l n=0):
 Calls prog 42 #[.pointer (some ⟨gC,0,none⟩),.int .i64 (i:Int),.int .i64 n] w fun e w'=>∃b y,e= .returned (.tuple #[.agg (qy n (qS xs[i].l n).key (qx b)).toArray,.nilIface])∧
  Arr b8 w' b 5 ((qS xs[i].l n).key++(qS xs[i].l n).nonce)∧LP.l y=jR xs[i].l n∧zo w' gC gl (xs.set i y)∧b∉ (xs.set i y).flatMap (fun x=>x.hp.map Jp)∧w.grownBy w' (some gl)∧w.heap.size≤LP.gm y∧∀z∈b::y.hp.map Jp,z∈xs[i].hp.map Jp∨w.heap.size≤z:=by
 obtain⟨w1,hw1⟩:∃w1,w1=w.alloc (.cells qg.toArray 94):=⟨_,rfl⟩;have HZ1:=qe (show Blk w1 w.heap.size 94 qg by rw[hw1];exact Blk.new _ _ _);have HK1:=qe (show Below w.heap.size w w1 by rw[hw1];exact(QK _ w).alloc (QI _) _);have hz1:w1.heap.size=w.heap.size+1:=by rw[hw1];simp
 have HW1:=qe hw1;clear hw1;have HC1:=qe (hc.below HK1.1);have HL:=qe (uz w1 gC gl xs HC1.1 i hi hm);have hx:=hc.ok _ (Q5 hi);obtain⟨x,hxe⟩:∃x,x=xs[i]:=⟨_,rfl⟩;rw[←hxe]at hx;have HXe:=qe hxe;have HX:=qe hx;have hh:=HC1.1.held _ (Q5 hi);have hr:=HC1.1.range i hi;rw[←hxe]at hh hr;have HCp:=qe (qaF w1 gl (i*37) x.t x.h x.s x.l.link x.l.place x.gm hr hx.lok.len HC1.1.lines.lt _ hh.map)
 have HH1:=qe hh;have HC0:=qe hc;rw[←hxe]at hE ⊢;have hKl:(qS x.l n).key.length=32:=by
  by_cases hlo:n<x.l.place
  ·obtain⟨n0,n1,nh,nl,na,nf⟩:=qap hE
   have hk:=hx.lok.hi;obtain⟨o,ho,he⟩:=hx.lok.all n nl hlo na (by omega);rw[qcA hx.lok hlo hE ho he];exact(hx.lok.held o ho).2.2.2.2.1
  ·rw[qbm (k:=(n-x.l.place).toNat) (by omega) hE]
   exact qbY _ _
 obtain⟨O,hO⟩:∃O,O=qS x.l n:=⟨_,rfl⟩;rw[←hO]at hKl ⊢;have HOe:=qe hO;have HKl:=qe hKl;have HE:=qe hE;clear hxe hx hh hr hE hc hO hKl;go_enter func42,ntmps42
 go_upto_region 1 with fail
 have hw1:=HW1.1;simp only[q7]at hw1
 rw[←hw1];clear hw1;go_wp2_with fail
 refine HL.1.mono ?_;rintro e w2 ⟨rfl,rfl⟩;go_wp2_with fail
 refine HCp.1.mono ?_;rintro e w2 ⟨gn,mn,rfl,hgn,hmn,hB2,hM2,hb2⟩;have hH2:jn w2 mn x.hp:=⟨hM2,fun p hp=>(HH1.1.mem p hp).below hb2 (HH1.1.mem p hp).lt⟩;have HT:=qe (qb3 w2 gn ⟨x.l,x.hp,mn,x.t,x.h,x.s,x.M⟩ ⟨HX.1.lok,HX.1.marks,HX.1.fst,HX.1.nd⟩ hB2 hH2 n w1.heap.size ⟨hgn,hmn,hb2.size⟩);have HB2:=qe hb2;have HZ2:=qe (HZ1.1.below hb2 (by omega));have hz2:=hb2.size;clear hB2 hM2 hb2 hH2
 go_wp2_with fail
 refine HT.1.mono ?_;rintro e w3 ⟨-,h1,hb3⟩;obtain⟨b,y,h1,hA3,hyg,hyl,hyo,hBy,hHy,hnd,hzz⟩:=h1 HE.1;have hyg':y.gm=mn:=hyg;have hyl':y.l=jR x.l n:=hyl;rw[show qS (LP.l ⟨x.l,x.hp,mn,x.t,x.h,x.s,x.M⟩) n=O from HOe.1.symm]at h1 hA3;subst h1;have hzz':∀z∈b::y.hp.map Jp,z∈x.hp.map Jp∨w2.heap.size≤z:=hzz;have HZ3:=qe (HZ2.1.below hb3 (by omega));have hz3:=hb3.size;have HB3:=qe (show Below w.heap.size w w3 from HK1.1.trans ((HB2.1.trans hb3).mono (by omega)))
 have HZa:=qe (show Blk (w3.alloc (.cells qg.toArray 94)) w3.heap.size 94 qg from Blk.new _ _ _);have HA3:=qe hA3;have HBy3:=qe hBy;have HHy3:=qe hHy;have HYo:=qe hyo;have HNd:=qe hnd;have HZz:=qe hzz';have HYg:=qe hyg';have HYl:=qe hyl';clear hb3 hA3 hBy hHy hyo hnd hzz hzz' hyg hyg' hyl hyl' HT;go_upto_region 8 with(refine qi rfl 94 (.tmp 10) (.tmp 25) rfl w3.heap.size 0 rfl (qy n O.key (qx b)) rfl 94 _ [] qg [] HZa.1 (by simp) rfl (by rw[qw _ _ _ HKl.1];rfl) (by rw[qA,qw _ _ _ HKl.1]) (qF _ _ _ _ _) ?_;intro w4 hx4 hg4)
 have HX4:=qe (show Blk w4 w3.heap.size 94 (qy n O.key (qx b))from hx4.cast (by simp));have HK4:=qe (show Below w3.heap.size w3 w4 from((QK _ w3).alloc (QI _) _).grown hg4 (by simp) (fun k e=>by cases e;exact QI _));have hz4:w3.heap.size+1≤w4.heap.size:=by have:=hg4.size;simpa using this
 have HZ4:=qe (HZ3.1.below HK4.1 (by omega));have HB4:=qe (HB3.1.trans (HK4.1.mono (by omega)));have HBy4:=qe (HBy3.1.below HK4.1 HBy3.1.lt);have HHy4:=qe (HHy3.1.keep HK4.1);have HA4:=qe (HA3.1.below HK4.1 HA3.1.lt);have HC4:=qe (HC0.1.below HB4.1);have hsp:=qdW xs HC0.1.ok i hi;have HSp:=qe hsp;have hgl:=HC0.1.lines.lt;have hgC:=HC0.1.top.lt;clear hx4 hg4 HX HBy3 HHy3 HA3 hsp
 go_upto_region 9 with(first
  |(refine wpList_load_mid rfl 130 (.tmp 33) rfl gn 0 rfl y.cells _ HBy4.1.whole underlying130 rfl (by rw[qa2,y.cells_len HYo.1]) ?_)
  |(refine qi rfl 130 (.tmp 35) (.tmp 34) rfl gl (i*37) rfl y.cells rfl 130 _ ((xs.take i).flatMap LP.cells) xs[i].cells ((xs.drop (i+1)).flatMap LP.cells) HC4.1.lines HSp.1.1 (by rw[HSp.1.2,Jw]) (by rw[y.cells_len HYo.1,xs[i].cells_len (HC0.1.ok _ (Q5 hi))]) (by rw[qa2,y.cells_len HYo.1]) (qcy rfl) ?_;intro w5 hx5 hg5))
 have HL5:=qe hx5;have HX5:=qe (HX4.1.grown hg5 (fun e=>by injection e with e;omega));have HZ5:=qe (HZ4.1.grown hg5 (fun e=>by injection e with e;omega));have HHy5:=qe (HHy4.1.cells HC4.1.lines (by decide) hg5);have HA5:=qe (j6 HA4.1 HC4.1.lines (by decide) hg5);have HT5:=qe (HC4.1.top.kept hg5 (fun e=>by
  injection e with e;have h1:=HC4.1.top;have h2:w4.heap[gl]?=some (.cells (xs.flatMap LP.cells).toArray 130 (0,0)):=HC4.1.lines;rw[←e]at h2;have h3:w4.heap[gC]?=some (.cells #[.slice (some ⟨gl,0,none⟩) xs.length xs.length] 117 (0,0)):=h1;rw[h3]at h2;injection h2 with h2;injection h2 with _ hT _;exact absurd hT (by decide)))
 have HO5:=qe (show∀x∈xs,jn w5 x.gm x.hp from fun x hx=>(HC4.1.held x hx).cells HC4.1.lines (by decide) hg5);have HG5:=qe (show w.grownBy w5 (some gl)from qp ⟨HB4.1.os,HB4.1.tape,HB4.1.output,HB4.1.size,fun k hk _=>HB4.1.block k hk⟩ hg5 (fun _ e=> .inl e));have hz5:=hg5.size;clear hx5 hg5;refine wp_region_lit ?_;refine wpList_load_mid rfl 94 (.tmp 10) rfl w3.heap.size 0 rfl (qy n O.key (qx b)) _ HX5.1.whole underlying94 rfl (by rw[qA,qw _ _ _ HKl.1]) ?_
 go_wp2_with (refine qi rfl 94 (.tmp 6) (.tmp 36) rfl w.heap.size 0 rfl (qy n O.key (qx b)) rfl 94 _ [] qg [] HZ5.1 (by simp) rfl (by rw[qw _ _ _ HKl.1];rfl) (by rw[qA,qw _ _ _ HKl.1]) (qF _ _ _ _ _) ?_;intro w9 hx9 hg9)
 have HX9:=qe (show Blk w9 w.heap.size 94 (qy n O.key (qx b))from hx9.cast (by simp));refine bodyPost_ret (v:= .tuple #[.agg (qy n O.key (qx b)).toArray,.nilIface]) (qu (g:=w.heap.size) rfl _ _ _ _ _ _ rfl rfl HX9.1 underlying94 rfl (by rw[qA,qw _ _ _ HKl.1])) rfl ?_;obtain⟨p1,p2⟩:=HC0.1.put (w':=w9) i hi y HYo.1 (HT5.1.kept hg9 (fun e=>by injection e with e;omega)) (HL5.1.grown hg9 (fun e=>by injection e with e;omega)) (fun x hx=>(HO5.1 x hx).cells HZ5.1 (by decide) hg9) (HHy5.1.cells HZ5.1 (by decide) hg9) (by rw[HYg.1];omega) [b] HNd.1 (fun z hz=>by
  rcases HZz.1 z hz with h|h
  ·rw[←HXe.1];exact .inl h
  ·exact .inr (by omega))
 have hg:=HG5.1;exact⟨b,y,rfl,j6 HA5.1 HZ5.1 (by decide) hg9,HYl.1,p1,p2 b (by simp),⟨hg9.os.trans hg.os,hg9.tape.trans hg.tape,hg9.output.trans hg.output,QX hg.size hg9.size,fun k hk hne=>(hg9.block k (Jq hk hg.size) (fun e=>by injection e with e;omega)).trans (hg.block k hk hne)⟩,by rw[HYg.1];omega,fun z hz=>by
  rcases HZz.1 z hz with h|h
  ·exact .inl h
  ·exact .inr (by omega)⟩
end
end Go.Proofs.YtelgjaiknaalkaaGreatDoor
