/- Lemmas. -/
import Derived.Test.YtelgjaiknaalkaaGreatDoorPu08
import Derived.Lib.Mul64
open Go.Proofs.Tryz
open List renaming setIfInBounds_toArray → qj
open List renaming set_cons_zero → qz
open List renaming set_cons_succ → qv
open BitVec renaming ofNat → QP, eq_of_toNat_eq → JX, toNat_mul → Zy, toNat_ofNat → Q8, toNat_shiftLeft → ZD, add_eq_or_of_and_eq_zero → ZE, getLsbD_shiftLeft → ZF, ofInt → QU, toNat_add → JQ
open List renaming range → Q6, range_succ → JU, getD → QR, getElem?_eq_getElem → QT, replicate → QL, length_set → Jy, length_replicate → Jz, getD_cons_zero → Zu, getD_cons_succ → Zv, length_append → QO, length_take → QV
open Go.RowKit.Below renaming refl → QK
open Go.IntWalk renaming i64_in → Jc
open Nat renaming le_refl → QI, le_trans → QX, zero_add → JD, lt_of_lt_of_le → Jq
open Go.World renaming alloc → QY, size_alloc → QQ, cell?_of_block → JK, grownBy_alloc → Za
open Go.Act renaming put → QJ
open Option.some renaming inj → Ju
set_option linter.unusedVariables false
set_option linter.unusedSimpArgs false
set_option maxRecDepth 100000
set_option maxHeartbeats 4000000
namespace Go.Proofs.YtelgjaiknaalkaaGreatDoor
section
open Go.RowKit
def qhv(a b c d:BitVec 8):BitVec 32:=a.setWidth 32|||b.setWidth 32<<<8|||c.setWidth 32<<<16|||d.setWidth 32<<<24
def yU(xs:qf)(k:Nat):BitVec 32:=qhv (xs.getD k 0#8) (xs.getD (k+1) 0#8) (xs.getD (k+2) 0#8) (xs.getD (k+3) 0#8)
theorem qhw(b off n c:Nat)(x0 x1 x2 x3:BitVec 8)(w:World)(hn:4≤n)(c0:w.cell? ⟨b,off,none⟩=some (.int .u8 (bv x0)))(c1:w.cell? ⟨b,off+1,none⟩=some (.int .u8 (bv x1)))(c2:w.cell? ⟨b,off+2,none⟩=some (.int .u8 (bv x2)))(c3:w.cell? ⟨b,off+3,none⟩=some (.int .u8 (bv x3))):
 Calls prog 110 #[.slice (some ⟨b,off,none⟩) n c] w fun e w'=>e= .returned (.int .u32 (bv (qhv x0 x1 x2 x3)))∧∃k,w'=w.drewN k:=by
 go_enter func110,ntmps110
 go_wp2_with fail
 go_quiet (fail)
 go_wp2_with fail
 go_ret;exact⟨rfl,_,rfl⟩
def zy(n:Nat)(number:Int):Nat:=if n≠12 then 1 else if number<0∨4294967295<number then 8 else 0
theorem qhx{n:Nat}{number:Int}(h:n≠12):zy n number=1:=if_pos h
theorem uU{n:Nat}{number:Int}(h:n=12)(h':number<0∨4294967295<number):zy n number=8:=by unfold zy;rw[if_neg (by omega),if_pos h']
theorem qdr{n:Nat}{number:Int}(h:n=12)(h':¬(number<0∨4294967295<number)):zy n number=0:=by unfold zy;rw[if_neg (by omega),if_neg h']
theorem qba(A:Option Addr)(n c:Nat)(number:Int)(w:World):
 Calls prog 88 #[.slice A n c,.int .i64 number] w fun e w'=>e= .returned (zG (zy n number))∧w=w':=by
 by_cases h1:n=12
 ·by_cases h2:number<0
  ·rw[uU h1 (.inl h2)]
   have h1':((n:Int) !=12)=false:=by rw[bne_eq_false_iff_eq];omega
   have h2':decide (number<0)=true:=by simpa using h2
   clear h1;go_enter func88,ntmps88
   go_wp2_with fail
   go_ret;exact⟨rfl,rfl⟩
  ·have h2':decide (number<0)=false:=by simpa using h2
   by_cases h3:4294967295<number
   ·rw[uU h1 (.inr h3)]
    have h1':((n:Int) !=12)=false:=by rw[bne_eq_false_iff_eq];omega
    have h3':decide (4294967295<number)=true:=by simpa using h3
    clear h1;go_enter func88,ntmps88
    go_wp2_with fail
    go_ret;exact⟨rfl,rfl⟩
   ·rw[qdr h1 (by omega)]
    have h1':((n:Int) !=12)=false:=by rw[bne_eq_false_iff_eq];omega
    have h3':decide (4294967295<number)=false:=by simpa using h3
    clear h1;go_enter func88,ntmps88
    go_wp2_with fail
    go_ret;exact⟨rfl,rfl⟩
 ·rw[qhx h1]
  have h1':((n:Int) !=12)=true:=by rw[bne_iff_ne];omega
  clear h1;go_enter func88,ntmps88
  go_wp2_with fail
  go_ret;exact⟨rfl,rfl⟩
theorem qf1(y:BitVec 32)(k:Nat):QP 32 (2^k)*y=y<<<k:=by
 apply JX;simp only[Zy,Q8,ZD,Nat.shiftLeft_eq];rw[Nat.mod_mul_mod,Nat.mul_comm]
theorem qiQ{a:BitVec 8}{i:Nat}(h:8≤i):a.getLsbD i=false:=BitVec.getLsbD_of_ge a i h
theorem qiR(x:BitVec 32)(d:BitVec 8)(k:Nat)(hx:∀i,k≤i→x.getLsbD i=false):x+d.setWidth 32<<<k=x|||d.setWidth 32<<<k:=by
 rw[ZE];apply BitVec.eq_of_getLsbD_eq;intro i hi;rw[BitVec.getLsbD_and,BitVec.getLsbD_zero];by_cases h:i<k
 ·have:(d.setWidth 32<<<k).getLsbD i=false:=by rw[ZF];simp[h]
  rw[this,Bool.and_false]
 ·rw[hx i (by omega),Bool.false_and]
theorem qcg(a:BitVec 8)(i:Nat)(h:8≤i):(a.setWidth 32).getLsbD i=false:=by
 rw[BitVec.getLsbD_setWidth,qiQ h,Bool.and_false]
theorem qee(a:BitVec 8)(k i:Nat)(h:k+8≤i):(a.setWidth 32<<<k).getLsbD i=false:=by
 rw[ZF,qcg a (i-k) (by omega),Bool.and_false]
theorem qmN(a b c d:BitVec 8):a.setWidth 32+256#32*b.setWidth 32+65536#32*c.setWidth 32+16777216#32*d.setWidth 32=qhv a b c d:=by
 rw[show(256#32)=QP 32 (2^8)from rfl,show(65536#32)=QP 32 (2^16)from rfl,show(16777216#32)=QP 32 (2^24)from rfl,qf1,qf1,qf1];rw[qiR _ b 8 (fun i h=>qcg a i h)];rw[qiR _ c 16 (fun i h=>by rw[BitVec.getLsbD_or,qcg a i (by omega),qee b 8 i (by omega)];rfl)];rw[qiR _ d 24 (fun i h=>by rw[BitVec.getLsbD_or,BitVec.getLsbD_or,qcg a i (by omega),qee b 8 i (by omega),qee c 16 i (by omega)];rfl)]
 rfl
def uj(xs:qf)(k:Nat):List (BitVec 32):=(Q6 k).map fun i=>yU xs (4*i)
def zX(xs:qf):List (BitVec 32):=uj xs (xs.length/4)
theorem qf2(xs:qf)(k:Nat):uj xs (k+1)=uj xs k++ [yU xs (4*k)]:=by simp[uj,JU]
theorem qdb(xs:qf)(k:Nat):(uj xs k).length=k:=by simp[uj]
theorem qjN:(prog.info? 178).map (fun i=>(i.zero,i.size,i.bytes))=some (some (.int .u32 0),1,4):=by kernel_rfl
theorem qbb(x:BitVec 32):(b32 x).oneCell'=true:=rfl
theorem qcI{w:World}{B:Nat}{A:Option Addr}{xs:qf}{n:Nat}(c:Nat)(hr:Rd b8 w B A xs)(hB:B≤w.heap.size)(hn:xs.length=n)(hm:n≤1000000):
 Calls prog 119 #[.slice A n c] w fun e w'=>∃v,e= .returned v∧Own b32 w' w.heap.size 178 v (zX xs)∧Below w.heap.size w w':=by
 obtain⟨i0,hi0,hz0,hz1,hz2⟩:=info_parts qjN;have HR:=qe hr;have HN:=qe hn;clear hr hn;go_enter func119,ntmps119
 go_wp2_with fail
 go_loopw [3,4] (fun v i wr=>∃k p:Nat,p=4*k∧k≤n/4∧i= .int .i64 p∧Own b32 wr w.heap.size 178 v (uj xs k)∧Below w.heap.size w wr) (fun _ i _=>n-(intOf i).toNat)
 case atStart=>exact⟨0,0,rfl,Nat.zero_le _,rfl,Own.nil_ _ _ _ _,QK _ _⟩
 case round=>
  obtain⟨k,p,hp,hk,rfl,hown,hb⟩:=hrel;by_cases hlt:k<n/4
  ·have hp4:p+4≤n:=by omega
   have hcell:∀j,j<n→∃b off,A=some ⟨b,off,none⟩∧b<B∧w.cell? ⟨b,off+j,none⟩=some (b8 (xs.getD j 0#8)):=fun j hj=>by
    have hl:=HN.1;obtain⟨b,off,e,hb,hc⟩:=HR.1 (by omega);exact⟨b,off,e,hb,hc j _ (by simp[QR,QT (show j<xs.length by omega)])⟩
   obtain⟨b,off,rfl,hbB,c0⟩:=hcell p (by omega);have hc:∀j,p+j<n→wr.cell? ⟨b,off+(p+j),none⟩=some (b8 (xs.getD (p+j) 0#8)):=fun j hj=>by
    obtain⟨b',off',e,hb',hc⟩:=hcell (p+j) hj;cases e;exact(hb.cell (p:=⟨b,off+(p+j),none⟩) (by show b<_;omega)).trans hc
   have hq:∀j,p+j<n→w.cell? ⟨b,off+(p+j),none⟩=some (b8 (xs.getD (p+j) 0#8)):=fun j hj=>by
    obtain⟨b',off',e,hb',hc⟩:=hcell (p+j) hj;cases e;exact hc
   have q0:=hq 0 (by omega);have q1:=hq 1 (by omega);have q2:=hq 2 (by omega);have q3:=hq 3 (by omega);simp only[Nat.add_zero,b8]at q0 q1 q2 q3;have c0:=hc 0 (by omega);have c1:=hc 1 (by omega);have c2:=hc 2 (by omega);have c3:=hc 3 (by omega);simp only[Nat.add_zero,b8]at c0 c1 c2 c3;obtain⟨x0,hx0⟩:∃x,x=xs.getD p 0#8:=⟨_,rfl⟩;obtain⟨x1,hx1⟩:∃x,x=xs.getD (p+1) 0#8:=⟨_,rfl⟩;obtain⟨x2,hx2⟩:∃x,x=xs.getD (p+2) 0#8:=⟨_,rfl⟩
   obtain⟨x3,hx3⟩:∃x,x=xs.getD (p+3) 0#8:=⟨_,rfl⟩;have hw:yU xs (4*k)=qhv x0 x1 x2 x3:=by rw[←hp,hx0,hx1,hx2,hx3];rfl
   rw[←hx0]at c0 q0;rw[←hx1]at c1 q1;rw[←hx2]at c2 q2;rw[←hx3]at c3 q3;have Q0:=qe q0;have Q1:=qe q1;have Q2:=qe q2;have Q3:=qe q3;have hbw:b<w.heap.size:=by omega
   have Hw:=qe hw;have Hp:=qe hp;have Hc:=qe hcell;have hw1:IntKind.i64.wrap ((p:Int)+1)=(p:Int)+1:=Jc _ (by omega);have hw2:IntKind.i64.wrap ((p:Int)+2)=(p:Int)+2:=Jc _ (by omega);have hw3:IntKind.i64.wrap ((p:Int)+3)=(p:Int)+3:=Jc _ (by omega);have hz:=hb.size;have hle:(p:Int)+4≤(n:Int):=by omega
   have l0:(p:Int)<(n:Int):=by omega
   have l1:(p:Int)+1<(n:Int):=by omega
   have l2:(p:Int)+2<(n:Int):=by omega
   have l3:(p:Int)+3<(n:Int):=by omega
   have m0:(0:Int)≤(p:Int):=by omega
   have m1:(0:Int)≤(p:Int)+1:=by omega
   have m2:(0:Int)≤(p:Int)+2:=by omega
   have m3:(0:Int)≤(p:Int)+3:=by omega
   have t2:((p:Int)+2).toNat=p+2:=by omega
   have t3:((p:Int)+3).toNat=p+3:=by omega
   clear hx0 hx1 hx2 hx3 hw hp hcell hc hq q0 q1 q2 q3;go_wp2_with fail
   go_region_held3 (fun w'=>w'.cell? ⟨b,off+p,none⟩=some (.int .u8 (bv x0))∧w'.cell? ⟨b,off+(p+1),none⟩=some (.int .u8 (bv x1))∧w'.cell? ⟨b,off+(p+2),none⟩=some (.int .u8 (bv x2))∧w'.cell? ⟨b,off+(p+3),none⟩=some (.int .u8 (bv x3)))
    (first
     |(have hq:=hbb7 w.heap.size w (QI _) (by(repeat' (first|assumption|exact QK _ _|refine Below.drew ?_|refine Below.alloc ?_ ?_ _|omega|(simp;done)|(simp;omega))));exact⟨(hq.cell (p:=⟨b,off+p,none⟩) hbw).trans Q0.out,(hq.cell (p:=⟨b,off+(p+1),none⟩) hbw).trans Q1.out,(hq.cell (p:=⟨b,off+(p+2),none⟩) hbw).trans Q2.out,(hq.cell (p:=⟨b,off+(p+3),none⟩) hbw).trans Q3.out⟩)
     |go_keep)
    ((refine jc rfl _ _ 197 (by rfl) qbb w.heap.size 178 i0 _ 4 underlying197 hi0 hz0 hz1 hz2 rfl _ (uj xs k) (by rfl) (hown.drew.alloc _) (wr.heap.size+1) _ 1 1 [qhv x0 x1 x2 x3] (by rfl) rfl (by rw[←qmN];exact Rd.new b32 _ _ [_]) (by simp[qdb,maxLen];omega) (by simp[qdb];omega) (by simp;omega) ?_;intro v7 w7 hown7 hg7 hbb7))
   all_goals
    clear hw1 hw2 hw3 t2 t3;go_wp2_with fail
    go_roundw
    case rel=>
     refine⟨k+1,p+4,by rw[Hp.1];omega,by omega,by go_num,?_,hbb7 _ _ (QI _) (by(repeat' (first|assumption|exact QK _ _|refine Below.drew ?_|refine Below.alloc ?_ ?_ _|omega|(simp;done)|(simp;omega))))⟩;rw[qf2,Hw.1];exact hown7
    case measure=>simp[intOf];omega
  ·have hge:decide ((p:Int)+4≤(n:Int))=false:=by simp;omega
   have Hk:=qe (show k=n/4 by omega);go_wp2_with fail
   go_ret;exact⟨_,rfl,hown.cast (by unfold zX;rw[HN.1,Hk.1]),hb⟩
def qjO:List Int:=[0,4,8,12,1,5,9,13,2,6,10,14,3,7,11,15,0,5,10,15,1,6,11,12,2,7,8,13,3,4,9,14]
def qds:Value:= .agg (qjO.map cI).toArray
theorem qef:(prog.info? 182).map (·.size)=some 32:=by kernel_rfl
theorem qiS(w:World):Calls prog 111 #[] w fun e w'=>e= .returned qds∧Below w.heap.size w w':=by
 have hb:∀w,(Instr.build 182 #[(0,.agg #[.int .i64 0,.int .i64 4,.int .i64 8,.int .i64 12]),(1,.agg #[.int .i64 1,.int .i64 5,.int .i64 9,.int .i64 13]),(2,.agg #[.int .i64 2,.int .i64 6,.int .i64 10,.int .i64 14]),(3,.agg #[.int .i64 3,.int .i64 7,.int .i64 11,.int .i64 15]),
  (4,.agg #[.int .i64 0,.int .i64 5,.int .i64 10,.int .i64 15]),(5,.agg #[.int .i64 1,.int .i64 6,.int .i64 11,.int .i64 12]),(6,.agg #[.int .i64 2,.int .i64 7,.int .i64 8,.int .i64 13]),(7,.agg #[.int .i64 3,.int .i64 4,.int .i64 9,.int .i64 14])]).run prog w= .ok qds w:=fun _=>by kernel_rfl
 have hx0:Arr cI (w.alloc (.cells ((QL 32 0).map cI).toArray 182)) w.heap.size 182 (QL 32 0):=Arr.new cI w _ _;have HX0:=qe hx0;clear hx0;go_enter func111,ntmps111
 go_wp2_with (refine qk rfl 182 _ _ rfl w.heap.size rfl qjO rfl _ _ HX0.1 rfl qef qoh ?_;intro w6 hx6 hg6)
 have HX6:=qe hx6;have HG6:=qe hg6;clear hx6 hg6 hb HX0;refine bodyPost_ret (v:=qds) (results_cell_row (g:=w.heap.size) rfl _ _ _ _ (0,0) _ rfl HX6.1 underlying182 rfl (by rw[qef];rfl)) rfl ?_;exact⟨rfl,((QK _ _).alloc (QI _) _).grown HG6.1 (by simp) (fun k e=>by cases e;exact QI _)⟩
def s0(number:BitVec 32):List (BitVec 32):=[1634760805#32,857760878#32,2036477234#32,1797285236#32,0#32,0#32,0#32,0#32,0#32,0#32,0#32,0#32,number,0#32,0#32,0#32]
theorem qnO(x:BitVec 32):(b32 x).oneCell'=true:=rfl
def sK(key:qf)(nb:BitVec 32)(k:Nat):List (BitVec 32):=(Q6 k).foldl (fun s i=>s.set (4+i) (yU key (4*i))) (s0 nb)
def stN(key nonce:qf)(nb:BitVec 32)(k:Nat):List (BitVec 32):=(Q6 k).foldl (fun s i=>s.set (13+i) (yU nonce (4*i))) (sK key nb 8)
theorem qjP(key:qf)(nb:BitVec 32)(k:Nat):sK key nb (k+1)=(sK key nb k).set (4+k) (yU key (4*k)):=by simp[sK,JU]
theorem qjQ(key nonce:qf)(nb:BitVec 32)(k:Nat):stN key nonce nb (k+1)=(stN key nonce nb k).set (13+k) (yU nonce (4*k)):=by simp[stN,JU]
theorem qiT(key:qf)(nb:BitVec 32):∀k,(sK key nb k).length=16
 |0=>rfl
 |k+1=>by rw[qjP,Jy,qiT key nb k]
theorem qf3(key nonce:qf)(nb:BitVec 32):∀k,(stN key nonce nb k).length=16
 |0=>qiT key nb 8
 |k+1=>by rw[qjQ,Jy,qf3 key nonce nb k]
structure PcA(w wr:World)(key:qf)(s:List (BitVec 32)):Prop where
 k:Arr b8 wr w.heap.size 92 key
 o:Arr b8 wr (w.heap.size+1) 157 (QL 64 0#8)
 s:Arr b32 wr (w.heap.size+2) 179 s
 b:Below w.heap.size w wr
 z:wr.heap.size=w.heap.size+3
theorem PcA.drewN{w wr:World}{key:qf}{s:List (BitVec 32)}(h:PcA w wr key s)(k:Nat):PcA w (wr.drewN k) key s:=⟨h.k,h.o,h.s,je h.b k,h.z⟩
theorem PcA.set_{w wr:World}{key:qf}{s:List (BitVec 32)}(h:PcA w wr key s)(k:Nat)(u:BitVec 32):PcA w (wr.setCell ⟨w.heap.size+2,k,none⟩ (.int .u32 (bv u))) key (s.set k u):=
 ⟨h.k.far (by simp) _,h.o.far (by simp) _,h.s.set_ k u,h.b.setCell (p:=⟨w.heap.size+2,k,none⟩) (by simp) _,by rw[World.size_setCell];exact h.z⟩
def qAt(k:Nat):Nat×Nat×Nat×Nat:=[(0,4,8,12),(1,5,9,13),(2,6,10,14),(3,7,11,15),(0,5,10,15),(1,6,11,12),(2,7,8,13),(3,4,9,14)].getD k (0,4,8,12)
def y9(q:Nat×Nat×Nat×Nat)(x:List (BitVec 32)):List (BitVec 32):=
 let r:=zE (x.getD q.1 0#32) (x.getD q.2.1 0#32) (x.getD q.2.2.1 0#32) (x.getD q.2.2.2 0#32)
 (((x.set q.1 r.1).set q.2.1 r.2.1).set q.2.2.1 r.2.2.1).set q.2.2.2 r.2.2.2
def zk(k:Nat)(x:List (BitVec 32)):List (BitVec 32):=(Q6 k).foldl (fun x i=>y9 (qAt i) x) x
def vu:Nat→List (BitVec 32)→List (BitVec 32)
 |0,x=>x
 |r+1,x=>zk 8 (vu r x)
theorem qaj(k:Nat)(x:List (BitVec 32)):zk (k+1) x=y9 (qAt k) (zk k x):=by simp[zk,JU]
theorem qmO(q:Nat×Nat×Nat×Nat)(x:List (BitVec 32)):(y9 q x).length=x.length:=by simp[y9]
theorem qah(x:List (BitVec 32)):∀k,(zk k x).length=x.length
 |0=>rfl
 |k+1=>by rw[qaj,qmO,qah x k]
theorem uq(x:List (BitVec 32)):∀r,(vu r x).length=x.length
 |0=>rfl
 |r+1=>by rw[vu,qah,uq x r]
theorem qo6(k:Nat)(hk:k<8):∃a b c d:Nat,qAt k=(a,b,c,d)∧a<16∧b<16∧c<16∧d<16∧a≠b∧a≠c∧a≠d∧b≠c∧b≠d∧c≠d∧
 ∀w,(Instr.index 182 qds (.int .i64 (k:Int))).run prog w= .ok (.agg #[.int .i64 (a:Int),.int .i64 (b:Int),.int .i64 (c:Int),.int .i64 (d:Int)]) w:=by
 match k,hk with
 |0,_=>exact⟨0,4,8,12,rfl,by decide,by decide,by decide,by decide,by decide,by decide,by decide,by decide,by decide,by decide,fun w=>by kernel_rfl⟩
 |1,_=>exact⟨1,5,9,13,rfl,by decide,by decide,by decide,by decide,by decide,by decide,by decide,by decide,by decide,by decide,fun w=>by kernel_rfl⟩
 |2,_=>exact⟨2,6,10,14,rfl,by decide,by decide,by decide,by decide,by decide,by decide,by decide,by decide,by decide,by decide,fun w=>by kernel_rfl⟩
 |3,_=>exact⟨3,7,11,15,rfl,by decide,by decide,by decide,by decide,by decide,by decide,by decide,by decide,by decide,by decide,fun w=>by kernel_rfl⟩
 |4,_=>exact⟨0,5,10,15,rfl,by decide,by decide,by decide,by decide,by decide,by decide,by decide,by decide,by decide,by decide,fun w=>by kernel_rfl⟩
 |5,_=>exact⟨1,6,11,12,rfl,by decide,by decide,by decide,by decide,by decide,by decide,by decide,by decide,by decide,by decide,fun w=>by kernel_rfl⟩
 |6,_=>exact⟨2,7,8,13,rfl,by decide,by decide,by decide,by decide,by decide,by decide,by decide,by decide,by decide,by decide,fun w=>by kernel_rfl⟩
 |7,_=>exact⟨3,4,9,14,rfl,by decide,by decide,by decide,by decide,by decide,by decide,by decide,by decide,by decide,by decide,fun w=>by kernel_rfl⟩
theorem qnP{w v:World}{g:Nat}{a b c d:Value}(hgz:w.heap.size+4≤g){p:Addr}(hp:p.block=w.heap.size+3)(u:Value)(h:v.cell? ⟨g,0,none⟩=some a∧v.cell? ⟨g,1,none⟩=some b∧v.cell? ⟨g,2,none⟩=some c∧v.cell? ⟨g,3,none⟩=some d):
 (v.setCell p u).cell? ⟨g,0,none⟩=some a∧(v.setCell p u).cell? ⟨g,1,none⟩=some b∧(v.setCell p u).cell? ⟨g,2,none⟩=some c∧(v.setCell p u).cell? ⟨g,3,none⟩=some d:=
 have hf:∀k,(v.setCell p u).cell? ⟨g,k,none⟩=v.cell? ⟨g,k,none⟩:=fun k=>World.cell?_setCell_far v p ⟨g,k,none⟩ u (by show p.block≠g;omega)
 ⟨(hf 0).trans h.1,(hf 1).trans h.2.1,(hf 2).trans h.2.2.1,(hf 3).trans h.2.2.2⟩
structure PcB(w wr:World)(key:qf)(s x:List (BitVec 32)):Prop where
 k:Arr b8 wr w.heap.size 92 key
 o:Arr b8 wr (w.heap.size+1) 157 (QL 64 0#8)
 s:Arr b32 wr (w.heap.size+2) 179 s
 x:Arr b32 wr (w.heap.size+3) 179 x
 b:Below w.heap.size w wr
 z:w.heap.size+4≤wr.heap.size
theorem PcB.below{w wr wr':World}{key:qf}{s x:List (BitVec 32)}(h:PcB w wr key s x)(hb:Below wr.heap.size wr wr'):PcB w wr' key s x:=by
 have hz:=h.z;exact⟨h.k.below hb (by omega),h.o.below hb (by omega),h.s.below hb (by omega),h.x.below hb (by omega),h.b.trans (hb.mono (by omega)),QX hz hb.size⟩
theorem PcB.set_{w wr:World}{key:qf}{s x:List (BitVec 32)}(h:PcB w wr key s x)(k:Nat)(u:BitVec 32):PcB w (wr.setCell ⟨w.heap.size+3,k,none⟩ (.int .u32 (bv u))) key s (x.set k u):=
 ⟨h.k.far (by simp) _,h.o.far (by simp) _,h.s.far (by simp) _,h.x.set_ k u,h.b.setCell (p:=⟨w.heap.size+3,k,none⟩) (by simp) _,by rw[World.size_setCell];exact h.z⟩
theorem qeF(a b c d:BitVec 32)(w:World):∃ra rb rc rd:BitVec 32,zE a b c d=(ra,rb,rc,rd)∧
 Calls prog 112 #[.int .u32 (bv a),.int .u32 (bv b),.int .u32 (bv c),.int .u32 (bv d)] w fun e w'=>e= .returned (.tuple #[.int .u32 (bv ra),.int .u32 (bv rb),.int .u32 (bv rc),.int .u32 (bv rd)])∧w=w':=by
 have h:=qhu a b c d w;generalize zE a b c d=q at h ⊢;exact⟨q.1,q.2.1,q.2.2.1,q.2.2.2,rfl,h⟩
def outB(X S:List (BitVec 32))(t:Nat):BitVec 8:=((X.getD (t/4) 0#32+S.getD (t/4) 0#32)>>>(8*(t % 4))).setWidth 8
def ye(X S:List (BitVec 32))(m:Nat):qf:=(Q6 64).map fun t=>if t<m then outB X S t else 0#8
theorem uV(X S:List (BitVec 32))(m:Nat):(ye X S m).length=64:=by simp[ye]
theorem qmP(X S:List (BitVec 32)):ye X S 0=QL 64 0#8:=by
 apply List.ext_getElem
 ·simp only[ye,List.length_map,List.length_range,Jz]
 ·intro i h1 h2
  simp only[ye,List.getElem_map,List.getElem_range,List.getElem_replicate];rw[if_neg (by omega)]
theorem qjR(X S:List (BitVec 32))(m j:Nat)(hj:j<4):outB X S (4*m+j)=((X.getD m 0#32+S.getD m 0#32)>>>(8*j)).setWidth 8:=by
 unfold outB;rw[show(4*m+j)/4=m by omega,show(4*m+j) % 4=j by omega]
theorem qhy(X S:List (BitVec 32))(m:Nat):(ye X S m).set m (outB X S m)=ye X S (m+1):=by
 apply List.ext_getElem
 ·simp[ye]
 ·intro i h1 h2
  simp only[ye,List.getElem_set,List.getElem_map,List.getElem_range];by_cases h:m=i
  ·subst h;simp
  ·rw[if_neg h]
   by_cases h':i<m
   ·rw[if_pos h',if_pos (by omega)]
   ·rw[if_neg h',if_neg (by omega)]
structure PcC(w wr:World)(key:qf)(s x:List (BitVec 32))(o:qf):Prop where
 k:Arr b8 wr w.heap.size 92 key
 o:Arr b8 wr (w.heap.size+1) 157 o
 s:Arr b32 wr (w.heap.size+2) 179 s
 x:Arr b32 wr (w.heap.size+3) 179 x
 b:Below w.heap.size w wr
theorem PcC.drewN{w wr:World}{key:qf}{s x:List (BitVec 32)}{o:qf}(h:PcC w wr key s x o)(k:Nat):PcC w (wr.drewN k) key s x o:=⟨h.k,h.o,h.s,h.x,je h.b k⟩
theorem PcC.set_{w wr:World}{key:qf}{s x:List (BitVec 32)}{o:qf}(h:PcC w wr key s x o)(k:Nat)(u:BitVec 8):PcC w (wr.setCell ⟨w.heap.size+1,k,none⟩ (.int .u8 (bv u))) key s x (o.set k u):=
 ⟨h.k.far (by simp) _,h.o.set_ k u,h.s.far (by simp) _,h.x.far (by simp) _,h.b.setCell (p:=⟨w.heap.size+1,k,none⟩) (by simp) _⟩
theorem PcB.cast{w wr:World}{key:qf}{s x y:List (BitVec 32)}(h:PcB w wr key s x)(e:x=y):PcB w wr key s y:=e▸h
def uK(key nonce:qf)(nb:BitVec 32):qf:=ye (vu 10 (stN key nonce nb 3)) (stN key nonce nb 3) (4*16)
theorem qfa(key nonce:qf)(nb:BitVec 32):uK key nonce nb=ye (vu 10 (stN key nonce nb 3)) (stN key nonce nb 3) (4*16):=rfl
theorem qiU(key nonce:qf)(nb:BitVec 32):(uK key nonce nb).length=64:=uV _ _ _
theorem qmQ(key:qf)(b off c B:Nat)(nonce:qf)(number:Int)(w:World)(hk:key.length=32)(hcell:∀j u,nonce[j]?=some u→w.cell? ⟨b,off+j,none⟩=some (b8 u))(hbB:b<w.heap.size)(hn:nonce.length=12)(hnc:12≤c)(hok:zy 12 number=0)(nb:BitVec 32)(hnb:nb=QU 32 number):
 Calls prog 90 #[jL b8 key,.slice (some ⟨b,off,none⟩) 12 c,.int .i64 number] w fun e w'=>e= .returned (.tuple #[jL b8 (uK key nonce nb),.nilIface])∧Below w.heap.size w w':=by
 rw[qn];have HK:=qe hk;have HN:=qe hn;have HCell:=qe hcell;have HOK:=qe hok;have hcv:=qeL number;rw[←hnb]at hcv;clear hnb;clear hk hn hcell hok;go_enter func90,ntmps90
 go_wp2_with fail
 have hk0:Arr b8 ((w.alloc (.cells (key.map b8).toArray 92)).alloc (.cells ((QL 64 0#8).map b8).toArray 157)) w.heap.size 92 key:=(Arr.new b8 w _ key).alloc _;have ho0:Arr b8 ((w.alloc (.cells (key.map b8).toArray 92)).alloc (.cells ((QL 64 0#8).map b8).toArray 157)) (w.heap.size+1) 157 (QL 64 0#8):=Arr.at_size b8 _ _ (by simp);have hb0:Below w.heap.size w ((w.alloc (.cells (key.map b8).toArray 92)).alloc (.cells ((QL 64 0#8).map b8).toArray 157)):=by(repeat' (first|assumption|exact QK _ _|refine Below.drew ?_|refine Below.alloc ?_ ?_ _|omega|(simp;done)|(simp;omega)))
 have hz0:((w.alloc (.cells (key.map b8).toArray 92)).alloc (.cells ((QL 64 0#8).map b8).toArray 157)).heap.size=w.heap.size+2:=by simp
 generalize hW1:QY (QY w _) _=W1;change QY (QY w _) (.cells ((QL 64 0#8).map b8).toArray 157)=W1 at hW1;rw[hW1]at hk0 ho0 hb0 hz0;clear hW1;have HZ0:=qe hz0;have HK0:=qe hk0;have HO0:=qe ho0;have HB0:=qe hb0;clear hz0 hk0 ho0 hb0;refine(qba _ _ _ _ _).mono ?_;rintro e w' ⟨rfl,rfl⟩;rw[HOK.1,qW];go_wp2_with fail
 rw[HZ0.1];have hA:PcA w (W1.alloc (.cells ((s0 nb).map b32).toArray 179)) key (sK key nb 0):=⟨HK0.1.alloc _,HO0.1.alloc _,Arr.at_size b32 _ _ HZ0.1,HB0.1.alloc HB0.1.size _,by rw[QQ,HZ0.1]⟩;generalize hW2:QY W1 _=W2;change QY W1 (.cells ((s0 nb).map b32).toArray 179)=W2 at hW2;rw[hW2]at hA;have HA:=qe hA;clear hA hW2 HK0 HO0 HB0 HZ0;go_loopw [28] (fun i wr=>∃k:Nat,k≤8∧i= .int .i64 k∧PcA w wr key (sK key nb k)) (fun i _=>8-(intOf i).toNat)
 case atStart=>exact⟨0,by omega,rfl,HA.1⟩
 case round=>
  obtain⟨k,hk8,rfl,hA⟩:=hrel;clear HA W1 W2;by_cases hlt:k<8
  ·have hkl:=HK.1
   have c0:=hA.k.cellD (k:=4*k) (by omega) 0#8;have c1:=hA.k.cellD (k:=4*k+1) (by omega) 0#8;have c2:=hA.k.cellD (k:=4*k+2) (by omega) 0#8;have c3:=hA.k.cellD (k:=4*k+3) (by omega) 0#8;have cs:=hA.s.cellD (k:=4+k) (by rw[qiT];omega) 0#32;have fs:=hA.s.frozen (4+k);have HC:=qe (fun w5 c0 c1 c2 c3=>qhw w.heap.size (4*k) (32-4*k) (32-4*k) (key.getD (4*k) 0#8) (key.getD (4*k+1) 0#8) (key.getD (4*k+2) 0#8) (key.getD (4*k+3) 0#8) w5 (by omega) c0 c1 c2 c3)
   have C0:=qe c0;have C1:=qe c1;have C2:=qe c2;have C3:=qe c3;have hA':=qe hA;clear c0 c1 c2 c3 hkl hA;have b1:(0:Int)≤4*(k:Int):=by omega
   have b2:4*(k:Int)≤32:=by omega
   have b3:¬(32=4*k):=by omega
   go_wp2_with fail
   refine(HC.1 _ C0.1 C1.1 C2.1 C3.1).mono ?_;rintro e w5 ⟨rfl,kd,rfl⟩;go_wp2_with fail
   go_roundw
   case rel=>exact⟨k+1,by omega,by go_num,by rw[qjP];exact(hA'.out.drewN kd).set_ (4+k) _⟩
   case measure=>simp[intOf];omega
  ·obtain rfl:k=8:=by omega
   rw[show(((8:Nat)):Int)=8 from rfl];have HA:=qe hA;clear hA hk8;go_wp2_with fail
   go_loopw [39] (fun i wr=>∃k:Nat,k≤3∧i= .int .i64 k∧PcA w wr key (stN key nonce nb k)) (fun i _=>3-(intOf i).toNat)
   case atStart=>exact⟨0,by omega,rfl,HA.1⟩
   case round=>
    clear HA;obtain⟨k,hk3,rfl,hA⟩:=hrel;by_cases hlt:k<3
    ·have hnl:=HN.1
     have hcc:∀j,j<12→wr.cell? ⟨b,off+j,none⟩=some (b8 (nonce.getD j 0#8)):=fun j hj=>(hA.b.cell (p:=⟨b,off+j,none⟩) hbB).trans (HCell.1 j _ (by simp[QR,QT (show j<nonce.length by omega)]))
     have c0:=hcc (4*k) (by omega);have c1:=hcc (4*k+1) (by omega);have c2:=hcc (4*k+2) (by omega);have c3:=hcc (4*k+3) (by omega);have cs:=hA.s.cellD (k:=13+k) (by rw[qf3];omega) 0#32;have fs:=hA.s.frozen (13+k);have HC:=qe (fun w5 c0 c1 c2 c3=>qhw b (off+4*k) (12-4*k) (c-4*k) (nonce.getD (4*k) 0#8) (nonce.getD (4*k+1) 0#8) (nonce.getD (4*k+2) 0#8) (nonce.getD (4*k+3) 0#8) w5 (by omega) c0 c1 c2 c3)
     have C0:=qe c0;have C1:=qe c1;have C2:=qe c2;have C3:=qe c3;have hA':=qe hA;have b1:(0:Int)≤4*(k:Int):=by omega
     have b2:4*(k:Int)≤12:=by omega
     have b3:¬(c=4*k):=by omega
     clear c0 c1 c2 c3 hnl hA hcc;go_wp2_with fail
     refine(HC.1 _ C0.1 C1.1 C2.1 C3.1).mono ?_;rintro e w5 ⟨rfl,kd,rfl⟩;go_wp2_with fail
     go_roundw
     case rel=>exact⟨k+1,by omega,by go_num,by rw[qjQ];exact(hA'.out.drewN kd).set_ (13+k) _⟩
     case measure=>simp[intOf];omega
    ·obtain rfl:k=3:=by omega
     rw[show(((3:Nat)):Int)=3 from rfl];obtain⟨S,hS⟩:∃S,S=stN key nonce nb 3:=⟨_,rfl⟩;have hSl:S.length=16:=by rw[hS,qf3]
     rw[←hS]at hA;have Hi:=qe (show(prog.info? 179).map (·.size)=some S.length by rw[hSl];kernel_rfl);have hx0:Arr b32 (wr.alloc (.cells ((QL 16 0#32).map b32).toArray 179)) wr.heap.size 179 (QL 16 0#32):=Arr.new b32 wr _ _;have HX0:=qe hx0;clear hx0;have HA:=qe hA;have HS:=qe hS;have HSl:=qe hSl;clear hA hS hSl hk3;go_wp2_with (first
      |refine qm rfl 179 _ rfl (w.heap.size+2) rfl _ S HA.1.s _ underlying179 rfl Hi.1 ?_
      |(refine qk rfl 179 _ _ rfl wr.heap.size rfl S rfl _ _ HX0.1 (by rw[HSl.1];rfl) Hi.1 qnO ?_;intro w6 hx6 hg6))
     have hB:PcB w w6 key S (vu 0 S):=by
      have hz:=HA.1.z;rw[hz]at hx6 hg6;exact⟨(HA.1.k.alloc _).grown hg6 (by simp),(HA.1.o.alloc _).grown hg6 (by simp),(HA.1.s.alloc _).grown hg6 (by simp),hx6,(HA.1.b.alloc HA.1.b.size _).grown hg6 (by simp;omega) (fun k e=>by cases e;simp),by have:=hg6.size;rw[QQ]at this;omega⟩
     have HZ:=qe HA.1.z;rw[HZ.1];have HB:=qe hB;clear HX0 hx6 hg6 HA hB HZ Hi;go_loopw [52] (fun i wr=>∃r:Nat,r≤10∧i= .int .i64 r∧PcB w wr key S (vu r S)) (fun i _=>10-(intOf i).toNat)
     case atStart=>exact⟨0,by omega,rfl,HB.1⟩
     case round=>
      obtain⟨r,hr10,rfl,hB⟩:=hrel;clear HB;have HB:=qe hB;clear hB;by_cases hlt:r<10
      ·go_wp2_with fail
       refine(qiS _).mono ?_;rintro e w7 ⟨rfl,hb7⟩;have hB7:=HB.1.below hb7;have HB7:=qe hB7;clear hB7 HB hb7;go_wp2_with fail
       go_loopw [55] (fun i wr=>∃k:Nat,k≤8∧i= .int .i64 k∧PcB w wr key S (zk k (vu r S))) (fun i _=>8-(intOf i).toNat)
       case atStart=>exact⟨0,by omega,rfl,HB7.1⟩
       case round=>
        obtain⟨k,hk8,rfl,hB⟩:=hrel;clear HB7;have HB:=qe hB;clear hB;by_cases hlt2:k<8
        ·obtain⟨qa,qb,qc,qd,hq,la,lb,lc,ld,nab,nac,nad,nbc,nbd,ncd,hix⟩:=qo6 k hlt2
         have Hq:=qe hq;clear hq;go_wp2_with fail
         have hq0:(wr.alloc (.cells #[.int .i64 (qa:Int),.int .i64 (qb:Int),.int .i64 (qc:Int),.int .i64 (qd:Int)] 181)).cell? ⟨wr.heap.size,0,none⟩=some (.int .i64 (qa:Int)):=by rw[cell_of_row _ _ 0 _ _ (0,0) (heap_alloc_new wr _)];rfl
         have hq1:(wr.alloc (.cells #[.int .i64 (qa:Int),.int .i64 (qb:Int),.int .i64 (qc:Int),.int .i64 (qd:Int)] 181)).cell? ⟨wr.heap.size,1,none⟩=some (.int .i64 (qb:Int)):=by rw[cell_of_row _ _ 1 _ _ (0,0) (heap_alloc_new wr _)];rfl
         have hq2:(wr.alloc (.cells #[.int .i64 (qa:Int),.int .i64 (qb:Int),.int .i64 (qc:Int),.int .i64 (qd:Int)] 181)).cell? ⟨wr.heap.size,2,none⟩=some (.int .i64 (qc:Int)):=by rw[cell_of_row _ _ 2 _ _ (0,0) (heap_alloc_new wr _)];rfl
         have hq3:(wr.alloc (.cells #[.int .i64 (qa:Int),.int .i64 (qb:Int),.int .i64 (qc:Int),.int .i64 (qd:Int)] 181)).cell? ⟨wr.heap.size,3,none⟩=some (.int .i64 (qd:Int)):=by rw[cell_of_row _ _ 3 _ _ (0,0) (heap_alloc_new wr _)];rfl
         have hBq:PcB w (wr.alloc (.cells #[.int .i64 (qa:Int),.int .i64 (qb:Int),.int .i64 (qc:Int),.int .i64 (qd:Int)] 181)) key S (zk k (vu r S)):=HB.1.below ((QK _ _).alloc (QI _) _);obtain⟨g,hg⟩:∃g,g=wr.heap.size:=⟨_,rfl⟩;have hgz:w.heap.size+4≤g:=by rw[hg];exact HB.1.z
         generalize hWq:QY wr _=wq at hq0 hq1 hq2 hq3 hBq;rw[←hg]at hq0 hq1 hq2 hq3;rw[←hg];clear hWq hg HB hix;have ia:(qa:Int)<16:=by omega
         have ib:(qb:Int)<16:=by omega
         have ic:(qc:Int)<16:=by omega
         have id:(qd:Int)<16:=by omega
         have xl:(zk k (vu r S)).length=16:=by rw[qah,uq];exact HSl.1
         obtain⟨X,hX⟩:∃X,X=zk k (vu r S):=⟨_,rfl⟩;rw[←hX]at xl hBq;have ca:=hBq.x.cellD (k:=qa) (by omega) 0#32;have cb:=hBq.x.cellD (k:=qb) (by omega) 0#32;have cc:=hBq.x.cellD (k:=qc) (by omega) 0#32;have cd:=hBq.x.cellD (k:=qd) (by omega) 0#32;obtain⟨xa,hxa⟩:∃x,x=X.getD qa 0#32:=⟨_,rfl⟩;obtain⟨xb,hxb⟩:∃x,x=X.getD qb 0#32:=⟨_,rfl⟩;obtain⟨xc,hxc⟩:∃x,x=X.getD qc 0#32:=⟨_,rfl⟩;obtain⟨xd,hxd⟩:∃x,x=X.getD qd 0#32:=⟨_,rfl⟩
         rw[←hxa]at ca;rw[←hxb]at cb;rw[←hxc]at cc;rw[←hxd]at cd;simp only[b32]at ca cb cc cd;have fx:=hBq.x.frozen;have HX:=qe hX;have HXl:=qe xl;have Hxa:=qe hxa;have Hxb:=qe hxb;have Hxc:=qe hxc;have Hxd:=qe hxd;have HBq:=qe hBq;clear hX xl hxa hxb hxc hxd hBq;obtain⟨ra,rb,rc,rd,hq4,cq⟩:=qeF xa xb xc xd wq.drew;have Cq:=qe cq;have Hq4:=qe hq4;clear cq hq4;refine wp_region_held_drew (S:=fun w'=>w'.cell? ⟨g,0,none⟩=some (.int .i64 (qa:Int))∧w'.cell? ⟨g,1,none⟩=some (.int .i64 (qb:Int))∧w'.cell? ⟨g,2,none⟩=some (.int .i64 (qc:Int))∧w'.cell? ⟨g,3,none⟩=some (.int .i64 (qd:Int))) (by kernel_rfl) ⟨hq0,hq1,hq2,hq3⟩ (fun hS=>?_)
         refine tkA 0 (.pointer (some ⟨g,0,none⟩)) hS ?_;refine tkA 1 (.int .i64 (qa:Int)) hS ?_;refine tkA 2 (.pointer (some ⟨g,1,none⟩)) hS ?_;try simp only[QJ,qj,qz,qv]
         refine tkA 3 (.int .i64 (qb:Int)) hS ?_;refine tkA 4 (.pointer (some ⟨g,2,none⟩)) hS ?_;refine tkA 5 (.int .i64 (qc:Int)) hS ?_;try simp only[QJ,qj,qz,qv]
         refine tkA 6 (.pointer (some ⟨g,3,none⟩)) hS ?_;refine tkA 7 (.int .i64 (qd:Int)) hS ?_;refine tkA 8 (.pointer (some ⟨g,0,none⟩)) hS ?_;try simp only[QJ,qj,qz,qv]
         refine tkA 9 (.int .i64 (qa:Int)) hS ?_;refine tkA 10 (.pointer (some ⟨w.heap.size+3,qa,none⟩)) hS ?_;refine tkA 12 (.pointer (some ⟨g,1,none⟩)) hS ?_;try simp only[QJ,qj,qz,qv]
         refine tkA 13 (.int .i64 (qb:Int)) hS ?_;refine tkA 14 (.pointer (some ⟨w.heap.size+3,qb,none⟩)) hS ?_;refine tkA 16 (.pointer (some ⟨g,2,none⟩)) hS ?_;try simp only[QJ,qj,qz,qv]
         refine tkA 17 (.int .i64 (qc:Int)) hS ?_;refine tkA 18 (.pointer (some ⟨w.heap.size+3,qc,none⟩)) hS ?_;refine tkA 20 (.pointer (some ⟨g,3,none⟩)) hS ?_;try simp only[QJ,qj,qz,qv]
         refine tkA 21 (.int .i64 (qd:Int)) hS ?_;refine tkA 22 (.pointer (some ⟨w.heap.size+3,qd,none⟩)) hS ?_;try simp only[QJ,qj,qz,qv]
         refine qeC (i:=11) (j:=15) (k:=19) (l:=23) (vi:= .int .u32 (bv xa)) (vj:= .int .u32 (bv xb)) (vk:= .int .u32 (bv xc)) (vl:= .int .u32 (bv xd)) rfl rfl rfl rfl (by kernel_rfl) (by kernel_rfl) (by kernel_rfl) (by kernel_rfl) hS (Or.inl ⟨by rfl,?_⟩) (Or.inl ⟨by rfl,?_⟩) (Or.inl ⟨by rfl,?_⟩) (Or.inl ⟨by rfl,?_⟩) ?_
         ·rintro w' rfl
          go_simp
         ·rintro w' rfl
          go_simp
         ·rintro w' rfl
          go_simp
         ·rintro w' rfl
          go_simp
         try simp only[QJ,qj,qz,qv]
         clear fx ca cb cc cd;have hB0:PcB w wq.drew key S X:=HBq.1.below (QK _ _).drew;clear HBq;refine rdH 24 (fun K' hK=>?_);go_simp;refine Cq.1.mono ?_;rintro e w' ⟨rfl,rfl⟩;generalize wq.drew=v0 at hS hB0 ⊢;refine hK.out _ _ hS (fun _=>?_);clear hK;refine tkA 25 (.tuple #[.int .u32 (bv ra),.int .u32 (bv rb),.int .u32 (bv rc),.int .u32 (bv rd)]) hS ?_;refine tkA 26 (.int .u32 (bv ra)) hS ?_
         try simp only[QJ,qj,qz,qv]
         refine tkA 27 (.int .u32 (bv rb)) hS ?_;refine tkA 28 (.int .u32 (bv rc)) hS ?_;refine tkA 29 (.int .u32 (bv rd)) hS ?_;try simp only[QJ,qj,qz,qv]
         refine tkA 30 (.pointer (some ⟨w.heap.size+3,qa,none⟩)) hS ?_;try simp only[QJ,qj,qz,qv]
         refine rdH 31 (fun K' hK=>?_);have hc:=hB0.x.cellD (k:=qa) (by first|(rw[HXl.1];assumption)|(simp only[Jy];rw[HXl.1];assumption)) 0#32;have hf:=hB0.x.frozen qa;go_simp;have hB1:=hB0.set_ qa ra;have hS':=qnP hgz (p:=⟨w.heap.size+3,qa,none⟩) (by simp) (.int .u32 (bv ra)) hS;clear hS hc hf hB0;generalize World.setCell v0 _ _=v1 at hB1 hS' ⊢;refine hK.out _ _ hS' (fun hS=>?_);clear hK hS'
         refine tkA 32 (.pointer (some ⟨w.heap.size+3,qb,none⟩)) hS ?_;try simp only[QJ,qj,qz,qv]
         refine rdH 33 (fun K' hK=>?_);have hc:=hB1.x.cellD (k:=qb) (by first|(rw[HXl.1];assumption)|(simp only[Jy];rw[HXl.1];assumption)) 0#32;have hf:=hB1.x.frozen qb;go_simp;have hB2:=hB1.set_ qb rb;have hS':=qnP hgz (p:=⟨w.heap.size+3,qb,none⟩) (by simp) (.int .u32 (bv rb)) hS;clear hS hc hf hB1;generalize World.setCell v1 _ _=v2 at hB2 hS' ⊢;refine hK.out _ _ hS' (fun hS=>?_);clear hK hS'
         refine tkA 34 (.pointer (some ⟨w.heap.size+3,qc,none⟩)) hS ?_;try simp only[QJ,qj,qz,qv]
         refine rdH 35 (fun K' hK=>?_);have hc:=hB2.x.cellD (k:=qc) (by first|(rw[HXl.1];assumption)|(simp only[Jy];rw[HXl.1];assumption)) 0#32;have hf:=hB2.x.frozen qc;go_simp;have hB3:=hB2.set_ qc rc;have hS':=qnP hgz (p:=⟨w.heap.size+3,qc,none⟩) (by simp) (.int .u32 (bv rc)) hS;clear hS hc hf hB2;generalize World.setCell v2 _ _=v3 at hB3 hS' ⊢;refine hK.out _ _ hS' (fun hS=>?_);clear hK hS'
         refine tkA 36 (.pointer (some ⟨w.heap.size+3,qd,none⟩)) hS ?_;try simp only[QJ,qj,qz,qv]
         refine rdH 37 (fun K' hK=>?_);have hc:=hB3.x.cellD (k:=qd) (by first|(rw[HXl.1];assumption)|(simp only[Jy];rw[HXl.1];assumption)) 0#32;have hf:=hB3.x.frozen qd;go_simp;have hB4:=hB3.set_ qd rd;have hS':=qnP hgz (p:=⟨w.heap.size+3,qd,none⟩) (by simp) (.int .u32 (bv rd)) hS;clear hS hc hf hB3;generalize World.setCell v3 _ _=v4 at hB4 hS' ⊢;refine hK.out _ _ hS' (fun hS=>?_);clear hK hS'
         try simp only[QJ,qj,qz,qv]
         refine wpAnyH_done (by kernel_rfl) ?_ _;go_wp2_with fail
         go_roundw
         case rel=>
          refine⟨k+1,by omega,by go_num,hB4.cast ?_⟩;rw[qaj,←HX.1,Hq.1];unfold y9;simp only[←Hxa.1,←Hxb.1,←Hxc.1,←Hxd.1,Hq4.1]
         case measure=>simp[intOf];omega
        ·obtain rfl:k=8:=by omega
         rw[show(((8:Nat)):Int)=8 from rfl];go_wp2_with fail
         go_roundw
         case rel=>exact⟨r+1,by omega,by go_num,HB.1⟩
         case measure=>simp[intOf];omega
      ·obtain rfl:r=10:=by omega
       rw[show(((10:Nat)):Int)=10 from rfl];obtain⟨X,hX⟩:∃X,X=vu 10 S:=⟨_,rfl⟩;have HX:=qe hX;have xl:X.length=16:=by rw[hX,uq];exact HSl.1
       have hB:=HB.1;rw[←hX]at hB;have hC:PcC w wr key S X (ye X S 0):=⟨hB.k,hB.o.cast (qmP X S).symm,hB.s,hB.x,hB.b⟩;have HXl:=qe xl;have HC:=qe hC;clear hX xl hB hC HB hr10;go_wp2_with fail
       go_loopw [94] (fun i wr=>∃m:Nat,m≤16∧i= .int .i64 m∧PcC w wr key S X (ye X S (4*m))) (fun i _=>16-(intOf i).toNat)
       case atStart=>exact⟨0,by omega,rfl,HC.1⟩
       case round=>
        clear HC;obtain⟨m,hm16,rfl,hC⟩:=hrel;have HC:=qe hC;clear hC;by_cases hlt:m<16
        ·have cx:=HC.1.x.cellD (k:=m) (by rw[HXl.1];omega) 0#32
         have cs:=HC.1.s.cellD (k:=m) (by rw[HSl.1];omega) 0#32;obtain⟨u,hu⟩:∃u,u=X.getD m 0#32+S.getD m 0#32:=⟨_,rfl⟩;have Hu:=qe hu;generalize hxm:X.getD m 0#32=xm at cx hu;generalize hsm:S.getD m 0#32=sm at cs hu;simp only[b32]at cx cs;have im:(m:Int)<16:=by omega
         clear hxm hsm;have Hu2:=qe hu;clear hu;go_wp2_with fail
         go_quiet (fail)
         rw[←Hu2.1];have HC2:=qe (HC.1.drewN nq);clear HC cx cs;generalize wr.drewN nq=wv at HC2 ⊢;go_wp2_with fail
         go_loopw [104] (fun i wr=>∃j:Nat,j≤4∧i= .int .i64 j∧PcC w wr key S X (ye X S (4*m+j))) (fun i _=>4-(intOf i).toNat)
         case atStart=>exact⟨0,by omega,rfl,HC2.1⟩
         case round=>
          clear HC2;obtain⟨j,hj4,rfl,hC⟩:=hrel;have HC:=qe hC;clear hC;by_cases hlt2:j<4
          ·have co:=HC.1.o.cellD (k:=4*m+j) (by rw[uV];omega) 0#8
           have fo:=HC.1.o.frozen (4*m+j);have i1:(0:Int)≤4*(m:Int)+(j:Int):=by omega
           have i2:4*(m:Int)+(j:Int)<64:=by omega
           go_wp2_with fail
           go_roundw
           case rel=>
            refine⟨j+1,by omega,by go_num,?_⟩;have:=HC.1.set_ (4*m+j) ((u>>>(8*j)).setWidth 8);rw[Hu.1,←qjR X S m j hlt2,qhy]at this;rw[Hu.1,←qjR X S m j hlt2];exact this
           case measure=>simp[intOf];omega
          ·obtain rfl:j=4:=by omega
           rw[show(((4:Nat)):Int)=4 from rfl];go_wp2_with fail
           go_roundw
           case rel=>exact⟨m+1,by omega,by go_num,HC.1⟩
           case measure=>simp[intOf];omega
        ·obtain rfl:m=16:=by omega
         rw[show(((16:Nat)):Int)=16 from rfl];obtain⟨O,hO⟩:∃O,O=ye X S (4*16):=⟨_,rfl⟩;have HO:=qe hO;have Hi:=qe (show(prog.info? 157).map (·.size)=some O.length by rw[hO,uV];kernel_rfl);have hC:=HC.1;rw[←hO]at hC;have HC2:=qe hC;clear hO hC HC hm16;go_wp2_with (first
          |refine qm rfl 157 _ rfl (w.heap.size+1) rfl _ O HC2.1.o _ underlying157 rfl Hi.1 ?_
          |(refine qk rfl 157 _ _ rfl (w.heap.size+1) rfl O rfl _ _ HC2.1.o rfl Hi.1 qU ?_;intro w9 ho9 hg9))
         have Ho9:=qe ho9;clear ho9;refine bodyPost_ret (v:= .tuple #[.agg (O.map b8).toArray,.nilIface]) (jW (g:=w.heap.size+1) rfl _ _ _ _ _ _ rfl rfl Ho9.1 underlying157 rfl Hi.1) rfl ?_;refine⟨by rw[qn,qfa,←HS.1,←HX.1,←HO.1],HC2.1.b.grown hg9 (by have:=HC2.1.o.lt;omega) (fun k e=>by cases e;omega)⟩
def qf4:qf:=[101#8,120#8,112#8,97#8,110#8,100#8,32#8,51#8,50#8,45#8,98#8,121#8,116#8,101#8,32#8,107#8]
def c4:List (BitVec 32):=[1634760805#32,857760878#32,2036477234#32,1797285236#32]
theorem qeG:zX qf4=c4:=by decide+kernel
theorem qoN(key nonce:qf)(nb:BitVec 32)(hk:key.length=32)(hn:nonce.length=12):c4++zX key++ [nb]++zX nonce=stN key nonce nb 3:=by
 unfold zX;rw[hk,hn];simp[uj,stN,sK,s0,c4,JU]
theorem qov:∀(X:List (BitVec 32)),X.length=16→∃a b c d e f g h i j k l m n o p,X=[a,b,c,d,e,f,g,h,i,j,k,l,m,n,o,p]
 | [a,b,c,d,e,f,g,h,i,j,k,l,m,n,o,p],_=>⟨a,b,c,d,e,f,g,h,i,j,k,l,m,n,o,p,rfl⟩
theorem qbv(k:Nat)(hk:k<8)(X:List (BitVec 32))(hX:X.length=16):zH (qAt k).1 (qAt k).2.1 (qAt k).2.2.1 (qAt k).2.2.2 X=y9 (qAt k) X:=by
 obtain⟨a,b,c,d,e,f,g,h,i,j,k',l,m,n,o,p,rfl⟩:=qov X hX
 match k,hk with
 |0,_=>simp only[qAt,zH,vG,y9,zE,Zu,Zv,qz,qv]
 |1,_=>simp only[qAt,zH,vG,y9,zE,Zu,Zv,qz,qv]
 |2,_=>simp only[qAt,zH,vG,y9,zE,Zu,Zv,qz,qv]
 |3,_=>simp only[qAt,zH,vG,y9,zE,Zu,Zv,qz,qv]
 |4,_=>simp only[qAt,zH,vG,y9,zE,Zu,Zv,qz,qv]
 |5,_=>simp only[qAt,zH,vG,y9,zE,Zu,Zv,qz,qv]
 |6,_=>simp only[qAt,zH,vG,y9,zE,Zu,Zv,qz,qv]
 |7,_=>simp only[qAt,zH,vG,y9,zE,Zu,Zv,qz,qv]
theorem qjS(k:Nat)(hk:k<4):qAt k=(k,4+k,8+k,12+k):=by
 match k,hk with
 |0,_=>rfl
 |1,_=>rfl
 |2,_=>rfl
 |3,_=>rfl
theorem qhz(k:Nat)(hk:k<4):qAt (4+k)=(k,4+(k+1) % 4,8+(k+2) % 4,12+(k+3) % 4):=by
 match k,hk with
 |0,_=>rfl
 |1,_=>rfl
 |2,_=>rfl
 |3,_=>rfl
structure RcC(w:World)(gs gx:Nat)(wr:World)(s x:List (BitVec 32))(o:qf):Prop where
 o:Arr b8 wr (w.heap.size+2) 157 o
 r:Arr b8 wr (w.heap.size+1) 157 (QL 64 0#8)
 c:∀j,j<16→wr.cell? ⟨gs,j,none⟩=some (b32 (s.getD j 0#32))∧wr.cell? ⟨gx,j,none⟩=some (b32 (x.getD j 0#32))
 b:Below w.heap.size w wr
theorem RcC.set_{w wr:World}{gs gx:Nat}{s x:List (BitVec 32)}{o:qf}(h:RcC w gs gx wr s x o)(n1:gs≠w.heap.size+2)(n2:gx≠w.heap.size+2)(k:Nat)(u:BitVec 8):RcC w gs gx (wr.setCell ⟨w.heap.size+2,k,none⟩ (.int .u8 (bv u))) s x (o.set k u):=
 ⟨h.o.set_ k u,h.r.far (by simp) _,fun j hj=>⟨(World.cell?_setCell_far wr ⟨w.heap.size+2,k,none⟩ ⟨gs,j,none⟩ _ (by show w.heap.size+2≠gs;omega)).trans (h.c j hj).1,(World.cell?_setCell_far wr ⟨w.heap.size+2,k,none⟩ ⟨gx,j,none⟩ _ (by show w.heap.size+2≠gx;omega)).trans (h.c j hj).2⟩,
  h.b.setCell (p:=⟨w.heap.size+2,k,none⟩) (by simp) _⟩
theorem RcC.drew{w wr:World}{gs gx:Nat}{s x:List (BitVec 32)}{o:qf}(h:RcC w gs gx wr s x o):RcC w gs gx wr.drew s x o:=⟨h.o,h.r,h.c,h.b.drew⟩
theorem qk9(w:World)(key:qf):∃W3,((w.alloc (.cells (key.map b8).toArray 92)).alloc (.cells ((QL 64 0#8).map b8).toArray 157)).alloc (.cells ((QL 64 0#8).map b8).toArray 157)=W3∧
 Arr b8 W3 w.heap.size 92 key∧Arr b8 W3 (w.heap.size+1) 157 (QL 64 0#8)∧Arr b8 W3 (w.heap.size+2) 157 (QL 64 0#8)∧Below w.heap.size w W3∧W3.heap.size=w.heap.size+1+1+1:=by
 refine⟨_,rfl,((Arr.new b8 w _ key).alloc _).alloc _,(Arr.at_size b8 _ _ (by simp)).alloc _,Arr.at_size b8 _ _ (by simp),?_,by simp⟩;exact(((QK _ _).alloc (QI _) _).alloc (by simp) _).alloc (by simp;omega) _
theorem qhA(key:qf)(b off c:Nat)(nonce:qf)(number:Int)(w:World)(hk:key.length=32)(hcell:∀j u,nonce[j]?=some u→w.cell? ⟨b,off+j,none⟩=some (b8 u))(hbB:b<w.heap.size)(hn:nonce.length=12)(hnc:12≤c)(h0:0≤number)(hmx:number≤4294967295)(nb:BitVec 32)(hnb:nb=QU 32 number):
 Calls prog 102 #[jL b8 key,.slice (some ⟨b,off,none⟩) 12 c,.int .i64 number] w fun e w'=>e= .returned (.tuple #[jL b8 (uK key nonce nb),.int .i64 0])∧Below w.heap.size w w':=by
 obtain⟨i0,hi0,hz0,hz1,hz2⟩:=info_parts qjN;rw[qn];have HK:=qe hk;have HN:=qe hn;have HCell:=qe hcell;have hcv:=qeL number;rw[←hnb]at hcv;have d1:decide (number<0)=false:=by simp;omega
 have d2:decide (4294967295<number)=false:=by simp;omega
 clear hk hn hcell hnb;have kc:=fun(C:Array Value)=>Lib.run_convert_bytes_const (P:=prog) (((w.alloc (.cells (key.map b8).toArray 92)).alloc (.cells #[.int .u8 0,.int .u8 0,.int .u8 0,.int .u8 0,.int .u8 0,.int .u8 0,.int .u8 0,.int .u8 0,.int .u8 0,.int .u8 0,.int .u8 0,.int .u8 0,.int .u8 0,.int .u8 0,.int .u8 0,.int .u8 0,.int .u8 0,.int .u8 0,.int .u8 0,.int .u8 0,.int .u8 0,.int .u8 0,.int .u8 0,.int .u8 0,.int .u8 0,.int .u8 0,.int .u8 0,.int .u8 0,.int .u8 0,.int .u8 0,.int .u8 0,.int .u8 0,.int .u8 0,.int .u8 0,.int .u8 0,.int .u8 0,.int .u8 0,.int .u8 0,.int .u8 0,.int .u8 0,.int .u8 0,.int .u8 0,.int .u8 0,.int .u8 0,.int .u8 0,.int .u8 0,.int .u8 0,.int .u8 0,.int .u8 0,.int .u8 0,.int .u8 0,.int .u8 0,.int .u8 0,.int .u8 0,.int .u8 0,.int .u8 0,.int .u8 0,.int .u8 0,.int .u8 0,.int .u8 0,.int .u8 0,.int .u8 0,.int .u8 0,.int .u8 0] 157)).alloc (.cells #[.int .u8 0,.int .u8 0,.int .u8 0,.int .u8 0,.int .u8 0,.int .u8 0,.int .u8 0,.int .u8 0,.int .u8 0,.int .u8 0,.int .u8 0,.int .u8 0,.int .u8 0,.int .u8 0,.int .u8 0,.int .u8 0,.int .u8 0,.int .u8 0,.int .u8 0,.int .u8 0,.int .u8 0,.int .u8 0,.int .u8 0,.int .u8 0,.int .u8 0,.int .u8 0,.int .u8 0,.int .u8 0,.int .u8 0,.int .u8 0,.int .u8 0,.int .u8 0,.int .u8 0,.int .u8 0,.int .u8 0,.int .u8 0,.int .u8 0,.int .u8 0,.int .u8 0,.int .u8 0,.int .u8 0,.int .u8 0,.int .u8 0,.int .u8 0,.int .u8 0,.int .u8 0,.int .u8 0,.int .u8 0,.int .u8 0,.int .u8 0,.int .u8 0,.int .u8 0,.int .u8 0,.int .u8 0,.int .u8 0,.int .u8 0,.int .u8 0,.int .u8 0,.int .u8 0,.int .u8 0,.int .u8 0,.int .u8 0,.int .u8 0,.int .u8 0] 157)) 28 5 C 16 16 underlying28 underlying5
 simp only[QQ]at kc;go_enter func102,ntmps102
 go_wp2_with fail
 obtain⟨W3,hW3,hk3,ho3,hq3,hb3,hz3⟩:=qk9 w key;have Hk3:=qe hk3;have Ho3:=qe ho3;have Hq3:=qe hq3;have Hb3:=qe hb3;rw[show w.heap.size+1+1+1=W3.heap.size from hz3.symm];have Hz3:=qe hz3;change QY (QY (QY w _) (.cells ((QL 64 0#8).map b8).toArray 157)) (.cells ((QL 64 0#8).map b8).toArray 157)=W3 at hW3;generalize hW:QY (QY (QY w _) _) _=V3
 obtain rfl:W3=V3:=hW3.symm.trans hW;clear hW hW3 hk3 ho3 hq3 hb3 hz3;have hr16:Rd b8 (W3.alloc (.cells (qf4.map b8).toArray 5 (16,17))) (W3.heap.size+1) (some ⟨W3.heap.size,0,none⟩) qf4:=fun _=>
  ⟨W3.heap.size,0,rfl,by omega,fun j u hu=>by rw[JD,cell_of_row _ W3.heap.size j _ 5 (16,17) (heap_alloc_new W3 _)];simp[hu]⟩
 have Hr16:=qe hr16;clear hr16;clear kc;refine(qcI 16 Hr16.1 (by simp) rfl (by decide)).mono ?_;rintro e w4 ⟨v4,rfl,ho4,hb4⟩;rw[qeG]at ho4;have Hz:=qe (show w.heap.size+3=W3.heap.size by rw[Hz3.1]);have hB4:Below W3.heap.size W3 w4:=((QK _ _).alloc (QI _) _).trans (hb4.mono (by simp));have hw4:W3.heap.size+1≤w4.heap.size:=by have:=hb4.size;simpa using this
 obtain⟨A4,c4',rfl,hr4,-,-,-⟩:=ho4.shape' (n:=4) rfl;have O4:=qe (ho4.less (B':=W3.heap.size) (by simp));have HB4:=qe hB4;clear ho4 hb4 hB4 hr4 Hr16;go_wp2_with fail
 have hk4:Rd b8 w4 (w.heap.size+1) (some ⟨w.heap.size,0,none⟩) key:=by
  have:=(Hk3.1.below HB4.1 (by rw[←Hz.1];omega)).rd 0;rwa[List.drop_zero]at this
 have Hk4:=qe hk4;have hzw:w.heap.size+1≤w4.heap.size:=by have:=Hz.1;omega
 clear hk4;refine(qcI 32 Hk4.1 hzw HK.1 (by omega)).mono ?_;rintro e w5 ⟨v5,rfl,ho5,hb5⟩;have hl5:(zX key).length=8:=by unfold zX;rw[HK.1];rfl
 obtain⟨A5,c5,rfl,hr5,-,-,-⟩:=ho5.shape' hl5;have O5:=qe (O4.out.below hb5 (QI _));have R5:=qe hr5;have HL5:=qe hl5;have HB5:=qe (HB4.1.trans (hb5.mono (by omega)));have hw5:W3.heap.size+1≤w5.heap.size:=QX hw4 hb5.size;clear ho5 hr5 hl5 hb5 hzw Hk4;have tok1:True:=trivial;have tok2:True:=trivial;go_wp2_with (first
  |(at_builtin;have _t:=tok1;clear tok1;refine qh rfl _ _ 197 rfl qbb W3.heap.size 178 i0 _ 4 underlying197 hi0 hz0 hz1 hz2 rfl _ c4 rfl O5.out w5.heap.size A5 8 c5 (zX key) rfl HL5.1.symm R5.1 (by rw[HL5.1];simp[c4,maxLen]) (by rw[HL5.1];simp[c4]) (by omega) ?_;intro v6 w6 ho6 hg6 hbb6;have O6:=qe ho6;have HB6:=qe (hbb6 _ _ (QI _) HB5.1);have hw6:W3.heap.size+1≤w6.heap.size:=QX hw5 hg6.size;clear ho6 hg6 hbb6)
  |(at_builtin;have _t:=tok2;clear tok2;refine qh rfl _ _ 197 rfl qbb W3.heap.size 178 i0 _ 4 underlying197 hi0 hz0 hz1 hz2 rfl _ (c4++zX key) rfl (O6.out.alloc _) (w6.heap.size+1) _ 1 1 [nb] rfl rfl (Rd.new b32 _ _ [nb]) (by rw[QO,HL5.1];simp[c4,maxLen]) (by rw[QO,HL5.1];simp[c4]) (by simp;omega) ?_;intro v7 w7 ho7 hg7 hbb7;have O7:=qe ho7;have HB7:=qe (hbb7 _ _ (QI _) (HB6.1.alloc (by omega) _));have hw7:W3.heap.size+1≤w7.heap.size:=by have:=hg7.size;simp at this;omega);clear hg7 hbb7 ho7)
 have hn7:Rd b8 w7 (b+1) (some ⟨b,off,none⟩) nonce:=fun _=>⟨b,off,rfl,by omega,fun j u hu=>by
  have h1:Below w.heap.size W3 w7:=HB7.1.mono (by have:=Hz.1;omega);exact((Hb3.1.trans h1).cell (p:=⟨b,off+j,none⟩) hbB).trans (HCell.1 j u hu)⟩
 have Hn7:=qe hn7;have hb7z:b+1≤w7.heap.size:=by have:=Hz.1;omega
 clear hn7;refine(qcI c Hn7.1 hb7z HN.1 (by omega)).mono ?_;rintro e w8 ⟨v8,rfl,ho8,hb8⟩;have hl8:(zX nonce).length=3:=by unfold zX;rw[HN.1];rfl
 obtain⟨A8,c8,rfl,hr8,-,-,-⟩:=ho8.shape' hl8;have O8:=qe (O7.out.below hb8 (QI _));have R8:=qe hr8;have HL8:=qe hl8;have HB8:=qe (HB7.1.trans (hb8.mono (by omega)));have hw8:W3.heap.size+1≤w8.heap.size:=QX hw7 hb8.size;have HL7:=qe (show(c4++zX key++ [nb]).length=13 by rw[QO,QO,HL5.1];rfl);obtain⟨S,hS⟩:∃S,S=stN key nonce nb 3:=⟨_,rfl⟩
 have HS:=qe hS;have HSr:=qe (show c4++zX key++ [nb]++zX nonce=S by rw[hS];exact qoN key nonce nb HK.1 HN.1);have HSl:=qe (show S.length=16 by rw[hS];exact qf3 _ _ _ _);clear ho8 hr8 hl8 hb8 Hn7 hb7z hS;have tok3:True:=trivial;have tok4:True:=trivial;go_wp2_with (first
  |(at_builtin;have _t:=tok3;clear tok3;refine qh rfl _ _ 197 rfl qbb W3.heap.size 178 i0 _ 4 underlying197 hi0 hz0 hz1 hz2 rfl _ (c4++zX key++ [nb]) rfl O8.out w8.heap.size A8 3 c8 (zX nonce) rfl HL8.1.symm R8.1 (by rw[HL7.1,HL8.1];simp[maxLen]) (by rw[HL7.1,HL8.1];omega) (by omega) ?_;intro v9 w9 ho9 hg9 hbb9;rw[HSr.1]at ho9;obtain⟨gs,cs,rfl,hgs1,hgs2,-⟩:=ho9.form' HSl.1 (by omega);have R9:=qe ho9.rd;have HB9:=qe (hbb9 _ _ (QI _) HB8.1);have hw9:W3.heap.size+1≤w9.heap.size:=QX hw8 hg9.size;clear ho9 hg9 hbb9)
  |(at_builtin;have _t:=tok4;clear tok4;refine qh rfl _ _ 197 rfl qbb w9.heap.size 178 i0 _ 4 underlying197 hi0 hz0 hz1 hz2 rfl _ [] rfl (Own.lit b32 w9 w9.heap.size 178 [] (QI _) (by simp[maxLen])) w9.heap.size (some ⟨gs,0,none⟩) 16 cs S rfl HSl.1.symm (R9.1.alloc (QI _) _) (by rw[HSl.1];simp[maxLen]) (by rw[HSl.1];simp) (by simp) ?_;intro v10 w10 ho10 hg10 hbb10;rw[List.nil_append]at ho10;obtain⟨gx,cx,rfl,hgx1,hgx2,-⟩:=ho10.form' HSl.1 (by omega);have O10:=qe ho10;have HB10:=qe (hbb10 _ _ (QI _) ((QK w9.heap.size w9).alloc (QI _) _));clear hg10 hbb10 ho10))
 go_loopw [11] (fun i wr=>∃r:Nat,r≤10∧i= .int .i64 r∧Own b32 wr w9.heap.size 178 (.slice (some ⟨gx,0,none⟩) 16 cx) (vu r S)∧Below w9.heap.size w9 wr) (fun i _=>10-(intOf i).toNat)
 case atStart=>exact⟨0,by omega,rfl,O10.out,HB10.1⟩
 case round=>
  obtain⟨r,hr10,rfl,hO,hB⟩:=hrel;have HO:=qe hO;have HB:=qe hB;have hrz:=hB.size;clear hO hB O10 HB10;by_cases hlt:r<10
  ·have hlt':decide ((r:Int)<10)=true:=by simp;omega
   go_wp2_with fail
   go_loopw [12] (fun i wr=>∃k:Nat,k≤4∧i= .int .i64 k∧Own b32 wr w9.heap.size 178 (.slice (some ⟨gx,0,none⟩) 16 cx) (zk k (vu r S))∧Below w9.heap.size w9 wr) (fun i _=>4-(intOf i).toNat)
   case atStart=>exact⟨0,by omega,rfl,HO.1,HB.1⟩
   case round=>
    clear HO HB hrz;obtain⟨k,hk4,rfl,hO,hB⟩:=hrel;have HO:=qe hO;have HB:=qe hB;have hrz:=hB.size;clear hO hB;have HXl:=qe (show(zk k (vu r S)).length=16 by rw[qah,uq];exact HSl.1);by_cases hlt2:k<4
    ·go_wp2_with fail
     rw[show(4+(k:Int))=((4+k:Nat):Int) by omega,show(8+(k:Int))=((8+k:Nat):Int) by omega,show(12+(k:Int))=((12+k:Nat):Int) by omega];refine(qa9 gx 16 cx w9.heap.size k (4+k) (8+k) (12+k) (zk k (vu r S)) _ HO.1 (by rw[HXl.1];omega) (by rw[HXl.1];omega) (by rw[HXl.1];omega) (by rw[HXl.1];omega)).mono ?_;rintro e w11 ⟨rfl,ho11,hg11⟩;have hq:=qbv k (by omega) (zk k (vu r S)) HXl.1
     rw[qjS k hlt2]at hq;have Hq:=qe hq;have O11:=qe ho11;have G11:=qe hg11;clear hq ho11 hg11;go_wp2_with fail
     go_roundw
     case rel=>
      refine⟨k+1,by omega,by go_num,O11.out.cast ?_,HB.1.grown G11.out hrz (fun q e=>by cases e;exact hgx1)⟩;rw[qaj,qjS k hlt2];exact Hq.1
     case measure=>simp[intOf];omega
    ·obtain rfl:k=4:=by omega
     rw[show(((4:Nat)):Int)=4 from rfl];go_wp2_with fail
     go_loopw [13] (fun i wr=>∃k:Nat,k≤4∧i= .int .i64 k∧Own b32 wr w9.heap.size 178 (.slice (some ⟨gx,0,none⟩) 16 cx) (zk (4+k) (vu r S))∧Below w9.heap.size w9 wr) (fun i _=>4-(intOf i).toNat)
     case atStart=>exact⟨0,by omega,rfl,HO.1,HB.1⟩
     case round=>
      clear HO HB hrz HXl;obtain⟨k,hk4,rfl,hO,hB⟩:=hrel;have HO:=qe hO;have HB:=qe hB;have hrz:=hB.size;clear hO hB;have HXl:=qe (show(zk (4+k) (vu r S)).length=16 by rw[qah,uq];exact HSl.1);by_cases hlt3:k<4
      ·go_wp2_with fail
       rw[show(4+((k:Int)+1) % 4)=((4+(k+1) % 4:Nat):Int) by omega,show(8+((k:Int)+2) % 4)=((8+(k+2) % 4:Nat):Int) by omega,show(12+((k:Int)+3) % 4)=((12+(k+3) % 4:Nat):Int) by omega];refine(qa9 gx 16 cx w9.heap.size k (4+(k+1) % 4) (8+(k+2) % 4) (12+(k+3) % 4) (zk (4+k) (vu r S)) _ HO.1 (by rw[HXl.1];omega) (by rw[HXl.1];omega) (by rw[HXl.1];omega) (by rw[HXl.1];omega)).mono ?_
       rintro e w11 ⟨rfl,ho11,hg11⟩;have hq:=qbv (4+k) (by omega) (zk (4+k) (vu r S)) HXl.1;rw[qhz k hlt3]at hq;have Hq:=qe hq;have O11:=qe ho11;have G11:=qe hg11;clear hq ho11 hg11;go_wp2_with fail
       go_roundw
       case rel=>
        refine⟨k+1,by omega,by go_num,O11.out.cast ?_,HB.1.grown G11.out hrz (fun q e=>by cases e;exact hgx1)⟩;rw[←Nat.add_assoc,qaj,qhz k hlt3];exact Hq.1
       case measure=>simp[intOf];omega
      ·obtain rfl:k=4:=by omega
       rw[show(((4:Nat)):Int)=4 from rfl];go_wp2_with fail
       go_roundw
       case rel=>exact⟨r+1,by omega,by go_num,HO.1,HB.1⟩
       case measure=>simp[intOf];omega
  ·obtain rfl:r=10:=by omega
   rw[show(((10:Nat)):Int)=10 from rfl];obtain⟨X,hX⟩:∃X,X=vu 10 S:=⟨_,rfl⟩;have HX:=qe hX;have HXl:=qe (show X.length=16 by rw[hX,uq];exact HSl.1);have hO:=HO.1;rw[←hX]at hO;have hwz:=Hz.1;have hsx:∀j,j<16→wr.cell? ⟨gs,j,none⟩=some (b32 (S.getD j 0#32))∧wr.cell? ⟨gx,j,none⟩=some (b32 (X.getD j 0#32)):=fun j hj=>by
    refine⟨?_,hO.cellD (by rw[HXl.1];exact hj)⟩;obtain⟨g',off,e,hb',hc⟩:=R9.1 (by rw[HSl.1];omega);cases e;have:=hc j (S.getD j 0#32) (by simp[QR,QT (show j<S.length by rw[HSl.1];exact hj)]);rw[JD]at this;exact(HB.1.cell (p:=⟨gs,j,none⟩) hgs2).trans this
   have hB3:Below W3.heap.size W3 wr:=HB9.1.trans (HB.1.mono (by omega));have hq0:Arr b8 wr (w.heap.size+2) 157 (ye X S 0):=(Hq3.1.below hB3 (by omega)).cast (qmP X S).symm;have ho0:Arr b8 wr (w.heap.size+1) 157 (QL 64 0#8):=Ho3.1.below hB3 (by omega);have HC:=qe (show RcC w gs gx wr S X (ye X S 0)from⟨hq0,ho0,hsx,Hb3.1.trans (hB3.mono (by omega))⟩);clear hX hO hsx hB3 hq0 ho0 HO HB hrz hr10 hwz
   have n1:gs≠w.heap.size+2:=by have:=Hz.1;omega
   have n2:gx≠w.heap.size+2:=by have:=Hz.1;omega
   have N1:=qe n1;have N2:=qe n2;clear n1 n2;go_wp2_with fail
   go_loopw [14] (fun i wr=>∃m:Nat,m≤64∧i= .int .i64 m∧RcC w gs gx wr S X (ye X S m)) (fun i _=>64-(intOf i).toNat)
   case atStart=>exact⟨0,by omega,rfl,HC.1⟩
   case round=>
    clear HC;obtain⟨m,hm64,rfl,hC⟩:=hrel;have HC:=qe hC;clear hC;by_cases hlt4:m<64
    ·obtain⟨q,hq⟩:∃q,q=m/4:=⟨_,rfl⟩
     obtain⟨t,ht⟩:∃t,t=m % 4:=⟨_,rfl⟩;have cs0:=(HC.1.c q (by omega)).1;have cx0:=(HC.1.c q (by omega)).2;have co:=HC.1.o.cellD (k:=m) (by rw[uV];omega) 0#8;have fo:=HC.1.o.frozen m;have ho:outB X S m=((X.getD q 0#32+S.getD q 0#32)>>>(8*t)).setWidth 8:=by rw[hq,ht];rfl
     generalize X.getD q 0#32=xm at cx0 ho;generalize S.getD q 0#32=sm at cs0 ho;simp only[b32]at cx0 cs0;have Ho:=qe ho;have e1:(m:Int).tdiv 4=(q:Int):=by rw[Int.tdiv_eq_ediv_of_nonneg (by omega)];omega
     have e2:(m:Int).tmod 4=(t:Int):=by rw[Int.tmod_eq_emod_of_nonneg (by omega)];omega
     have q1:(q:Int)<16:=by omega
     have m64:(m:Int)<64:=by omega
     have t4:(t:Int)<4:=by omega
     have e3:IntKind.i64.wrap (8*(t:Int))=8*(t:Int):=Jc _ (by omega);have e5:IntKind.i64.wrap (q:Int)=q:=Jc _ (by omega);have e6:IntKind.i64.wrap (t:Int)=t:=Jc _ (by omega);have e4:IntKind.u64.wrap (8*(t:Int))=8*(t:Int):=by rw[IntKind.wrap_u64];omega
     clear ho hq ht;go_wp2_with fail
     go_still_tail 19,(by kernel_rfl)
     clear e1 e2 e3 e4 e5 e6;go_wp2_with fail
     go_roundw
     case rel=>
      refine⟨m+1,by omega,by go_num,?_⟩;rw[←qhy,Ho.1];exact HC.1.drew.set_ N1.1 N2.1 m _
     case measure=>simp[intOf];omega
    ·obtain rfl:m=64:=by omega
     rw[show(((64:Nat)):Int)=64 from rfl];obtain⟨O,hO⟩:∃O,O=ye X S 64:=⟨_,rfl⟩;have HO:=qe hO;have Hi:=qe (show(prog.info? 157).map (·.size)=some O.length by rw[hO,uV];kernel_rfl);have hC:=HC.1;rw[←hO]at hC;have HC2:=qe hC;have hOl:O.length=64:=by rw[hO,uV]
     have HOl:=qe hOl;clear hO hC HC hm64 hOl;go_wp2_with (first
      |refine qm rfl 157 _ rfl (w.heap.size+1+1) rfl _ O HC2.1.o _ underlying157 rfl Hi.1 ?_
      |(refine qk rfl 157 _ _ rfl (w.heap.size+1) rfl O rfl _ _ HC2.1.r (by rw[HOl.1];rfl) Hi.1 qU ?_;intro w9' ho9 hg9))
     have Ho9:=qe ho9;clear ho9;refine bodyPost_ret (v:= .tuple #[.agg (O.map b8).toArray,.int .i64 0]) (jW (g:=w.heap.size+1) rfl _ _ _ _ _ _ rfl rfl Ho9.1 underlying157 rfl Hi.1) rfl ?_;refine⟨by rw[qn,qfa,←HS.1,←HX.1,HO.1],HC2.1.b.grown hg9 (by have:=HC2.1.r.lt;omega) (fun k e=>by cases e;omega)⟩
def j0(key nonce:qf)(number:Int):qf:=if zy nonce.length number=0 then uK key nonce (QU 32 number)else QL 64 0#8
theorem kF(key nonce:qf)(number:Int):(j0 key nonce number).length=64:=by
 unfold j0;split
 ·exact qiU _ _ _
 ·simp
theorem vZ{n:Nat}{number:Int}(h:zy n number=0):n=12∧0≤number∧number≤4294967295:=by
 unfold zy at h;split at h
 ·cases h
 ·split at h
  ·cases h
  ·omega
theorem qjT(w:World)(key:qf):Arr b8 ((w.alloc (.cells (key.map b8).toArray 92)).alloc (.cells ((QL 64 0#8).map b8).toArray 157)) (w.heap.size+1) 157 (QL 64 0#8):=Arr.at_size b8 _ _ (by simp)
theorem kY:(prog.info? 157).map (·.size)=some (QL 64 0#8).length:=by rw[Jz];kernel_rfl
theorem qbG(key:qf)(A:Option Addr)(n c B:Nat)(nonce:qf)(number:Int)(w:World)(hk:key.length=32)(hr:Rd b8 w B A nonce)(hB:B≤w.heap.size)(hn:nonce.length=n)(hnc:n≤c):
 Calls prog 90 #[jL b8 key,.slice A n c,.int .i64 number] w fun e w'=>e= .returned (.tuple #[jL b8 (j0 key nonce number),zG (zy n number)])∧Below w.heap.size w w':=by
 by_cases hz:zy n number=0
 ·obtain⟨h12,h0,hmx⟩:=vZ hz
  subst h12;obtain⟨b,off,rfl,hb,hc⟩:=hr (by omega);have e:j0 key nonce number=uK key nonce (QU 32 number):=by unfold j0;rw[hn,if_pos hz]
  rw[e,hz,qW];exact qmQ key b off c B nonce number w hk hc (by omega) hn hnc hz _ rfl
 ·have e:j0 key nonce number=QL 64 0#8:=by unfold j0;rw[hn,if_neg hz]
  rw[e];obtain⟨bad,hbad⟩:∃bad,bad=zy n number:=⟨_,rfl⟩;have hc:=fun w=>qba A n c number w
  simp only[←hbad]at hc;rw[←hbad]at hz ⊢;rw[jO hz]at hc ⊢;have HC:=qe hc;have HZ:=qe (qjT w key);rw[qn,qn];clear hr hn e hbad hc hk;go_enter func90,ntmps90
  go_wp2_with fail
  refine(HC.1 _).mono ?_;rintro e w' ⟨rfl,rfl⟩;go_wp2_with (first
   |refine qm rfl 157 _ rfl (w.heap.size+1) rfl _ (QL 64 0#8) HZ.1 _ underlying157 rfl kY ?_
   |(refine qk rfl 157 _ _ rfl (w.heap.size+1) rfl (QL 64 0#8) rfl _ _ HZ.1 rfl kY qU ?_;intro w9 ho9 hg9))
  have Ho9:=qe ho9;clear ho9;refine bodyPost_ret (v:= .tuple #[.agg ((QL 64 0#8).map b8).toArray,.iface 69 (.int .i64 (bad:Int))]) (jW (g:=w.heap.size+1) rfl _ _ _ _ _ _ rfl rfl Ho9.1 underlying157 rfl kY) rfl ?_;exact⟨rfl,(((QK _ _).alloc (QI _) _).alloc (by simp) _).grown hg9 (by simp;omega) (fun k e=>by cases e;omega)⟩
theorem qeg(w:World)(key:qf):Arr b8 (((w.alloc (.cells (key.map b8).toArray 92)).alloc (.cells ((QL 64 0#8).map b8).toArray 157)).alloc (.cells ((QL 64 0#8).map b8).toArray 157)) (w.heap.size+1) 157 (QL 64 0#8):=(qjT w key).alloc _
theorem qeh(w:World)(key:qf):Arr b8 (((w.alloc (.cells (key.map b8).toArray 92)).alloc (.cells ((QL 64 0#8).map b8).toArray 157)).alloc (.cells ((QL 64 0#8).map b8).toArray 157)) (w.heap.size+1+1) 157 (QL 64 0#8):=Arr.at_size b8 _ _ (by simp)
theorem qch(key:qf)(A:Option Addr)(n c B:Nat)(nonce:qf)(number:Int)(w:World)(hk:key.length=32)(hr:Rd b8 w B A nonce)(hB:B≤w.heap.size)(hn:nonce.length=n)(hnc:n≤c):
 Calls prog 102 #[jL b8 key,.slice A n c,.int .i64 number] w fun e w'=>e= .returned (.tuple #[jL b8 (j0 key nonce number),.int .i64 (zy n number:Int)])∧Below w.heap.size w w':=by
 by_cases hz:zy n number=0
 ·obtain⟨h12,h0,hmx⟩:=vZ hz
  subst h12;obtain⟨b,off,rfl,hb,hc⟩:=hr (by omega);have e:j0 key nonce number=uK key nonce (QU 32 number):=by unfold j0;rw[hn,if_pos hz]
  rw[e,hz];exact qhA key b off c nonce number w hk hc (by omega) hn hnc h0 hmx _ rfl
 ·have e:j0 key nonce number=QL 64 0#8:=by unfold j0;rw[hn,if_neg hz]
  rw[e];have HZ0:=qe hz;clear hz;by_cases h1:n=12
  ·subst h1
   by_cases h2:number<0
   ·rw[uU rfl (.inl h2)]
    have h2':decide (number<0)=true:=by simpa using h2
    have HZ:=qe (qeg w key);have HZ2:=qe (qeh w key);rw[qn,qn];clear hr hn e hk;go_enter func102,ntmps102
    go_wp2_with (first
     |refine qm rfl 157 _ rfl (w.heap.size+1+1) rfl _ (QL 64 0#8) HZ2.1 _ underlying157 rfl kY ?_
     |(refine qk rfl 157 _ _ rfl (w.heap.size+1) rfl (QL 64 0#8) rfl _ _ HZ.1 rfl kY qU ?_;intro w9 ho9 hg9))
    have Ho9:=qe ho9;clear ho9;refine bodyPost_ret (v:= .tuple #[.agg ((QL 64 0#8).map b8).toArray,.int .i64 8]) (jW (g:=w.heap.size+1) rfl _ _ _ _ _ _ rfl rfl Ho9.1 underlying157 rfl kY) rfl ?_;exact⟨rfl,((((QK _ _).alloc (QI _) _).alloc (by simp) _).alloc (by simp;omega) _).grown hg9 (by simp;omega) (fun k e=>by cases e;omega)⟩
   ·have h2':decide (number<0)=false:=by simpa using h2
    by_cases h3:4294967295<number
    ·rw[uU rfl (.inr h3)]
     have h3':decide (4294967295<number)=true:=by simpa using h3
     have HZ:=qe (qeg w key);have HZ2:=qe (qeh w key);rw[qn,qn];clear hr hn e hk;go_enter func102,ntmps102
     go_wp2_with (first
      |refine qm rfl 157 _ rfl (w.heap.size+1+1) rfl _ (QL 64 0#8) HZ2.1 _ underlying157 rfl kY ?_
      |(refine qk rfl 157 _ _ rfl (w.heap.size+1) rfl (QL 64 0#8) rfl _ _ HZ.1 rfl kY qU ?_;intro w9 ho9 hg9))
     have Ho9:=qe ho9;clear ho9;refine bodyPost_ret (v:= .tuple #[.agg ((QL 64 0#8).map b8).toArray,.int .i64 8]) (jW (g:=w.heap.size+1) rfl _ _ _ _ _ _ rfl rfl Ho9.1 underlying157 rfl kY) rfl ?_;exact⟨rfl,((((QK _ _).alloc (QI _) _).alloc (by simp) _).alloc (by simp;omega) _).grown hg9 (by simp;omega) (fun k e=>by cases e;omega)⟩
    ·exfalso
     exact HZ0.1 (qdr rfl (by omega))
  ·rw[qhx h1]
   have h1':((n:Int) !=12)=true:=by rw[bne_iff_ne];omega
   clear h1;have HZ:=qe (qeg w key);have HZ2:=qe (qeh w key);rw[qn,qn];clear hr hn e hk;go_enter func102,ntmps102
   go_wp2_with (first
    |refine qm rfl 157 _ rfl (w.heap.size+1+1) rfl _ (QL 64 0#8) HZ2.1 _ underlying157 rfl kY ?_
    |(refine qk rfl 157 _ _ rfl (w.heap.size+1) rfl (QL 64 0#8) rfl _ _ HZ.1 rfl kY qU ?_;intro w9 ho9 hg9))
   have Ho9:=qe ho9;clear ho9;refine bodyPost_ret (v:= .tuple #[.agg ((QL 64 0#8).map b8).toArray,.int .i64 1]) (jW (g:=w.heap.size+1) rfl _ _ _ _ _ _ rfl rfl Ho9.1 underlying157 rfl kY) rfl ?_;exact⟨rfl,((((QK _ _).alloc (QI _) _).alloc (by simp) _).alloc (by simp;omega) _).grown hg9 (by simp;omega) (fun k e=>by cases e;omega)⟩
def Qh(key nonce:qf)(number:Int)(text:qf)(i:Nat):BitVec 8:=text.getD i 0#8^^^(uK key nonce (QU 32 (number+((i/64:Nat):Int)))).getD (i % 64) 0#8
def ko(key nonce:qf)(number:Int)(text:qf)(k:Nat):qf:=(Q6 k).map (Qh key nonce number text)
theorem qiV(key nonce:qf)(number:Int)(text:qf)(k:Nat):ko key nonce number text (k+1)=ko key nonce number text k++ [Qh key nonce number text k]:=by simp[ko,JU]
theorem qbo(key nonce:qf)(number:Int)(text:qf)(k:Nat):(ko key nonce number text k).length=k:=by simp[ko]
def zF(n len:Nat)(number:Int):Nat:=if zy n number≠0 then zy n number else if 0<len∧4294967295<number+(((len-1)/64:Nat):Int)then 8 else 0
def zY(key nonce:qf)(number:Int)(text:qf):qf:=if zF nonce.length text.length number=0 then ko key nonce number text text.length else[]
theorem qci{n len:Nat}{number:Int}(h:zy n number≠0):zF n len number=zy n number:=if_pos h
theorem qhB{len:Nat}{number:Int}(h:zy 12 number=0){k:Nat}(hk:k<len)(hb:4294967295<number+((k/64:Nat):Int)):zF 12 len number=8:=by
 unfold zF;rw[if_neg (by rw[h];simp),if_pos ⟨by omega,by have:k/64≤(len-1)/64:=Nat.div_le_div_right (by omega);omega⟩]
theorem qdc{len:Nat}{number:Int}(h:zy 12 number=0)(hk:∀k,k<len→number+((k/64:Nat):Int)≤4294967295):zF 12 len number=0:=by
 unfold zF;rw[if_neg (by rw[h];simp),if_neg];rintro⟨h1,h2⟩;have:=hk (len-1) (by omega);omega
theorem qdt{xs:qf}(h:xs.length=64):(prog.info? 157).map (·.size)=some xs.length:=by rw[h];kernel_rfl
theorem qdu{xs:qf}(h:xs.length=32):(prog.info? 92).map (·.size)=some xs.length:=by rw[h];kernel_rfl
theorem qoO{w w4 w7:World}{g3 t tb toff k:Nat}{o:Obj}{v v7 a b:Value}(hg7:kU (w4.drew.alloc o) w7 v v7)(hne:v.ownBlock≠some g3)(h3:g3<w4.heap.size)(ct:w4.cell? ⟨g3,t,none⟩=some a)(hb:Below w.heap.size w w4)
 (hv:∀g,v.ownBlock=some g→w.heap.size≤g)(htb:tb<w.heap.size)(c0:w.cell? ⟨tb,toff+k,none⟩=some b):w7.cell? ⟨g3,t,none⟩=some a∧w7.cell? ⟨tb,toff+k,none⟩=some b:=by
 have hz:=hb.size;have h1:(w4.drew.alloc o).heap.size=w4.heap.size+1:=QQ _ _;have e1:=JK (a:=⟨g3,t,none⟩) (hg7.by_.block g3 (by omega) (fun e=>hne e.symm));have e2:=JK (a:=⟨tb,toff+k,none⟩) (hg7.by_.block tb (by omega) (fun e=>by have:=hv tb e.symm;omega));have e3:(w4.drew.alloc o).cell? ⟨g3,t,none⟩=w4.cell? ⟨g3,t,none⟩:=World.cell?_alloc_lt w4.drew o ⟨g3,t,none⟩ h3
 have e4:(w4.drew.alloc o).cell? ⟨tb,toff+k,none⟩=w4.cell? ⟨tb,toff+k,none⟩:=World.cell?_alloc_lt w4.drew o ⟨tb,toff+k,none⟩ (by show tb<w4.heap.size;omega);exact⟨(e1.trans e3).trans ct,(e2.trans e4).trans ((hb.cell (p:=⟨tb,toff+k,none⟩) htb).trans c0)⟩
theorem qiW(key:qf)(A:Option Addr)(n c B:Nat)(nonce:qf)(number:Int)(T:Option Addr)(m d B':Nat)(text:qf)(w:World)(hk:key.length=32)(hr:Rd b8 w B A nonce)(hB:B≤w.heap.size)(hn:nonce.length=n)(hnc:n≤c)
 (ht:Rd b8 w B' T text)(hB':B'≤w.heap.size)(hm:text.length=m)(hbig:m≤1100000):
 Calls prog 80 #[jL b8 key,.slice A n c,.int .i64 number,.slice T m d] w fun e w'=>∃v,e= .returned (.tuple #[v,.int .i64 (zF n m number:Int)])∧Own b8 w' w.heap.size 5 v (zY key nonce number text)∧Below w.heap.size w w':=by
 obtain⟨i0,hi0,hz0,hz1,hz2⟩:=info_parts jN;have HK:=qe hk;have HN:=qe hn;have HM:=qe hm;have HR:=qe hr;have HT:=qe ht;have HA0:=qe (Arr.new b8 w 92 key);obtain⟨P,hP⟩:∃P,P=j0 key nonce number:=⟨_,rfl⟩;have HP:=qe hP;have HPl:=qe (show P.length=64 by rw[hP];exact kF _ _ _);have h1:=fun w' (hb:Below w.heap.size w w')=>qbG key A n c B nonce number w' hk (hr.below (hb.mono hB)) (QX hB hb.size) hn hnc
 have h2:=fun(q:Int) w' (hb:Below w.heap.size w w')=>qch key A n c B nonce q w' hk (hr.below (hb.mono hB)) (QX hB hb.size) hn hnc
 have h20:=fun w' hb=>h2 number w' hb
 simp only[←hP]at h20;by_cases hbad:zy n number=0
 ·obtain⟨h12,g0,g1⟩:=vZ hbad
  simp only[hbad]at h20;have H20:=qe h20;have H2:=qe h2;have HB0:=qe hbad;subst h12;clear hk hr hn ht hm hP h1 h2 h20 hbad;rw[qn];go_enter func80,ntmps80
  go_wp2_with (refine qm rfl 92 _ rfl w.heap.size rfl _ key HA0.1 _ underlying92 rfl (qdu HK.1) ?_)
  have hW0:Below w.heap.size w (w.alloc (.cells (key.map b8).toArray 92)):=(QK _ _).alloc (QI _) _;have hz0':(w.alloc (.cells (key.map b8).toArray 92)).heap.size=w.heap.size+1:=by simp
  have hA0:=HA0.1;clear HA0;generalize QY w _=W0 at hA0 hW0 hz0' ⊢;have HA0:=qe hA0;have HW0:=qe hW0;have HZ0:=qe hz0';clear hA0 hW0 hz0';refine(H20.1 _ HW0.1).mono ?_;rintro e w1 ⟨rfl,hb1⟩;rw[qn,show(((0:Nat)):Int)=0 from rfl];have HZ1:=qe (Arr.new b8 w1 157 (QL 64 0#8));have HB1:=qe hb1;have hs1:=hb1.size;clear hb1;go_wp2_with (refine qk rfl 157 _ _ rfl w1.heap.size rfl P rfl _ _ HZ1.1 (by rw[HPl.1];rfl) (qdt HPl.1) qU ?_;intro w2 hp2 hg2)
  have HB2:=qe (show Below W0.heap.size W0 w2 from(HB1.1.alloc hs1 _).grown hg2 (by simp;omega) (fun k e=>by cases e;exact hs1));clear hp2 hg2 HZ1 HB1 hs1;go_loopw [12,13] (fun v i wr=>∃k:Nat,k≤m∧i= .int .i64 k∧Own b8 wr W0.heap.size 5 v (ko key nonce number text k)∧Below W0.heap.size W0 wr∧∀j,j<k→number+((j/64:Nat):Int)≤4294967295) (fun _ i _=>m-(intOf i).toNat)
  case atStart=>exact⟨0,by omega,rfl,Own.nil_ _ _ _ _,HB2.1,fun j hj=>absurd hj (by omega)⟩
  case round=>
   obtain⟨k,hkm,rfl,hown,hb,hall⟩:=hrel;have HO:=qe hown;have HB:=qe hb;have HAll:=qe hall;have hbz:=hb.size;have HK0:=qe (HA0.1.below hb (by rw[HZ0.1];omega));have hbw:Below w.heap.size w wr:=HW0.1.trans (hb.mono (by have:=HZ0.1;omega));have HBw:=qe hbw;clear hown hb hall hbw HB2;by_cases hlt:k<m
   ·obtain⟨q,hq⟩:∃q,q=k/64:=⟨_,rfl⟩
    have hlt':(k:Int)<(m:Int):=by omega
    have hqk:(k:Int)/64=(q:Int):=by omega
    have hq2:q≤20000:=by omega
    obtain⟨N,hN⟩:∃N,N=number+(q:Int):=⟨_,rfl⟩;have hc:=H2.1 N wr HBw.1;obtain⟨R,hR⟩:∃R,R=j0 key nonce N:=⟨_,rfl⟩;rw[←hR]at hc;have HRl:=qe (show R.length=64 by rw[hR];exact kF _ _ _);have Hq:=qe hq;have HNn:=qe hN;have HRr:=qe hR;have hN':number+(q:Int)=N:=hN.symm;have hNb:N≤4294987295:=by omega
    have hNa:0≤N:=by omega
    clear hq hR hN;by_cases hb2:4294967295<N
    ·have hbad2:zy 12 N=8:=uU rfl (.inr hb2)
     rw[hbad2]at hc;have HC:=qe hc;clear hc hbad2;go_wp2_with (refine qm rfl 92 _ rfl w.heap.size rfl _ key HK0.1 _ underlying92 rfl (qdu HK.1) ?_)
     refine HC.1.mono ?_;rintro e w3 ⟨rfl,hb3⟩;rw[qn,show(((8:Nat)):Int)=8 from rfl];have HZ3:=qe (Arr.new b8 w3 157 (QL 64 0#8));have HB3:=qe hb3;have hs3:=hb3.size;clear hb3;go_wp2_with (refine qk rfl 157 _ _ rfl w3.heap.size rfl R rfl _ _ HZ3.1 (by rw[HRl.1];rfl) (qdt HRl.1) qU ?_;intro w4 hp4 hg4;have HP4:=qe hp4;have HB4:=qe (show Below wr.heap.size wr w4 from(HB3.1.alloc hs3 _).grown hg4 (by simp;omega) (fun k e=>by cases e;exact hs3));have hz4:w3.heap.size+1≤w4.heap.size:=by have:=hg4.size;simpa using this)
     clear hp4 hg4 HZ3 HB3;go_ret2;have hz:zF 12 m number=8:=qhB HB0.1 hlt (by rw[←Hq.1,←HNn.1];exact hb2);exact⟨_,by rw[hz];rfl,(Own.nil_ b8 _ _ _).cast (by unfold zY;rw[HN.1,HM.1,if_neg (by rw[hz];simp)]),HBw.1.trans (HB4.1.mono HBw.1.size)⟩
    ·have hbad2:zy 12 N=0:=qdr rfl (by omega)
     rw[hbad2]at hc;have HC:=qe hc;have HRp:=qe (show R=uK key nonce (QU 32 N) by rw[HRr.1];unfold j0;rw[HN.1,if_pos hbad2]);clear hc hbad2;go_wp2_with (refine qm rfl 92 _ rfl w.heap.size rfl _ key HK0.1 _ underlying92 rfl (qdu HK.1) ?_)
     refine HC.1.mono ?_;rintro e w3 ⟨rfl,hb3⟩;rw[qn,show(((0:Nat)):Int)=0 from rfl];have HZ3:=qe (Arr.new b8 w3 157 (QL 64 0#8));have HB3:=qe hb3;have hs3:=hb3.size;clear hb3;go_wp2_with (refine qk rfl 157 _ _ rfl w3.heap.size rfl R rfl _ _ HZ3.1 (by rw[HRl.1];rfl) (qdt HRl.1) qU ?_;intro w4 hp4 hg4;have HP4:=qe hp4;have HB4:=qe (show Below wr.heap.size wr w4 from(HB3.1.alloc hs3 _).grown hg4 (by simp;omega) (fun k e=>by cases e;exact hs3));have hz4:w3.heap.size+1≤w4.heap.size:=by have:=hg4.size;simpa using this)
     clear hp4 hg4 HZ3 HB3;obtain⟨t,htq⟩:∃t,t=k % 64:=⟨_,rfl⟩;have ct:=HP4.1.cellD (k:=t) (by rw[HRl.1];omega) 0#8;have hl:=HM.1;obtain⟨tb,toff,rfl,htb,htc⟩:=HT.1 (by omega);have cx0:=htc k (text.getD k 0#8) (by simp[QR,QT (show k<text.length by omega)]);have hb4:Below w.heap.size w w4:=HBw.1.trans (HB4.1.mono HBw.1.size);have cx:=(hb4.cell (p:=⟨tb,toff+k,none⟩) (by show tb<_;omega)).trans cx0
     obtain⟨y,hy⟩:∃y,y=R.getD t 0#8:=⟨_,rfl⟩;obtain⟨x,hx⟩:∃x,x=text.getD k 0#8:=⟨_,rfl⟩;rw[←hy]at ct;rw[←hx]at cx cx0;have Hmix:=qe (show Qh key nonce number text k=x^^^y by unfold Qh;rw[hx,hy,HRp.1,htq,←Hq.1,←HNn.1]);have CX0:=qe cx0;have O4:=qe (HO.1.below HB4.1 (QI _));have hob:=qe (show∀g,w3.heap.size=g→u12.ownBlock≠some g from fun g hg e=>by have:=(HO.1.lt g e).2;omega)
     have Hne:=qe (hob.out _ rfl);have Hlt:=qe (show w3.heap.size<w4.heap.size by omega);have Hvb:=qe (show∀g,u12.ownBlock=some g→w.heap.size≤g from fun g hg=>by have:=(HO.1.lt g hg).1;have:=HZ0.1;omega);have g64:(t:Int)<64:=by omega
     have hmod:(k:Int).tmod 64=(t:Int):=by rw[Int.tmod_eq_emod_of_nonneg (by omega)];omega
     have hwt:IntKind.i64.wrap (t:Int)=t:=Jc _ (by omega);have CT0:=qe ct;have HB4w:=qe hb4;have hw4z:W0.heap.size≤w4.heap.size:=QX hbz HB4.1.size;have htb':tb<w.heap.size:=by omega
     simp only[b8]at ct cx;clear cx0 hl htc hb4 hx hy htq hs3;go_region_held3 (fun w'=>w'.cell? ⟨w3.heap.size,t,none⟩=some (.int .u8 (bv y))∧w'.cell? ⟨tb,toff+k,none⟩=some (.int .u8 (bv x)))
      (first
       |exact qoO hg7 Hne.1 Hlt.1 CT0.1 HB4w.1 Hvb.1 htb' CX0.1
       |go_keep)
      ((refine jc rfl _ _ 28 (by rfl) qH W0.heap.size 5 i0 _ 1 underlying28 hi0 hz0 hz1 hz2 rfl _ (ko key nonce number text k) (by rfl) (O4.out.drew.alloc _) (w4.heap.size+1) _ 1 1 [x^^^y] (by rfl) rfl (Rd.new b8 _ _ [_]) (by simp[qbo,maxLen];omega) (by simp[qbo];omega) (by simp;omega) ?_;intro v7 w7 hown7 hg7 hbb7))
     all_goals
      clear hmod hwt;go_wp2_with fail
      go_roundw
      case rel=>
       refine⟨k+1,by omega,by go_num,?_,hbb7 _ _ (QI _) (((HB.1.trans (HB4.1.mono hbz)).drew).alloc (by show W0.heap.size≤w4.heap.size;omega) _),fun j hj=>?_⟩
       ·rw[qiV,Hmix.1];exact hown7
       ·rcases Nat.lt_or_eq_of_le (Nat.le_of_lt_succ hj)with h|h
        ·exact HAll.1 j h
        ·subst h;rw[←Hq.1,←HNn.1];omega
      case measure=>simp[intOf];omega
   ·obtain rfl:k=m:=by omega
    have hz:zF 12 k number=0:=qdc HB0.1 HAll.1;have HZ:=qe hz;clear hz;go_wp2_with fail
    go_ret2;exact⟨_,by rw[HZ.1];rfl,(HO.1.less (by rw[HZ0.1];omega)).cast (by unfold zY;rw[HN.1,HM.1,if_pos HZ.1]),HBw.1⟩
 ·have hmb:zF n m number=zy n number:=qci hbad
  have hmv:zY key nonce number text=[]:=by unfold zY;rw[hn,hm,if_neg (by rw[hmb];exact hbad)]
  obtain⟨bad,hbd⟩:∃bad,bad=zy n number:=⟨_,rfl⟩;simp only[←hbd]at h20 hmb;rw[←hbd]at hbad;rw[hmb,hmv];have H20:=qe h20;have hb0:((bad:Int) !=0)=true:=by rw[bne_iff_ne];omega
  clear hk hr hn ht hm hP h1 h2 h20 hmb hmv hbd hbad;rw[qn];go_enter func80,ntmps80
  go_wp2_with (refine qm rfl 92 _ rfl w.heap.size rfl _ key HA0.1 _ underlying92 rfl (qdu HK.1) ?_)
  refine(H20.1 _ ((QK _ _).alloc (QI _) _)).mono ?_;rintro e w1 ⟨rfl,hb1⟩;rw[qn];have HZ1:=qe (Arr.new b8 w1 157 (QL 64 0#8));have HB1:=qe (show Below w.heap.size w w1 from((QK _ _).alloc (QI _) _).trans (hb1.mono (by simp)));clear hb1;go_wp2_with (refine qk rfl 157 _ _ rfl w1.heap.size rfl P rfl _ _ HZ1.1 (by rw[HPl.1];rfl) (qdt HPl.1) qU ?_;intro w2 hp2 hg2)
  go_ret2;exact⟨_,rfl,Own.nil_ b8 _ _ _,(HB1.1.alloc HB1.1.size _).grown hg2 (by have:=HB1.1.size;simp;omega) (fun k e=>by cases e;exact HB1.1.size)⟩
end
def zv(n:Nat):Nat:=(16-n % 16) % 16
def kq(ctx mixed:qf):qf:=
 ctx++(QL (zv ctx.length) 0#8++(mixed++(QL (zv mixed.length) 0#8++(le8 (QP 64 ctx.length)++le8 (QP 64 mixed.length)))))
theorem za(n:BitVec 64):(le8 n).length=8:=by simp[le8]
theorem qf5(ctx mixed:qf):(kq ctx mixed).length≤ctx.length+mixed.length+48:=by
 unfold kq zv;simp only[QO,Jz,za];omega
def zN(key nonce:qf):qf:=(j0 key nonce 0).take 32
theorem qaw(key nonce:qf):(zN key nonce).length=32:=by
 unfold zN;rw[QV,kF];rfl
def uc(key nonce ctx mixed:qf):qf:=yB (zN key nonce) (kq ctx mixed)
theorem jT(key nonce ctx mixed:qf):(uc key nonce ctx mixed).length=16:=qcH _ _
def jU(n c t:Nat):Nat:=if n≠12∨1048576<c∨1048576<t then 1 else 0
def zO(key nonce ctx text:qf):qf:=if jU nonce.length ctx.length text.length=0 then zY key nonce 1 text++uc key nonce ctx (zY key nonce 1 text)else[]
def jV(key nonce ctx sealed:qf):Nat:=
 if nonce.length≠12∨1048592<ctx.length∨1048592<sealed.length then 1
 else if sealed.length<16 then 2
 else if uc key nonce ctx (sealed.take (sealed.length-16))=sealed.drop (sealed.length-16)then 0 else 2
def j3(key nonce ctx sealed:qf):qf:=if jV key nonce ctx sealed=0 then zY key nonce 1 (sealed.take (sealed.length-16))else[]
theorem ka(key nonce text:qf)(hn:nonce.length=12)(ht:text.length≤1100000):zF 12 text.length 1=0∧(zY key nonce 1 text).length=text.length:=by
 have hb:zy 12 1=0:=rfl;have h0:zF 12 text.length 1=0:=qdc hb (fun k hk=>by have:=Nat.div_le_self k 64;omega);refine⟨h0,?_⟩;unfold zY;rw[hn,if_pos h0,qbo]
theorem qiX(key nonce text:qf):ko key nonce 1 (ko key nonce 1 text text.length) text.length=text:=by
 apply List.ext_getElem
 ·rw[qbo]
 ·intro i h1 h2
  have e:(ko key nonce 1 text text.length).getD i 0#8=Qh key nonce 1 text i:=by
   unfold ko;simp[QR,h2]
  have e2:(ko key nonce 1 (ko key nonce 1 text text.length) text.length)[i]=Qh key nonce 1 (ko key nonce 1 text text.length) i:=by
   simp[ko]
  rw[e2];unfold Qh at e ⊢;rw[e,BitVec.xor_assoc,BitVec.xor_self,BitVec.xor_zero];simp[QR,h2]
theorem qjU(key nonce text:qf)(hn:nonce.length=12)(ht:text.length≤1100000):zY key nonce 1 text=ko key nonce 1 text text.length:=by
 unfold zY;rw[hn,if_pos (ka key nonce text hn ht).1]
theorem qla(key nonce text:qf)(hn:nonce.length=12)(ht:text.length≤1100000):zY key nonce 1 (zY key nonce 1 text)=text:=by
 have h1:=ka key nonce text hn ht;have h2:=ka key nonce (zY key nonce 1 text) hn (by rw[h1.2];exact ht);have e:=qjU key nonce text hn ht;have e2:=qjU key nonce (zY key nonce 1 text) hn (by rw[h1.2];exact ht);rw[e2,h1.2,e,qiX]
section
open Go.RowKit
theorem uW(x y c:BitVec 64)(hc:c.toNat≤1)(w:World):
 (callFunc 132 #[.int .u64 (bv x),.int .u64 (bv y),.int .u64 (bv c)]).run prog w= .ok (.value (.tuple #[.int .u64 (bv (ad x y c)),.int .u64 (bv (cy x y c))])) w:=by
 have h:=uS x y c hc;have hc':=zW x y c hc;have hx:=x.isLt;have hy:=y.isLt;have ha:=(ad x y c).isLt;rw[run_callFunc_extern func132 (by kernel_rfl) (by kernel_rfl) (by kernel_rfl) (e:=add64Entry) (by kernel_rfl),show bv x=((x.toNat:Nat):Int)from rfl,show bv y=((y.toNat:Nat):Int)from rfl,show bv c=((c.toNat:Nat):Int)from rfl,run_add64 x.toNat y.toNat c.toNat (by omega) (by omega) (by omega) (by omega)]
 simp only[Result.andThen,bv];rw[show((x.toNat:Int)+(y.toNat:Int)+(c.toNat:Int)) % 18446744073709551616=((ad x y c).toNat:Int) by omega,show((x.toNat:Int)+(y.toNat:Int)+(c.toNat:Int))/18446744073709551616=((cy x y c).toNat:Int) by omega]
theorem qbH(x y:BitVec 64)(w:World):
 (callFunc 132 #[.int .u64 (bv x),.int .u64 (bv y),.int .u64 0]).run prog w= .ok (.value (.tuple #[.int .u64 (bv (ad x y 0)),.int .u64 (bv (cy x y 0))])) w:=uW x y 0 (by simp) w
theorem qiY(x:BitVec 64)(w:World):
 (callFunc 132 #[.int .u64 (bv x),.int .u64 5,.int .u64 0]).run prog w= .ok (.value (.tuple #[.int .u64 (bv (ad x 5 0)),.int .u64 (bv (cy x 5 0))])) w:=uW x 5 0 (by simp) w
theorem qiZ(x c:BitVec 64)(hc:c.toNat≤1)(w:World):
 (callFunc 132 #[.int .u64 (bv x),.int .u64 0,.int .u64 (bv c)]).run prog w= .ok (.value (.tuple #[.int .u64 (bv (ad x 0 c)),.int .u64 (bv (cy x 0 c))])) w:=uW x 0 c hc w
theorem qoP(x y:BitVec 64):(x>>>32)*(y>>>32)+((x>>>32)*(y&&&4294967295#64)+((x&&&4294967295#64)*(y&&&4294967295#64))>>>32)>>>32+(((x>>>32)*(y&&&4294967295#64)+((x&&&4294967295#64)*(y&&&4294967295#64))>>>32&&&4294967295#64)+(x&&&4294967295#64)*(y>>>32))>>>32=mh x y:=by
 have hx:=x.isLt;have hy:=y.isLt;obtain⟨bd,bt,bw,hhi⟩:=Lib.mul64_hi x.toNat y.toNat hx hy;have ba:=Lib.half_mul_le (a:=x.toNat/4294967296) (b:=y.toNat/4294967296) (by omega) (by omega);have bb:=Lib.half_mul_le (a:=x.toNat/4294967296) (b:=y.toNat % 4294967296) (by omega) (by omega);have bc:=Lib.half_mul_le (a:=x.toNat % 4294967296) (b:=y.toNat/4294967296) (by omega) (by omega);have m32:∀z:BitVec 64,(z&&&4294967295#64).toNat=z.toNat % 4294967296:=fun z=>by
  rw[BitVec.toNat_and,show(4294967295#64).toNat=2^32-1 from rfl,Nat.and_two_pow_sub_one_eq_mod]
 have s32:∀z:BitVec 64,(z>>>32).toNat=z.toNat/4294967296:=fun z=>by rw[BitVec.toNat_ushiftRight,Nat.shiftRight_eq_div_pow]
 apply JX;unfold mh;rw[Q8,←hhi];simp only[JQ,Zy,m32,s32];have hm:=qoJ x y;generalize x.toNat/4294967296*(y.toNat/4294967296)=a at*;generalize x.toNat/4294967296*(y.toNat % 4294967296)=b at*;generalize x.toNat % 4294967296*(y.toNat/4294967296)=c at*;generalize x.toNat % 4294967296*(y.toNat % 4294967296)=d at*;omega
theorem qcJ(x y:BitVec 64)(w:World):
 Calls prog 139 #[.int .u64 (bv x),.int .u64 (bv y)] w fun e w'=>e= .returned (.tuple #[.int .u64 (bv (mh x y)),.int .u64 (bv (ml x y))])∧w=w':=by
 go_enter func139,ntmps139
 go_wp2_with fail
 go_ret2;refine⟨?_,rfl⟩;rw[←qoP];rfl
def QB(xs:qf)(k:Nat):BitVec 64:=QP 64 (zx ((xs.take 8).drop k))
theorem qlb(xs:qf)(k:Nat)(hk:k<8)(hl:8≤xs.length):QB xs (k+1)<<<8|||(xs.getD k 0#8).setWidth 64=QB xs k:=by
 have hn:((xs.take 8).drop (k+1)).length≤7:=by rw[List.length_drop,QV];omega
 have hlt:zx ((xs.take 8).drop (k+1))<72057594037927936:=by
  refine Jq (qmH _) ?_;rw[show 72057594037927936=256^7 from rfl];exact Nat.pow_le_pow_right (by omega) hn
 have e:zx ((xs.take 8).drop k)=(xs.getD k 0#8).toNat+256*zx ((xs.take 8).drop (k+1)):=by
  rw[List.drop_eq_getElem_cons (i:=k) (by rw[QV];omega)];simp only[zx]
  congr 2
  rw[List.getElem_take];simp[QR,show k<xs.length by omega]
 have h1:(QB xs (k+1)).toNat=zx ((xs.take 8).drop (k+1)):=by unfold QB;rw[Q8];omega
 have hb:=(xs.getD k 0#8).isLt;have h2:((xs.getD k 0#8).setWidth 64).toNat=(xs.getD k 0#8).toNat:=by rw[BitVec.toNat_setWidth];omega
 have hand:QB xs (k+1)<<<8&&&(xs.getD k 0#8).setWidth 64=0#64:=by
  ext i hi
  simp only[BitVec.getElem_and,BitVec.getElem_zero,BitVec.getElem_shiftLeft,BitVec.getElem_setWidth];by_cases h:i<8
  ·simp[h]
  ·rw[BitVec.getLsbD_of_ge _ i (by omega)];simp
 rw[←ZE _ _ hand];apply JX;rw[JQ,ZD,h1,h2,Nat.shiftLeft_eq];unfold QB;rw[Q8,e];omega
theorem qow(xs:qf):QB xs 8=0#64:=by unfold QB;rw[List.drop_eq_nil_of_le (by rw[QV];omega)];rfl
theorem qcj(w:World)(B n c:Nat)(A:Option Addr)(xs:qf)(hr:Rd b8 w B A xs)(hn:n=xs.length)(h8:8≤n):
 Calls prog 113 #[.slice A n c] w fun e w'=>e= .returned (.int .u64 (bv (zq xs)))∧w=w':=by
 go_enter func113,ntmps113
 go_wp2_with fail
 have HR:=qe hr;have HN:=qe hn;clear hr hn;go_loopw [3,4] (fun v i wr=>∃k:Nat,k≤8∧i= .int .i64 ((k:Int)-1)∧v= .int .u64 (bv (QB xs k))∧wr=w) (fun _ i _=>(intOf i+1).toNat)
 case atStart=>exact⟨8,by omega,by simp,by rw[qow];rfl,rfl⟩
 case round=>
  obtain⟨k,hk,rfl,rfl,rfl⟩:=hrel;by_cases h0:k=0
  ·subst h0
   have e1:((0:Nat):Int)-1= -1:=rfl;rw[e1];clear e1;go_wp2_with fail
   go_ret;exact⟨rfl,rfl⟩
  ·obtain⟨j,rfl⟩:∃j,k=j+1:=⟨k-1,by omega⟩
   obtain⟨b,off,rfl,hb,hc⟩:=HR.1.at_ (k:=j) (by rw[←HN.1];omega);have hx:xs[j]'(by rw[←HN.1];omega)=xs.getD j 0#8:=by simp[QR,show j<xs.length by rw[←HN.1];omega]
   rw[hx]at hc;have hs:=qlb xs j (by omega) (by rw[←HN.1];omega);obtain⟨x,hxe⟩:∃x,x=xs.getD j 0#8:=⟨_,rfl⟩;rw[←hxe]at hc hs;have hc':wr.cell? ⟨b,off+j,none⟩=some (.int .u8 (bv x)):=hc;have HS:=qe hs;clear hx hs hc hxe;have e1:((j+1:Nat):Int)-1=(j:Int):=by omega
   rw[e1];clear e1 h0;have hj:j<8:=by omega
   go_wp2_with fail
   go_roundw
   case rel=>exact⟨j,by omega,by simp,by rw[←HS.1],trivial⟩
   case measure=>simp[intOf]
theorem qi0{w:World}{B N:Nat}{v:Value}(h:w.ownsRow B 5 1 v N (madeCells (Value.int .u8 0).cells (N*1)).toList):Own b8 w B 5 v (QL N 0#8):=by
 unfold Own;rw[Jz];have e:(madeCells (Value.int .u8 0).cells (N*1)).toList=QL N (b8 0#8):=by rw[Nat.mul_one];exact toList_madeCells_one _ _
 rw[e]at h;rw[List.map_replicate];exact h
theorem qhC(n:Nat)(hn:n≤100000000)(w:World):
 Calls prog 92 #[.int .i64 (n:Int)] w fun e w'=>∃g,e= .returned (.slice (some ⟨g,0,none⟩) ((16-n % 16) % 16) ((16-n % 16) % 16))∧Own b8 w' w.heap.size 5 (.slice (some ⟨g,0,none⟩) ((16-n % 16) % 16) ((16-n % 16) % 16)) (QL ((16-n % 16) % 16) 0#8)∧Below w.heap.size w w':=by
 obtain⟨i0,hi0,hz0,hz1,hz2⟩:=info_parts jN;obtain⟨m,hm⟩:∃m:Nat,m=(16-n % 16) % 16:=⟨_,rfl⟩;rw[←hm];have h1:(16-(n:Int) % 16) % 16=(m:Int):=by omega
 have hm16:m≤16:=by omega
 clear hm;go_enter func92,ntmps92
 go_wp2_with (refine wpList_make_full _ rfl (.tmp 6) (.tmp 6) 28 rfl w.heap.size 5 i0 _ 1 underlying28 hi0 hz0 hz1 .i64 .i64 _ _ m rfl rfl h1 h1 (by rw[hz2];omega) (by simp[maxLen];omega) (by simp) ?_;intro w3 hown3 hg3)
 go_ret;exact⟨_,rfl,qi0 hown3,(QK _ w).grown hg3 (QI _) (fun k e=>by cases e)⟩
attribute [local go_sem] qbH uW
theorem zL(W:World)(b k:Nat)(v:Value):W.grownBy (W.setCell ⟨b,k,none⟩ v) (some b):=
 ⟨rfl,rfl,rfl,by simp,fun j _ hj=>Below.heap_setCell _ _ _ j (fun e=>hj (by rw[e]))⟩
theorem qbI{P:Program}{f:FuncId}{args:Array Value}{w:World}{n:Nat}{v:Value}(h:Calls P f args (w.drewN n) fun e w'=>e= .returned v∧w.drewN n=w'):Calls P f args (w.drewN n) fun e w''=>e= .returned v∧∃m,w''=w.drewN m:=
 Calls.quiet_of_same (h.mono fun _ _ h=>⟨h.1,h.2.symm⟩)
def kR(x:BitVec 64):Value:= .int .u64 (bv x)
theorem qjV(w:World)(g:Nat)(m:W4)(x y:BitVec 64)(hm:Arr kR w g 221 m.list):
 Calls prog 140 #[.int .i64 1,.int .u64 (bv x),.int .u64 (bv y),.pointer (some ⟨g,0,none⟩)] w fun e w'=>(∃v,e= .returned v)∧Arr kR w' g 221 (at1 m x y).list∧w.grownBy w' (some g):=by
 have c0:w.cell? ⟨g,0,none⟩=some (.int .u64 (bv m.a)):=hm.at_ rfl;have c1:w.cell? ⟨g,1,none⟩=some (.int .u64 (bv m.b)):=hm.at_ rfl;have c2:w.cell? ⟨g,2,none⟩=some (.int .u64 (bv m.c)):=hm.at_ rfl;have c3:w.cell? ⟨g,3,none⟩=some (.int .u64 (bv m.d)):=hm.at_ rfl;have f1:=hm.frozen 1;have f2:=hm.frozen 2;have f3:=hm.frozen 3;have HM:=qe hm;have k1:(cy m.b (ml x y) 0#64).toNat≤1:=zW _ _ _ (by simp)
 clear hm;go_enter func140,ntmps140
 go_wp2_with fail
 refine(qcJ x y _).mono ?_;rintro e w' ⟨rfl,rfl⟩;go_wp2_with fail
 go_end0
 exact⟨⟨_,rfl⟩,((HM.1.set_ 1 (ad m.b (ml x y) 0#64)).set_ 2 (ad m.c (mh x y) (cy m.b (ml x y) 0#64))).set_ 3 (m.d+cy m.c (mh x y) (cy m.b (ml x y) 0#64)),qp (qp (zL _ _ _ _) (zL _ _ _ _) (fun _ e=> .inl e)) (zL _ _ _ _) (fun _ e=> .inl e)⟩
theorem qjW(w:World)(g:Nat)(m:W4)(x y:BitVec 64)(hm:Arr kR w g 221 m.list):
 Calls prog 140 #[.int .i64 2,.int .u64 (bv x),.int .u64 (bv y),.pointer (some ⟨g,0,none⟩)] w fun e w'=>(∃v,e= .returned v)∧Arr kR w' g 221 (at2 m x y).list∧w.grownBy w' (some g):=by
 have c0:w.cell? ⟨g,0,none⟩=some (.int .u64 (bv m.a)):=hm.at_ rfl;have c1:w.cell? ⟨g,1,none⟩=some (.int .u64 (bv m.b)):=hm.at_ rfl;have c2:w.cell? ⟨g,2,none⟩=some (.int .u64 (bv m.c)):=hm.at_ rfl;have c3:w.cell? ⟨g,3,none⟩=some (.int .u64 (bv m.d)):=hm.at_ rfl;have f1:=hm.frozen 1;have f2:=hm.frozen 2;have f3:=hm.frozen 3;have HM:=qe hm;have k1:(cy m.c (ml x y) 0#64).toNat≤1:=zW _ _ _ (by simp)
 clear hm;go_enter func140,ntmps140
 go_wp2_with fail
 refine(qcJ x y _).mono ?_;rintro e w' ⟨rfl,rfl⟩;go_wp2_with fail
 go_end0
 exact⟨⟨_,rfl⟩,(HM.1.set_ 2 (ad m.c (ml x y) 0#64)).set_ 3 (ad m.d (mh x y) (cy m.c (ml x y) 0#64)),qp (zL _ _ _ _) (zL _ _ _ _) (fun _ e=> .inl e)⟩
def yC(w:World)(b:Nat)(h:BitVec 64×BitVec 64×BitVec 64)(r0 r1:BitVec 64):Prop:=Arr kR w b 190 [h.1,h.2.1,h.2.2,r0,r1]
theorem qlc(w:World)(b:Nat)(h0 h1 h2 r0 r1:BitVec 64)(hs:yC w b (h0,h1,h2) r0 r1):
 Calls prog 133 #[.pointer (some ⟨b,0,none⟩)] w fun e w'=>(∃v,e= .returned v)∧yC w' b (yb (h0,h1,h2) r0 r1) r0 r1∧w.grownBy w' (some b):=by
 unfold yC at hs;have HS:=qe hs;have c0:w.cell? ⟨b,0,none⟩=some (.int .u64 (bv h0)):=hs.at_ rfl;have c1:w.cell? ⟨b,1,none⟩=some (.int .u64 (bv h1)):=hs.at_ rfl;have c2:w.cell? ⟨b,2,none⟩=some (.int .u64 (bv h2)):=hs.at_ rfl;have c3:w.cell? ⟨b,3,none⟩=some (.int .u64 (bv r0)):=hs.at_ rfl;have c4:w.cell? ⟨b,4,none⟩=some (.int .u64 (bv r1)):=hs.at_ rfl;clear hs;go_enter func133,ntmps133
 go_wp2_with fail
 go_quiet ((go_at_call 139;exact qbI (qcJ _ _ _)))
 have hlt:=HS.1.lt;have HB1:=qe (je (QK w.heap.size w) nq);have hz1:(w.drewN nq).heap.size=w.heap.size:=rfl;generalize w.drewN nq=w1 at HB1 hz1 ⊢;clear c0 c1 c2 c3 c4;go_wp2_with fail
 have HM2:=qe (Arr.at_size kR (w:=w1) 221 (W4.mk (ml h0 r0) (mh h0 r0) 0 0).list hz1);have HB2:=qe (HB1.1.alloc (by omega) (.cells ((W4.mk (ml h0 r0) (mh h0 r0) 0 0).list.map kR).toArray 221));have hz2:(w1.alloc (.cells ((W4.mk (ml h0 r0) (mh h0 r0) 0 0).list.map kR).toArray 221)).heap.size=w.heap.size+1:=by rw[QQ,hz1]
 change Code.wp _ _ _ _ (w1.alloc (.cells ((W4.mk (ml h0 r0) (mh h0 r0) 0 0).list.map kR).toArray 221));generalize w1.alloc (.cells ((W4.mk (ml h0 r0) (mh h0 r0) 0 0).list.map kR).toArray 221)=w2 at HM2 HB2 hz2 ⊢;have HS2:=qe (HS.1.below HB2.1 hlt);clear HB1;obtain⟨M2,hM2⟩:∃M,M=W4.mk (ml h0 r0) (mh h0 r0) 0 0:=⟨_,rfl⟩;rw[←hM2]at HM2;have hws2:w.heap.size<w2.heap.size:=by omega
 clear hz2;have c0:w2.cell? ⟨b,0,none⟩=some (.int .u64 (bv h0)):=HS2.1.at_ rfl;have c4:w2.cell? ⟨b,4,none⟩=some (.int .u64 (bv r1)):=HS2.1.at_ rfl;go_region_held3 (fun w':World=>w'.cell? ⟨b,0,none⟩=some (.int .u64 (bv h0))∧w'.cell? ⟨b,4,none⟩=some (.int .u64 (bv r1)))
  (first
   |exact⟨HS3.1.at_ rfl,HS3.1.at_ rfl⟩
   |go_keep)
  ((go_simp;refine(qjV _ _ M2 h0 r1 HM2.1.drew).mono ?_;rintro e w3 ⟨⟨v3,rfl⟩,hm3,hg3⟩;have HM3:=qe hm3;have HS3:=qe (Arr.grown (w:=w2.drew) HS2.1 hg3 (by intro e;have:=Ju e;omega));have HB3:=qe (Below.grown HB2.1.drew hg3 (by show w.heap.size≤w2.heap.size;omega) (fun k e=>by have:=Ju e;omega));have hws3:w.heap.size<w3.heap.size:=Jq hws2 hg3.size;clear hm3 hg3))
 obtain⟨M3,hM3⟩:∃M,M=at1 M2 h0 r1:=⟨_,rfl⟩;rw[←hM3]at HM3;have HE3:=qe hM3;clear c0 c4 HM2 HS2 HB2 hM3 hws2;go_wp2_with fail
 have c0:w3.cell? ⟨b,1,none⟩=some (.int .u64 (bv h1)):=HS3.1.at_ rfl;have c4:w3.cell? ⟨b,3,none⟩=some (.int .u64 (bv r0)):=HS3.1.at_ rfl;go_region_held3 (fun w':World=>w'.cell? ⟨b,1,none⟩=some (.int .u64 (bv h1))∧w'.cell? ⟨b,3,none⟩=some (.int .u64 (bv r0)))
  (first
   |exact⟨HS4.1.at_ rfl,HS4.1.at_ rfl⟩
   |go_keep)
  ((go_simp;refine(qjV _ _ M3 h1 r0 HM3.1.drew).mono ?_;rintro e w4 ⟨⟨v4,rfl⟩,hm4,hg4⟩;have HM4:=qe hm4;have HS4:=qe (Arr.grown (w:=w3.drew) HS3.1 hg4 (by intro e;have:=Ju e;omega));have HB4:=qe (Below.grown HB3.1.drew hg4 (by show w.heap.size≤w3.heap.size;omega) (fun k e=>by have:=Ju e;omega));have hws4:w.heap.size<w4.heap.size:=Jq hws3 hg4.size;clear hm4 hg4))
 obtain⟨M4,hM4⟩:∃M,M=at1 M3 h1 r0:=⟨_,rfl⟩;rw[←hM4]at HM4;have HE4:=qe hM4;clear c0 c4 HM3 HS3 HB3 hM4 hws3;go_wp2_with fail
 have c0:w4.cell? ⟨b,1,none⟩=some (.int .u64 (bv h1)):=HS4.1.at_ rfl;have c4:w4.cell? ⟨b,4,none⟩=some (.int .u64 (bv r1)):=HS4.1.at_ rfl;go_region_held3 (fun w':World=>w'.cell? ⟨b,1,none⟩=some (.int .u64 (bv h1))∧w'.cell? ⟨b,4,none⟩=some (.int .u64 (bv r1)))
  (first
   |exact⟨HS5.1.at_ rfl,HS5.1.at_ rfl⟩
   |go_keep)
  ((go_simp;refine(qjW _ _ M4 h1 r1 HM4.1.drew).mono ?_;rintro e w5 ⟨⟨v5,rfl⟩,hm5,hg5⟩;have HM5:=qe hm5;have HS5:=qe (Arr.grown (w:=w4.drew) HS4.1 hg5 (by intro e;have:=Ju e;omega));have HB5:=qe (Below.grown HB4.1.drew hg5 (by show w.heap.size≤w4.heap.size;omega) (fun k e=>by have:=Ju e;omega));have hws5:w.heap.size<w5.heap.size:=Jq hws4 hg5.size;clear hm5 hg5))
 obtain⟨M5,hM5⟩:∃M,M=at2 M4 h1 r1:=⟨_,rfl⟩;rw[←hM5]at HM5;have HE5:=qe hM5;clear c0 c4 HM4 HS4 HB4 hM5 hws4;go_wp2_with fail
 have c0:w5.cell? ⟨b,2,none⟩=some (.int .u64 (bv h2)):=HS5.1.at_ rfl;have c4:w5.cell? ⟨b,3,none⟩=some (.int .u64 (bv r0)):=HS5.1.at_ rfl;go_region_held3 (fun w':World=>w'.cell? ⟨b,2,none⟩=some (.int .u64 (bv h2))∧w'.cell? ⟨b,3,none⟩=some (.int .u64 (bv r0)))
  (first
   |exact⟨HS6.1.at_ rfl,HS6.1.at_ rfl⟩
   |go_keep)
  ((go_simp;refine(qjW _ _ M5 h2 r0 HM5.1.drew).mono ?_;rintro e w6 ⟨⟨v6,rfl⟩,hm6,hg6⟩;have HM6:=qe hm6;have HS6:=qe (Arr.grown (w:=w5.drew) HS5.1 hg6 (by intro e;have:=Ju e;omega));have HB6:=qe (Below.grown HB5.1.drew hg6 (by show w.heap.size≤w5.heap.size;omega) (fun k e=>by have:=Ju e;omega));have hws6:w.heap.size<w6.heap.size:=Jq hws5 hg6.size;clear hm6 hg6))
 obtain⟨M6,hM6⟩:∃M,M=at2 M5 h2 r0:=⟨_,rfl⟩;rw[←hM6]at HM6;have HE6:=qe hM6;clear c0 c4 HM5 HS5 HB5 hM6 hws5;go_wp2_with fail
 have c2:w6.cell? ⟨b,2,none⟩=some (.int .u64 (bv h2)):=HS6.1.at_ rfl;have c4:w6.cell? ⟨b,4,none⟩=some (.int .u64 (bv r1)):=HS6.1.at_ rfl;have cm:w6.cell? ⟨w.heap.size,3,none⟩=some (.int .u64 (bv M6.d)):=HM6.1.at_ rfl;have fm:=HM6.1.frozen 3
 go_region
 have HE7:=qe (show(Qv h0 h1 h2 r0 r1)={M6 with d:=M6.d+h2*r1} by rw[HE6.1,HE5.1,HE4.1,HE3.1,hM2];rfl);obtain⟨M7,hM7⟩:∃M,M=Qv h0 h1 h2 r0 r1:=⟨_,rfl⟩;have HM7:=qe (show Arr kR (w6.setCell ⟨w.heap.size,3,none⟩ (.int .u64 (bv (M6.d+h2*r1)))).drew w.heap.size 221 M7.list by rw[hM7,HE7.1];exact(HM6.1.set_ 3 (M6.d+h2*r1)).drew);have HS7:=qe (show Arr kR (w6.setCell ⟨w.heap.size,3,none⟩ (.int .u64 (bv (M6.d+h2*r1)))).drew b 190 [h0,h1,h2,r0,r1]from(HS6.1.far (p:=⟨w.heap.size,3,none⟩) (by show b≠w.heap.size;omega) _).drew)
 have HB7:=qe (show Below w.heap.size w (w6.setCell ⟨w.heap.size,3,none⟩ (.int .u64 (bv (M6.d+h2*r1)))).drew from(HB6.1.setCell (p:=⟨w.heap.size,3,none⟩) (QI _) _).drew);have HE:=qe hM7;clear HM6 HS6 HB6 HE7 HE6 HE5 HE4 HE3 hM2 hM7 c2 c4 cm fm hws6;generalize(w6.setCell ⟨w.heap.size,3,none⟩ (.int .u64 (bv (M6.d+h2*r1)))).drew=w7 at HM7 HS7 HB7 ⊢;have hw7:=HM7.1.lt;have hb7:=HS7.1.lt
 have hbn:b≠w.heap.size:=by omega
 have m0:w7.cell? ⟨w.heap.size,0,none⟩=some (.int .u64 (bv M7.a)):=HM7.1.at_ rfl;have m1:w7.cell? ⟨w.heap.size,1,none⟩=some (.int .u64 (bv M7.b)):=HM7.1.at_ rfl;have m2:w7.cell? ⟨w.heap.size,2,none⟩=some (.int .u64 (bv M7.c)):=HM7.1.at_ rfl;have m3:w7.cell? ⟨w.heap.size,3,none⟩=some (.int .u64 (bv M7.d)):=HM7.1.at_ rfl;have s0:w7.cell? ⟨b,0,none⟩=some (.int .u64 (bv h0)):=HS7.1.at_ rfl;have s1:w7.cell? ⟨b,1,none⟩=some (.int .u64 (bv h1)):=HS7.1.at_ rfl
 have s2:w7.cell? ⟨b,2,none⟩=some (.int .u64 (bv h2)):=HS7.1.at_ rfl;have f0:=HS7.1.frozen 0;have f1:=HS7.1.frozen 1;have f2:=HS7.1.frozen 2;go_wp2_with fail
 obtain⟨E,hE0,hE1⟩:∃E:Nat→BitVec 64×BitVec 64,E 0=(M7.c&&&18446744073709551612#64,M7.d)∧E 1=(M7.c>>>2|||M7.d<<<62,M7.d>>>2):=⟨fun i=>if i=0 then(M7.c&&&18446744073709551612#64,M7.d)else(M7.c>>>2|||M7.d<<<62,M7.d>>>2),rfl,rfl⟩;obtain⟨H,hH0,hHs⟩:∃H:Nat→BitVec 64×BitVec 64×BitVec 64,H 0=(M7.a,M7.b,M7.c&&&3#64)∧∀i,H (i+1)=Qz (H i) (E i).1 (E i).2:=⟨fun i=>Nat.rec (M7.a,M7.b,M7.c&&&3#64) (fun i h=>Qz h (E i).1 (E i).2) i,rfl,fun _=>rfl⟩
 have HH2:=qe (show H 2=qnJ M7 by rw[hHs,hHs,hH0,hE0,hE1];rfl);have HH0:=qe hH0;have HHs:=qe hHs;have HS8:=qe (show yC (((w7.setCell ⟨b,0,none⟩ (.int .u64 (bv M7.a))).setCell ⟨b,1,none⟩ (.int .u64 (bv M7.b))).setCell ⟨b,2,none⟩ (.int .u64 (bv (M7.c&&&3#64)))) b (H 0) r0 r1 by rw[hH0];exact((HS7.1.set_ 0 M7.a).set_ 1 M7.b).set_ 2 (M7.c&&&3#64));have HG8:=qe (show w.grownBy (((w7.setCell ⟨b,0,none⟩ (.int .u64 (bv M7.a))).setCell ⟨b,1,none⟩ (.int .u64 (bv M7.b))).setCell ⟨b,2,none⟩ (.int .u64 (bv (M7.c&&&3#64)))) (some b)from qp (qp (qp ⟨HB7.1.os,HB7.1.tape,HB7.1.output,HB7.1.size,fun k hk _=>HB7.1.block k hk⟩ (zL _ _ _ _) (fun g e=> .inl e)) (zL _ _ _ _) (fun g e=> .inl e)) (zL _ _ _ _) (fun g e=> .inl e))
 have hz8:(((w7.setCell ⟨b,0,none⟩ (.int .u64 (bv M7.a))).setCell ⟨b,1,none⟩ (.int .u64 (bv M7.b))).setCell ⟨b,2,none⟩ (.int .u64 (bv (M7.c&&&3#64)))).heap.size=w7.heap.size:=by simp
 clear HM7 HS7 HB7 m0 m1 m2 m3 s0 s1 s2 f0 f1 f2;generalize((w7.setCell ⟨b,0,none⟩ (.int .u64 (bv M7.a))).setCell ⟨b,1,none⟩ (.int .u64 (bv M7.b))).setCell ⟨b,2,none⟩ (.int .u64 (bv (M7.c&&&3#64)))=w8 at HS8 HG8 hz8 ⊢;obtain⟨X,hX⟩:∃X,X=w7.heap.size+1+1:=⟨_,rfl⟩;have HA0:=qe (Arr.at_size kR (w:=(w8.alloc (.cells ([M7.c&&&18446744073709551612#64,M7.d].map kR).toArray 223)).alloc (.cells ([M7.c>>>2|||M7.d<<<62,M7.d>>>2].map kR).toArray 223)) 223 [M7.c&&&18446744073709551612#64,M7.d,M7.c>>>2|||M7.d<<<62,M7.d>>>2] (show _=X by rw[QQ,QQ,hz8,hX]))
 have HX:=qe (show∀i,i<2→[M7.c&&&18446744073709551612#64,M7.d,M7.c>>>2|||M7.d<<<62,M7.d>>>2][i*2]?=some (E i).1∧[M7.c&&&18446744073709551612#64,M7.d,M7.c>>>2|||M7.d<<<62,M7.d>>>2][i*2+1]?=some (E i).2 from fun i hi=>by
  match i,hi with
  |0,_=>rw[hE0];exact⟨rfl,rfl⟩
  |1,_=>rw[hE1];exact⟨rfl,rfl⟩
  |i+2,h=>omega)
 have hbX:b<X:=by omega
 have hwX:w.heap.size<X:=by omega
 go_loopw [118] (fun iv wr=>∃i:Nat,i≤2∧iv= .int .i64 (i:Int)∧yC wr b (H i) r0 r1∧Arr kR wr X 223 [M7.c&&&18446744073709551612#64,M7.d,M7.c>>>2|||M7.d<<<62,M7.d>>>2]∧w.grownBy wr (some b)) (fun iv _=>2-(intOf iv).toNat)
 case atStart=>
  refine⟨0,by omega,rfl,((Arr.alloc HS8.1 _).alloc _).alloc _,HA0.1,?_⟩;exact qp (qp (qp HG8.1 (Za _ _ none) (fun g e=>by cases e)) (Za _ _ none) (fun g e=>by cases e)) (Za _ _ none) (fun g e=>by cases e)
 case round=>
  obtain⟨i,hi2,rfl,hs,ha,hg⟩:=hrel;by_cases hlt2:i<2
  ·obtain⟨hx1,hx2⟩:=HX.1 i hlt2
   obtain⟨x,hx⟩:∃x,x=(E i).1:=⟨_,rfl⟩;obtain⟨y,hy⟩:∃y,y=(E i).2:=⟨_,rfl⟩;obtain⟨p0,p1,p2,hp⟩:∃p0 p1 p2,H i=(p0,p1,p2):=⟨_,_,_,rfl⟩;rw[←hx]at hx1;rw[←hy]at hx2;have cX:wr.cell? ⟨w7.heap.size+1+1,i*2,none⟩=some (.int .u64 (bv x)):=by rw[←hX];exact ha.at_ hx1
   have cY:wr.cell? ⟨w7.heap.size+1+1,i*2+1,none⟩=some (.int .u64 (bv y)):=by rw[←hX];exact ha.at_ hx2
   have HNx:=qe (show H (i+1)=Qz (p0,p1,p2) x y by rw[HHs.1,hp,hx,hy]);rw[hp]at hs;have HSr:=qe hs;have HAr:=qe ha;have HGr:=qe hg;have hzr:=hg.size;have hXr:=ha.lt;have hbr:b<wr.heap.size:=by omega
   have s0:wr.cell? ⟨b,0,none⟩=some (.int .u64 (bv p0)):=hs.at_ rfl;have s1:wr.cell? ⟨b,1,none⟩=some (.int .u64 (bv p1)):=hs.at_ rfl;have s2:wr.cell? ⟨b,2,none⟩=some (.int .u64 (bv p2)):=hs.at_ rfl;have f0:=hs.frozen 0;have f1:=hs.frozen 1;have f2:=hs.frozen 2;have hli:(i:Int)<2:=by omega
   have k1:(cy p0 x 0#64).toNat≤1:=zW _ _ _ (by simp);clear hx1 hx2 hx hy hp hs ha hg;go_wp2_with fail
   go_region
   go_wp2_with fail
   go_region
   go_wp2_with fail
   go_region
   go_wp2_with fail
   refine⟨⟨i+1,by omega,by simp,?_,?_,?_⟩,by simp[intOf];omega⟩
   ·rw[HNx.1]
    exact Arr.alloc (((HSr.1.set_ 0 (ad p0 x 0#64)).set_ 1 (ad p1 y (cy p0 x 0#64))).set_ 2 (p2+cy p1 y (cy p0 x 0#64))) _
   ·exact Arr.alloc (((HAr.1.far (p:=⟨b,0,none⟩) (by show X≠b;omega) _).far (p:=⟨b,1,none⟩) (by show X≠b;omega) _).far (p:=⟨b,2,none⟩) (by show X≠b;omega) _) _
   ·have h:=qp (r:=some b) (s:=none) (qp (qp (qp HGr.1 (zL wr b 0 (.int .u64 (bv (ad p0 x 0#64)))) (fun g e=> .inl e)) (zL _ b 1 (.int .u64 (bv (ad p1 y (cy p0 x 0#64))))) (fun g e=> .inl e)) (zL _ b 2 (.int .u64 (bv (p2+cy p1 y (cy p0 x 0#64))))) (fun g e=> .inl e)) (Za _ (.cells #[.int .u64 (bv x),.int .u64 (bv y)] 223) none) (fun g e=>by cases e)
    exact⟨h.os,h.tape,h.output,h.size,h.block⟩
  ·obtain rfl:i=2:=by omega
   go_wp2_with fail
   go_end0
   rw[HH2.1,HE.1]at hs;exact⟨⟨_,rfl⟩,hs,hg⟩
end
end Go.Proofs.YtelgjaiknaalkaaGreatDoor
