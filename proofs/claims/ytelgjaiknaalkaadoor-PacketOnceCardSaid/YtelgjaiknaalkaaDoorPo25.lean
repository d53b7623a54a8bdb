/- Lemmas, joined and made smaller by a program. -/
import Derived.Test.YtelgjaiknaalkaaDoorPo24
import Derived.Test.YtelgjaiknaalkaaDoorPo02
import Derived.Test.YtelgjaiknaalkaaDoorPo08
import Derived.Deep.QuietTactic
import Derived.BigQuiet
open Go.Lib renaming hid → qq
open List renaming setIfInBounds_toArray → qj
open List renaming set_cons_zero → qz
open List renaming set_cons_succ → qv
set_option linter.unusedVariables false
set_option linter.unusedSimpArgs false
namespace Go.Proofs.YtelgjaiknaalkaaDoor
open Go.RowKit
def s0(number:BitVec 32):List (BitVec 32):=[1634760805#32,857760878#32,2036477234#32,1797285236#32,0#32,0#32,0#32,0#32,0#32,0#32,0#32,0#32,number,0#32,0#32,0#32]
theorem b32_one(x:BitVec 32):(b32 x).oneCell'=true:=rfl
def sK(key:List (BitVec 8))(nb:BitVec 32)(k:Nat):List (BitVec 32):=(List.range k).foldl (fun s i=>s.set (4+i) (wordAt key (4*i))) (s0 nb)
def stN(key nonce:List (BitVec 8))(nb:BitVec 32)(k:Nat):List (BitVec 32):=(List.range k).foldl (fun s i=>s.set (13+i) (wordAt nonce (4*i))) (sK key nb 8)
theorem sK_succ(key:List (BitVec 8))(nb:BitVec 32)(k:Nat):sK key nb (k+1)=(sK key nb k).set (4+k) (wordAt key (4*k)):=by simp[sK,List.range_succ]
theorem sN_succ(key nonce:List (BitVec 8))(nb:BitVec 32)(k:Nat):stN key nonce nb (k+1)=(stN key nonce nb k).set (13+k) (wordAt nonce (4*k)):=by simp[stN,List.range_succ]
theorem sK_len(key:List (BitVec 8))(nb:BitVec 32):∀k,(sK key nb k).length=16
 |0=>rfl
 |k+1=>by rw[sK_succ,List.length_set,sK_len key nb k]
theorem sN_len(key nonce:List (BitVec 8))(nb:BitVec 32):∀k,(stN key nonce nb k).length=16
 |0=>sK_len key nb 8
 |k+1=>by rw[sN_succ,List.length_set,sN_len key nonce nb k]
structure PcA(w wr:World)(key:List (BitVec 8))(s:List (BitVec 32)):Prop where
 k:Arr b8 wr w.heap.size 54 key
 o:Arr b8 wr (w.heap.size+1) 99 (List.replicate 64 0#8)
 s:Arr b32 wr (w.heap.size+2) 119 s
 b:Below w.heap.size w wr
 z:wr.heap.size=w.heap.size+3
theorem PcA.drewN{w wr:World}{key:List (BitVec 8)}{s:List (BitVec 32)}(h:PcA w wr key s)(k:Nat):PcA w (wr.drewN k) key s:=⟨h.k,h.o,h.s,below_drewN h.b k,h.z⟩
theorem PcA.set_{w wr:World}{key:List (BitVec 8)}{s:List (BitVec 32)}(h:PcA w wr key s)(k:Nat)(u:BitVec 32):PcA w (wr.setCell ⟨w.heap.size+2,k,none⟩ (.int .u32 (bv u))) key (s.set k u):=
 ⟨h.k.far (by simp) _,h.o.far (by simp) _,h.s.set_ k u,h.b.setCell (p:=⟨w.heap.size+2,k,none⟩) (by simp) _,by rw[World.size_setCell];exact h.z⟩
def qAt(k:Nat):Nat×Nat×Nat×Nat:=[(0,4,8,12),(1,5,9,13),(2,6,10,14),(3,7,11,15),(0,5,10,15),(1,6,11,12),(2,7,8,13),(3,4,9,14)].getD k (0,4,8,12)
def setq(q:Nat×Nat×Nat×Nat)(x:List (BitVec 32)):List (BitVec 32):=
 let r:=quarter (x.getD q.1 0#32) (x.getD q.2.1 0#32) (x.getD q.2.2.1 0#32) (x.getD q.2.2.2 0#32)
 (((x.set q.1 r.1).set q.2.1 r.2.1).set q.2.2.1 r.2.2.1).set q.2.2.2 r.2.2.2
def roundTo(k:Nat)(x:List (BitVec 32)):List (BitVec 32):=(List.range k).foldl (fun x i=>setq (qAt i) x) x
def dblTo:Nat→List (BitVec 32)→List (BitVec 32)
 |0,x=>x
 |r+1,x=>roundTo 8 (dblTo r x)
theorem roundTo_succ(k:Nat)(x:List (BitVec 32)):roundTo (k+1) x=setq (qAt k) (roundTo k x):=by simp[roundTo,List.range_succ]
theorem setq_len(q:Nat×Nat×Nat×Nat)(x:List (BitVec 32)):(setq q x).length=x.length:=by simp[setq]
theorem roundTo_len(x:List (BitVec 32)):∀k,(roundTo k x).length=x.length
 |0=>rfl
 |k+1=>by rw[roundTo_succ,setq_len,roundTo_len x k]
theorem dblTo_len(x:List (BitVec 32)):∀r,(dblTo r x).length=x.length
 |0=>rfl
 |r+1=>by rw[dblTo,roundTo_len,dblTo_len x r]
theorem q_at(k:Nat)(hk:k<8):∃a b c d:Nat,qAt k=(a,b,c,d)∧a<16∧b<16∧c<16∧d<16∧a≠b∧a≠c∧a≠d∧b≠c∧b≠d∧c≠d∧
 ∀w,(Instr.index 122 roundsV (.int .i64 (k:Int))).run Tryd.prog w= .ok (.agg #[.int .i64 (a:Int),.int .i64 (b:Int),.int .i64 (c:Int),.int .i64 (d:Int)]) w:=by
 match k,hk with
 |0,_=>exact⟨0,4,8,12,rfl,by decide,by decide,by decide,by decide,by decide,by decide,by decide,by decide,by decide,by decide,fun w=>by kernel_rfl⟩
 |1,_=>exact⟨1,5,9,13,rfl,by decide,by decide,by decide,by decide,by decide,by decide,by decide,by decide,by decide,by decide,fun w=>by kernel_rfl⟩
 |2,_=>exact⟨2,6,10,14,rfl,by decide,by decide,by decide,by decide,by decide,by decide,by decide,by decide,by decide,by decide,fun w=>by kernel_rfl⟩
 |3,_=>exact⟨3,7,11,15,rfl,by decide,by decide,by decide,by decide,by decide,by decide,by decide,by decide,by decide,by decide,fun w=>by kernel_rfl⟩
 |4,_=>exact⟨0,5,10,15,rfl,by decide,by decide,by decide,by decide,by decide,by decide,by decide,by decide,by decide,by decide,fun w=>by kernel_rfl⟩
 |5,_=>exact⟨1,6,11,12,rfl,by decide,by decide,by decide,by decide,by decide,by decide,by decide,by decide,by decide,by decide,fun w=>by kernel_rfl⟩
 |6,_=>exact⟨2,7,8,13,rfl,by decide,by decide,by decide,by decide,by decide,by decide,by decide,by decide,by decide,by decide,fun w=>by kernel_rfl⟩
 |7,_=>exact⟨3,4,9,14,rfl,by decide,by decide,by decide,by decide,by decide,by decide,by decide,by decide,by decide,by decide,fun w=>by kernel_rfl⟩
theorem setS{w v:World}{g:Nat}{a b c d:Value}(hgz:w.heap.size+4≤g){p:Addr}(hp:p.block=w.heap.size+3)(u:Value)(h:v.cell? ⟨g,0,none⟩=some a∧v.cell? ⟨g,1,none⟩=some b∧v.cell? ⟨g,2,none⟩=some c∧v.cell? ⟨g,3,none⟩=some d):
 (v.setCell p u).cell? ⟨g,0,none⟩=some a∧(v.setCell p u).cell? ⟨g,1,none⟩=some b∧(v.setCell p u).cell? ⟨g,2,none⟩=some c∧(v.setCell p u).cell? ⟨g,3,none⟩=some d:=
 have hf:∀k,(v.setCell p u).cell? ⟨g,k,none⟩=v.cell? ⟨g,k,none⟩:=fun k=>World.cell?_setCell_far v p ⟨g,k,none⟩ u (by show p.block≠g;omega)
 ⟨(hf 0).trans h.1,(hf 1).trans h.2.1,(hf 2).trans h.2.2.1,(hf 3).trans h.2.2.2⟩
structure PcB(w wr:World)(key:List (BitVec 8))(s x:List (BitVec 32)):Prop where
 k:Arr b8 wr w.heap.size 54 key
 o:Arr b8 wr (w.heap.size+1) 99 (List.replicate 64 0#8)
 s:Arr b32 wr (w.heap.size+2) 119 s
 x:Arr b32 wr (w.heap.size+3) 119 x
 b:Below w.heap.size w wr
 z:w.heap.size+4≤wr.heap.size
theorem PcB.below{w wr wr':World}{key:List (BitVec 8)}{s x:List (BitVec 32)}(h:PcB w wr key s x)(hb:Below wr.heap.size wr wr'):PcB w wr' key s x:=by
 have hz:=h.z
 exact⟨h.k.below hb (by omega),h.o.below hb (by omega),h.s.below hb (by omega),h.x.below hb (by omega),h.b.trans (hb.mono (by omega)),Nat.le_trans hz hb.size⟩
theorem PcB.set_{w wr:World}{key:List (BitVec 8)}{s x:List (BitVec 32)}(h:PcB w wr key s x)(k:Nat)(u:BitVec 32):PcB w (wr.setCell ⟨w.heap.size+3,k,none⟩ (.int .u32 (bv u))) key s (x.set k u):=
 ⟨h.k.far (by simp) _,h.o.far (by simp) _,h.s.far (by simp) _,h.x.set_ k u,h.b.setCell (p:=⟨w.heap.size+3,k,none⟩) (by simp) _,by rw[World.size_setCell];exact h.z⟩
theorem quarter_named(a b c d:BitVec 32)(w:World):∃ra rb rc rd:BitVec 32,quarter a b c d=(ra,rb,rc,rd)∧
 Calls Tryd.prog 62 #[.int .u32 (bv a),.int .u32 (bv b),.int .u32 (bv c),.int .u32 (bv d)] w fun e w'=>e= .returned (.tuple #[.int .u32 (bv ra),.int .u32 (bv rb),.int .u32 (bv rc),.int .u32 (bv rd)])∧w=w':=by
 have h:=quarter_any a b c d w
 generalize quarter a b c d=q at h ⊢
 exact⟨q.1,q.2.1,q.2.2.1,q.2.2.2,rfl,h⟩
def outB(X S:List (BitVec 32))(t:Nat):BitVec 8:=((X.getD (t/4) 0#32+S.getD (t/4) 0#32)>>>(8*(t % 4))).setWidth 8
def outP(X S:List (BitVec 32))(m:Nat):List (BitVec 8):=(List.range 64).map fun t=>if t<m then outB X S t else 0#8
theorem outP_len(X S:List (BitVec 32))(m:Nat):(outP X S m).length=64:=by simp[outP]
theorem outP_0(X S:List (BitVec 32)):outP X S 0=List.replicate 64 0#8:=by
 apply List.ext_getElem
 ·simp only[outP,List.length_map,List.length_range,List.length_replicate]
 ·intro i h1 h2
  simp only[outP,List.getElem_map,List.getElem_range,List.getElem_replicate]
  rw[if_neg (by omega)]
theorem outB_at(X S:List (BitVec 32))(m j:Nat)(hj:j<4):outB X S (4*m+j)=((X.getD m 0#32+S.getD m 0#32)>>>(8*j)).setWidth 8:=by
 unfold outB
 rw[show(4*m+j)/4=m by omega,show(4*m+j) % 4=j by omega]
theorem outP_set(X S:List (BitVec 32))(m:Nat):(outP X S m).set m (outB X S m)=outP X S (m+1):=by
 apply List.ext_getElem
 ·simp[outP]
 ·intro i h1 h2
  simp only[outP,List.getElem_set,List.getElem_map,List.getElem_range]
  by_cases h:m=i
  ·subst h;simp
  ·rw[if_neg h]
   by_cases h':i<m
   ·rw[if_pos h',if_pos (by omega)]
   ·rw[if_neg h',if_neg (by omega)]
structure PcC(w wr:World)(key:List (BitVec 8))(s x:List (BitVec 32))(o:List (BitVec 8)):Prop where
 k:Arr b8 wr w.heap.size 54 key
 o:Arr b8 wr (w.heap.size+1) 99 o
 s:Arr b32 wr (w.heap.size+2) 119 s
 x:Arr b32 wr (w.heap.size+3) 119 x
 b:Below w.heap.size w wr
theorem PcC.drewN{w wr:World}{key:List (BitVec 8)}{s x:List (BitVec 32)}{o:List (BitVec 8)}(h:PcC w wr key s x o)(k:Nat):PcC w (wr.drewN k) key s x o:=⟨h.k,h.o,h.s,h.x,below_drewN h.b k⟩
theorem PcC.set_{w wr:World}{key:List (BitVec 8)}{s x:List (BitVec 32)}{o:List (BitVec 8)}(h:PcC w wr key s x o)(k:Nat)(u:BitVec 8):PcC w (wr.setCell ⟨w.heap.size+1,k,none⟩ (.int .u8 (bv u))) key s x (o.set k u):=
 ⟨h.k.far (by simp) _,h.o.set_ k u,h.s.far (by simp) _,h.x.far (by simp) _,h.b.setCell (p:=⟨w.heap.size+1,k,none⟩) (by simp) _⟩
theorem PcB.cast{w wr:World}{key:List (BitVec 8)}{s x y:List (BitVec 32)}(h:PcB w wr key s x)(e:x=y):PcB w wr key s y:=e▸h
def pieceL(key nonce:List (BitVec 8))(nb:BitVec 32):List (BitVec 8):=outP (dblTo 10 (stN key nonce nb 3)) (stN key nonce nb 3) (4*16)
theorem pieceL_mk(key nonce:List (BitVec 8))(nb:BitVec 32):pieceL key nonce nb=outP (dblTo 10 (stN key nonce nb 3)) (stN key nonce nb 3) (4*16):=rfl
theorem pieceL_len(key nonce:List (BitVec 8))(nb:BitVec 32):(pieceL key nonce nb).length=64:=outP_len _ _ _
set_option maxRecDepth 100000 in
set_option maxHeartbeats 4000000 in
theorem piece_ok(key:List (BitVec 8))(b off c B:Nat)(nonce:List (BitVec 8))(number:Int)(w:World)(hk:key.length=32)(hcell:∀j u,nonce[j]?=some u→w.cell? ⟨b,off+j,none⟩=some (b8 u))(hbB:b<w.heap.size)(hn:nonce.length=12)(hnc:12≤c)(hok:badP 12 number=0)(nb:BitVec 32)(hnb:nb=BitVec.ofInt 32 number):
 Calls Tryd.prog 43 #[arrV b8 key,.slice (some ⟨b,off,none⟩) 12 c,.int .i64 number] w fun e w'=>e= .returned (.tuple #[arrV b8 (pieceL key nonce nb),.nilIface])∧Below w.heap.size w w':=by
 rw[arrV_mk]
 have HK:=qq hk
 have HN:=qq hn
 have HCell:=qq hcell
 have HOK:=qq hok
 have hcv:=ofint_u32 number
 rw[←hnb]at hcv
 clear hnb
 clear hk hn hcell hok
 go_enter Tryd.func43,Tryd.ntmps43
 go_wp2_with fail
 have hk0:Arr b8 ((w.alloc (.cells (key.map b8).toArray 54)).alloc (.cells ((List.replicate 64 0#8).map b8).toArray 99)) w.heap.size 54 key:=(Arr.new b8 w _ key).alloc _
 have ho0:Arr b8 ((w.alloc (.cells (key.map b8).toArray 54)).alloc (.cells ((List.replicate 64 0#8).map b8).toArray 99)) (w.heap.size+1) 99 (List.replicate 64 0#8):=Arr.at_size b8 _ _ (by simp)
 have hb0:Below w.heap.size w ((w.alloc (.cells (key.map b8).toArray 54)).alloc (.cells ((List.replicate 64 0#8).map b8).toArray 99)):=by(repeat' (first|assumption|exact Below.refl _ _|refine Below.drew ?_|refine Below.alloc ?_ ?_ _|omega|(simp;done)|(simp;omega)))
 have hz0:((w.alloc (.cells (key.map b8).toArray 54)).alloc (.cells ((List.replicate 64 0#8).map b8).toArray 99)).heap.size=w.heap.size+2:=by simp
 generalize hW1:World.alloc (World.alloc w _) _=W1
 change World.alloc (World.alloc w _) (.cells ((List.replicate 64 0#8).map b8).toArray 99)=W1 at hW1
 rw[hW1]at hk0 ho0 hb0 hz0
 clear hW1
 have HZ0:=qq hz0
 have HK0:=qq hk0
 have HO0:=qq ho0
 have HB0:=qq hb0
 clear hz0 hk0 ho0 hb0
 refine(check03_any _ _ _ _ _).mono ?_
 rintro e w' ⟨rfl,rfl⟩
 rw[HOK.out,errV_zero]
 go_wp2_with fail
 rw[HZ0.out]
 have hA:PcA w (W1.alloc (.cells ((s0 nb).map b32).toArray 119)) key (sK key nb 0):=⟨HK0.out.alloc _,HO0.out.alloc _,Arr.at_size b32 _ _ HZ0.out,HB0.out.alloc HB0.out.size _,by rw[World.size_alloc,HZ0.out]⟩
 generalize hW2:World.alloc W1 _=W2
 change World.alloc W1 (.cells ((s0 nb).map b32).toArray 119)=W2 at hW2
 rw[hW2]at hA
 have HA:=qq hA
 clear hA hW2 HK0 HO0 HB0 HZ0
 go_loopw [28] (fun i wr=>∃k:Nat,k≤8∧i= .int .i64 k∧PcA w wr key (sK key nb k)) (fun i _=>8-(intOf i).toNat)
 case atStart=>exact⟨0,by omega,rfl,HA.out⟩
 case round=>
  obtain⟨k,hk8,rfl,hA⟩:=hrel
  clear HA W1 W2
  by_cases hlt:k<8
  ·have hkl:=HK.out
   have c0:=hA.k.cellD (k:=4*k) (by omega) 0#8
   have c1:=hA.k.cellD (k:=4*k+1) (by omega) 0#8
   have c2:=hA.k.cellD (k:=4*k+2) (by omega) 0#8
   have c3:=hA.k.cellD (k:=4*k+3) (by omega) 0#8
   have cs:=hA.s.cellD (k:=4+k) (by rw[sK_len];omega) 0#32
   have fs:=hA.s.frozen (4+k)
   have HC:=qq (fun w5 c0 c1 c2 c3=>word_any w.heap.size (4*k) (32-4*k) (32-4*k) (key.getD (4*k) 0#8) (key.getD (4*k+1) 0#8) (key.getD (4*k+2) 0#8) (key.getD (4*k+3) 0#8) w5 (by omega) c0 c1 c2 c3)
   have C0:=qq c0
   have C1:=qq c1
   have C2:=qq c2
   have C3:=qq c3
   have hA':=qq hA
   clear c0 c1 c2 c3 hkl hA
   have b1:(0:Int)≤4*(k:Int):=by omega
   have b2:4*(k:Int)≤32:=by omega
   have b3:¬(32=4*k):=by omega
   go_wp2_with fail
   refine(HC.out _ C0.out C1.out C2.out C3.out).mono ?_
   rintro e w5 ⟨rfl,kd,rfl⟩
   go_wp2_with fail
   go_roundw
   case rel=>exact⟨k+1,by omega,by go_num,by rw[sK_succ];exact(hA'.out.drewN kd).set_ (4+k) _⟩
   case measure=>simp[intOf];omega
  ·obtain rfl:k=8:=by omega
   rw[show(((8:Nat)):Int)=8 from rfl]
   have HA:=qq hA
   clear hA hk8
   go_wp2_with fail
   go_loopw [39] (fun i wr=>∃k:Nat,k≤3∧i= .int .i64 k∧PcA w wr key (stN key nonce nb k)) (fun i _=>3-(intOf i).toNat)
   case atStart=>exact⟨0,by omega,rfl,HA.out⟩
   case round=>
    clear HA
    obtain⟨k,hk3,rfl,hA⟩:=hrel
    by_cases hlt:k<3
    ·have hnl:=HN.out
     have hcc:∀j,j<12→wr.cell? ⟨b,off+j,none⟩=some (b8 (nonce.getD j 0#8)):=fun j hj=>(hA.b.cell (p:=⟨b,off+j,none⟩) hbB).trans (HCell.out j _ (by simp[List.getD,List.getElem?_eq_getElem (show j<nonce.length by omega)]))
     have c0:=hcc (4*k) (by omega)
     have c1:=hcc (4*k+1) (by omega)
     have c2:=hcc (4*k+2) (by omega)
     have c3:=hcc (4*k+3) (by omega)
     have cs:=hA.s.cellD (k:=13+k) (by rw[sN_len];omega) 0#32
     have fs:=hA.s.frozen (13+k)
     have HC:=qq (fun w5 c0 c1 c2 c3=>word_any b (off+4*k) (12-4*k) (c-4*k) (nonce.getD (4*k) 0#8) (nonce.getD (4*k+1) 0#8) (nonce.getD (4*k+2) 0#8) (nonce.getD (4*k+3) 0#8) w5 (by omega) c0 c1 c2 c3)
     have C0:=qq c0
     have C1:=qq c1
     have C2:=qq c2
     have C3:=qq c3
     have hA':=qq hA
     have b1:(0:Int)≤4*(k:Int):=by omega
     have b2:4*(k:Int)≤12:=by omega
     have b3:¬(c=4*k):=by omega
     clear c0 c1 c2 c3 hnl hA hcc
     go_wp2_with fail
     refine(HC.out _ C0.out C1.out C2.out C3.out).mono ?_
     rintro e w5 ⟨rfl,kd,rfl⟩
     go_wp2_with fail
     go_roundw
     case rel=>exact⟨k+1,by omega,by go_num,by rw[sN_succ];exact(hA'.out.drewN kd).set_ (13+k) _⟩
     case measure=>simp[intOf];omega
    ·obtain rfl:k=3:=by omega
     rw[show(((3:Nat)):Int)=3 from rfl]
     obtain⟨S,hS⟩:∃S,S=stN key nonce nb 3:=⟨_,rfl⟩
     have hSl:S.length=16:=by rw[hS,sN_len]
     rw[←hS]at hA
     have Hi:=qq (show(Tryd.prog.info? 119).map (·.size)=some S.length by rw[hSl];kernel_rfl)
     have hx0:Arr b32 (wr.alloc (.cells ((List.replicate 16 0#32).map b32).toArray 119)) wr.heap.size 119 (List.replicate 16 0#32):=Arr.new b32 wr _ _
     have HX0:=qq hx0
     clear hx0
     have HA:=qq hA
     have HS:=qq hS
     have HSl:=qq hSl
     clear hA hS hSl hk3
     go_wp2_with (first
      |refine wpList_load_arr rfl 119 _ rfl (w.heap.size+2) rfl _ S HA.out.s _ Tryd.underlying119 rfl Hi.out ?_
      |(refine wpList_store_arr rfl 119 _ _ rfl wr.heap.size rfl S rfl _ _ HX0.out (by rw[HSl.out];rfl) Hi.out b32_one ?_;intro w6 hx6 hg6))
     have hB:PcB w w6 key S (dblTo 0 S):=by
      have hz:=HA.out.z
      rw[hz]at hx6 hg6
      exact⟨(HA.out.k.alloc _).grown hg6 (by simp),(HA.out.o.alloc _).grown hg6 (by simp),(HA.out.s.alloc _).grown hg6 (by simp),hx6,(HA.out.b.alloc HA.out.b.size _).grown hg6 (by simp;omega) (fun k e=>by cases e;simp),by have:=hg6.size;rw[World.size_alloc]at this;omega⟩
     have HZ:=qq HA.out.z
     rw[HZ.out]
     have HB:=qq hB
     clear HX0 hx6 hg6 HA hB HZ Hi
     go_loopw [52] (fun i wr=>∃r:Nat,r≤10∧i= .int .i64 r∧PcB w wr key S (dblTo r S)) (fun i _=>10-(intOf i).toNat)
     case atStart=>exact⟨0,by omega,rfl,HB.out⟩
     case round=>
      obtain⟨r,hr10,rfl,hB⟩:=hrel
      clear HB
      have HB:=qq hB
      clear hB
      by_cases hlt:r<10
      ·go_wp2_with fail
       refine(rounds_any _).mono ?_
       rintro e w7 ⟨rfl,hb7⟩
       have hB7:=HB.out.below hb7
       have HB7:=qq hB7
       clear hB7 HB hb7
       go_wp2_with fail
       go_loopw [55] (fun i wr=>∃k:Nat,k≤8∧i= .int .i64 k∧PcB w wr key S (roundTo k (dblTo r S))) (fun i _=>8-(intOf i).toNat)
       case atStart=>exact⟨0,by omega,rfl,HB7.out⟩
       case round=>
        obtain⟨k,hk8,rfl,hB⟩:=hrel
        clear HB7
        have HB:=qq hB
        clear hB
        by_cases hlt2:k<8
        ·obtain⟨qa,qb,qc,qd,hq,la,lb,lc,ld,nab,nac,nad,nbc,nbd,ncd,hix⟩:=q_at k hlt2
         have Hq:=qq hq
         clear hq
         go_wp2_with fail
         have hq0:(wr.alloc (.cells #[.int .i64 (qa:Int),.int .i64 (qb:Int),.int .i64 (qc:Int),.int .i64 (qd:Int)] 121)).cell? ⟨wr.heap.size,0,none⟩=some (.int .i64 (qa:Int)):=by rw[cell_of_row _ _ 0 _ _ (0,0) (heap_alloc_new wr _)];rfl
         have hq1:(wr.alloc (.cells #[.int .i64 (qa:Int),.int .i64 (qb:Int),.int .i64 (qc:Int),.int .i64 (qd:Int)] 121)).cell? ⟨wr.heap.size,1,none⟩=some (.int .i64 (qb:Int)):=by rw[cell_of_row _ _ 1 _ _ (0,0) (heap_alloc_new wr _)];rfl
         have hq2:(wr.alloc (.cells #[.int .i64 (qa:Int),.int .i64 (qb:Int),.int .i64 (qc:Int),.int .i64 (qd:Int)] 121)).cell? ⟨wr.heap.size,2,none⟩=some (.int .i64 (qc:Int)):=by rw[cell_of_row _ _ 2 _ _ (0,0) (heap_alloc_new wr _)];rfl
         have hq3:(wr.alloc (.cells #[.int .i64 (qa:Int),.int .i64 (qb:Int),.int .i64 (qc:Int),.int .i64 (qd:Int)] 121)).cell? ⟨wr.heap.size,3,none⟩=some (.int .i64 (qd:Int)):=by rw[cell_of_row _ _ 3 _ _ (0,0) (heap_alloc_new wr _)];rfl
         have hBq:PcB w (wr.alloc (.cells #[.int .i64 (qa:Int),.int .i64 (qb:Int),.int .i64 (qc:Int),.int .i64 (qd:Int)] 121)) key S (roundTo k (dblTo r S)):=HB.out.below ((Below.refl _ _).alloc (Nat.le_refl _) _)
         obtain⟨g,hg⟩:∃g,g=wr.heap.size:=⟨_,rfl⟩
         have hgz:w.heap.size+4≤g:=by rw[hg];exact HB.out.z
         generalize hWq:World.alloc wr _=wq at hq0 hq1 hq2 hq3 hBq
         rw[←hg]at hq0 hq1 hq2 hq3
         rw[←hg]
         clear hWq hg HB hix
         have ia:(qa:Int)<16:=by omega
         have ib:(qb:Int)<16:=by omega
         have ic:(qc:Int)<16:=by omega
         have id:(qd:Int)<16:=by omega
         have xl:(roundTo k (dblTo r S)).length=16:=by rw[roundTo_len,dblTo_len];exact HSl.out
         obtain⟨X,hX⟩:∃X,X=roundTo k (dblTo r S):=⟨_,rfl⟩
         rw[←hX]at xl hBq
         have ca:=hBq.x.cellD (k:=qa) (by omega) 0#32
         have cb:=hBq.x.cellD (k:=qb) (by omega) 0#32
         have cc:=hBq.x.cellD (k:=qc) (by omega) 0#32
         have cd:=hBq.x.cellD (k:=qd) (by omega) 0#32
         obtain⟨xa,hxa⟩:∃x,x=X.getD qa 0#32:=⟨_,rfl⟩
         obtain⟨xb,hxb⟩:∃x,x=X.getD qb 0#32:=⟨_,rfl⟩
         obtain⟨xc,hxc⟩:∃x,x=X.getD qc 0#32:=⟨_,rfl⟩
         obtain⟨xd,hxd⟩:∃x,x=X.getD qd 0#32:=⟨_,rfl⟩
         rw[←hxa]at ca
         rw[←hxb]at cb
         rw[←hxc]at cc
         rw[←hxd]at cd
         simp only[b32]at ca cb cc cd
         have fx:=hBq.x.frozen
         have HX:=qq hX
         have HXl:=qq xl
         have Hxa:=qq hxa
         have Hxb:=qq hxb
         have Hxc:=qq hxc
         have Hxd:=qq hxd
         have HBq:=qq hBq
         clear hX xl hxa hxb hxc hxd hBq
         obtain⟨ra,rb,rc,rd,hq4,cq⟩:=quarter_named xa xb xc xd wq.drew
         have Cq:=qq cq
         have Hq4:=qq hq4
         clear cq hq4
         refine wp_region_held_drew (S:=fun w'=>w'.cell? ⟨g,0,none⟩=some (.int .i64 (qa:Int))∧w'.cell? ⟨g,1,none⟩=some (.int .i64 (qb:Int))∧w'.cell? ⟨g,2,none⟩=some (.int .i64 (qc:Int))∧w'.cell? ⟨g,3,none⟩=some (.int .i64 (qd:Int))) (by kernel_rfl) ⟨hq0,hq1,hq2,hq3⟩ (fun hS=>?_)
         refine wpAnyH_take (i:=0) (v:= .pointer (some ⟨g,0,none⟩)) rfl (by kernel_rfl) (by kernel_rfl) (by kernel_rfl) (fun _ _ _ h=>h) (Or.inl ⟨by rfl,?_⟩) hS ?_
         ·intro w' hw'
          obtain⟨s0,s1,s2,s3⟩:=hw'
          go_simp
         try simp only[Act.put,qj,qz,qv]
         refine wpAnyH_take (i:=1) (v:= .int .i64 (qa:Int)) rfl (by kernel_rfl) (by kernel_rfl) (by kernel_rfl) (fun _ _ _ h=>h) (Or.inl ⟨by rfl,?_⟩) hS ?_
         ·intro w' hw'
          obtain⟨s0,s1,s2,s3⟩:=hw'
          go_simp
         try simp only[Act.put,qj,qz,qv]
         refine wpAnyH_take (i:=2) (v:= .pointer (some ⟨g,1,none⟩)) rfl (by kernel_rfl) (by kernel_rfl) (by kernel_rfl) (fun _ _ _ h=>h) (Or.inl ⟨by rfl,?_⟩) hS ?_
         ·intro w' hw'
          obtain⟨s0,s1,s2,s3⟩:=hw'
          go_simp
         try simp only[Act.put,qj,qz,qv]
         refine wpAnyH_take (i:=3) (v:= .int .i64 (qb:Int)) rfl (by kernel_rfl) (by kernel_rfl) (by kernel_rfl) (fun _ _ _ h=>h) (Or.inl ⟨by rfl,?_⟩) hS ?_
         ·intro w' hw'
          obtain⟨s0,s1,s2,s3⟩:=hw'
          go_simp
         try simp only[Act.put,qj,qz,qv]
         refine wpAnyH_take (i:=4) (v:= .pointer (some ⟨g,2,none⟩)) rfl (by kernel_rfl) (by kernel_rfl) (by kernel_rfl) (fun _ _ _ h=>h) (Or.inl ⟨by rfl,?_⟩) hS ?_
         ·intro w' hw'
          obtain⟨s0,s1,s2,s3⟩:=hw'
          go_simp
         try simp only[Act.put,qj,qz,qv]
         refine wpAnyH_take (i:=5) (v:= .int .i64 (qc:Int)) rfl (by kernel_rfl) (by kernel_rfl) (by kernel_rfl) (fun _ _ _ h=>h) (Or.inl ⟨by rfl,?_⟩) hS ?_
         ·intro w' hw'
          obtain⟨s0,s1,s2,s3⟩:=hw'
          go_simp
         try simp only[Act.put,qj,qz,qv]
         refine wpAnyH_take (i:=6) (v:= .pointer (some ⟨g,3,none⟩)) rfl (by kernel_rfl) (by kernel_rfl) (by kernel_rfl) (fun _ _ _ h=>h) (Or.inl ⟨by rfl,?_⟩) hS ?_
         ·intro w' hw'
          obtain⟨s0,s1,s2,s3⟩:=hw'
          go_simp
         try simp only[Act.put,qj,qz,qv]
         refine wpAnyH_take (i:=7) (v:= .int .i64 (qd:Int)) rfl (by kernel_rfl) (by kernel_rfl) (by kernel_rfl) (fun _ _ _ h=>h) (Or.inl ⟨by rfl,?_⟩) hS ?_
         ·intro w' hw'
          obtain⟨s0,s1,s2,s3⟩:=hw'
          go_simp
         try simp only[Act.put,qj,qz,qv]
         refine wpAnyH_take (i:=8) (v:= .pointer (some ⟨g,0,none⟩)) rfl (by kernel_rfl) (by kernel_rfl) (by kernel_rfl) (fun _ _ _ h=>h) (Or.inl ⟨by rfl,?_⟩) hS ?_
         ·intro w' hw'
          obtain⟨s0,s1,s2,s3⟩:=hw'
          go_simp
         try simp only[Act.put,qj,qz,qv]
         refine wpAnyH_take (i:=9) (v:= .int .i64 (qa:Int)) rfl (by kernel_rfl) (by kernel_rfl) (by kernel_rfl) (fun _ _ _ h=>h) (Or.inl ⟨by rfl,?_⟩) hS ?_
         ·intro w' hw'
          obtain⟨s0,s1,s2,s3⟩:=hw'
          go_simp
         try simp only[Act.put,qj,qz,qv]
         refine wpAnyH_take (i:=10) (v:= .pointer (some ⟨w.heap.size+3,qa,none⟩)) rfl (by kernel_rfl) (by kernel_rfl) (by kernel_rfl) (fun _ _ _ h=>h) (Or.inl ⟨by rfl,?_⟩) hS ?_
         ·intro w' hw'
          obtain⟨s0,s1,s2,s3⟩:=hw'
          go_simp
         try simp only[Act.put,qj,qz,qv]
         refine wpAnyH_take (i:=12) (v:= .pointer (some ⟨g,1,none⟩)) rfl (by kernel_rfl) (by kernel_rfl) (by kernel_rfl) (fun _ _ _ h=>h) (Or.inl ⟨by rfl,?_⟩) hS ?_
         ·intro w' hw'
          obtain⟨s0,s1,s2,s3⟩:=hw'
          go_simp
         try simp only[Act.put,qj,qz,qv]
         refine wpAnyH_take (i:=13) (v:= .int .i64 (qb:Int)) rfl (by kernel_rfl) (by kernel_rfl) (by kernel_rfl) (fun _ _ _ h=>h) (Or.inl ⟨by rfl,?_⟩) hS ?_
         ·intro w' hw'
          obtain⟨s0,s1,s2,s3⟩:=hw'
          go_simp
         try simp only[Act.put,qj,qz,qv]
         refine wpAnyH_take (i:=14) (v:= .pointer (some ⟨w.heap.size+3,qb,none⟩)) rfl (by kernel_rfl) (by kernel_rfl) (by kernel_rfl) (fun _ _ _ h=>h) (Or.inl ⟨by rfl,?_⟩) hS ?_
         ·intro w' hw'
          obtain⟨s0,s1,s2,s3⟩:=hw'
          go_simp
         try simp only[Act.put,qj,qz,qv]
         refine wpAnyH_take (i:=16) (v:= .pointer (some ⟨g,2,none⟩)) rfl (by kernel_rfl) (by kernel_rfl) (by kernel_rfl) (fun _ _ _ h=>h) (Or.inl ⟨by rfl,?_⟩) hS ?_
         ·intro w' hw'
          obtain⟨s0,s1,s2,s3⟩:=hw'
          go_simp
         try simp only[Act.put,qj,qz,qv]
         refine wpAnyH_take (i:=17) (v:= .int .i64 (qc:Int)) rfl (by kernel_rfl) (by kernel_rfl) (by kernel_rfl) (fun _ _ _ h=>h) (Or.inl ⟨by rfl,?_⟩) hS ?_
         ·intro w' hw'
          obtain⟨s0,s1,s2,s3⟩:=hw'
          go_simp
         try simp only[Act.put,qj,qz,qv]
         refine wpAnyH_take (i:=18) (v:= .pointer (some ⟨w.heap.size+3,qc,none⟩)) rfl (by kernel_rfl) (by kernel_rfl) (by kernel_rfl) (fun _ _ _ h=>h) (Or.inl ⟨by rfl,?_⟩) hS ?_
         ·intro w' hw'
          obtain⟨s0,s1,s2,s3⟩:=hw'
          go_simp
         try simp only[Act.put,qj,qz,qv]
         refine wpAnyH_take (i:=20) (v:= .pointer (some ⟨g,3,none⟩)) rfl (by kernel_rfl) (by kernel_rfl) (by kernel_rfl) (fun _ _ _ h=>h) (Or.inl ⟨by rfl,?_⟩) hS ?_
         ·intro w' hw'
          obtain⟨s0,s1,s2,s3⟩:=hw'
          go_simp
         try simp only[Act.put,qj,qz,qv]
         refine wpAnyH_take (i:=21) (v:= .int .i64 (qd:Int)) rfl (by kernel_rfl) (by kernel_rfl) (by kernel_rfl) (fun _ _ _ h=>h) (Or.inl ⟨by rfl,?_⟩) hS ?_
         ·intro w' hw'
          obtain⟨s0,s1,s2,s3⟩:=hw'
          go_simp
         try simp only[Act.put,qj,qz,qv]
         refine wpAnyH_take (i:=22) (v:= .pointer (some ⟨w.heap.size+3,qd,none⟩)) rfl (by kernel_rfl) (by kernel_rfl) (by kernel_rfl) (fun _ _ _ h=>h) (Or.inl ⟨by rfl,?_⟩) hS ?_
         ·intro w' hw'
          obtain⟨s0,s1,s2,s3⟩:=hw'
          go_simp
         try simp only[Act.put,qj,qz,qv]
         refine wpAnyH_still4 (i:=11) (j:=15) (k:=19) (l:=23) (vi:= .int .u32 (bv xa)) (vj:= .int .u32 (bv xb)) (vk:= .int .u32 (bv xc)) (vl:= .int .u32 (bv xd)) rfl rfl rfl rfl (by kernel_rfl) (by kernel_rfl) (by kernel_rfl) (by kernel_rfl) hS (Or.inl ⟨by rfl,?_⟩) (Or.inl ⟨by rfl,?_⟩) (Or.inl ⟨by rfl,?_⟩) (Or.inl ⟨by rfl,?_⟩) ?_
         ·rintro w' rfl
          go_simp
         ·rintro w' rfl
          go_simp
         ·rintro w' rfl
          go_simp
         ·rintro w' rfl
          go_simp
         try simp only[Act.put,qj,qz,qv]
         clear fx ca cb cc cd
         have hB0:PcB w wq.drew key S X:=HBq.out.below (Below.refl _ _).drew
         clear HBq
         refine wpAnyH_ready (rs:=[24]) (by kernel_rfl) (by simp) (AllReadyH.cons rfl (fun K' hK=>?_) AllReadyH.nil)
         go_simp
         refine Cq.out.mono ?_
         rintro e w' ⟨rfl,rfl⟩
         generalize wq.drew=v0 at hS hB0 ⊢
         refine hK.out _ _ hS (fun _=>?_)
         clear hK
         try simp only[Act.put,qj,qz,qv]
         refine wpAnyH_take (i:=25) (v:= .tuple #[.int .u32 (bv ra),.int .u32 (bv rb),.int .u32 (bv rc),.int .u32 (bv rd)]) rfl (by kernel_rfl) (by kernel_rfl) (by kernel_rfl) (fun _ _ _ h=>h) (Or.inl ⟨by rfl,?_⟩) hS ?_
         ·intro w' hw'
          obtain⟨s0,s1,s2,s3⟩:=hw'
          go_simp
         try simp only[Act.put,qj,qz,qv]
         refine wpAnyH_take (i:=26) (v:= .int .u32 (bv ra)) rfl (by kernel_rfl) (by kernel_rfl) (by kernel_rfl) (fun _ _ _ h=>h) (Or.inl ⟨by rfl,?_⟩) hS ?_
         ·intro w' hw'
          obtain⟨s0,s1,s2,s3⟩:=hw'
          go_simp
         try simp only[Act.put,qj,qz,qv]
         refine wpAnyH_take (i:=27) (v:= .int .u32 (bv rb)) rfl (by kernel_rfl) (by kernel_rfl) (by kernel_rfl) (fun _ _ _ h=>h) (Or.inl ⟨by rfl,?_⟩) hS ?_
         ·intro w' hw'
          obtain⟨s0,s1,s2,s3⟩:=hw'
          go_simp
         try simp only[Act.put,qj,qz,qv]
         refine wpAnyH_take (i:=28) (v:= .int .u32 (bv rc)) rfl (by kernel_rfl) (by kernel_rfl) (by kernel_rfl) (fun _ _ _ h=>h) (Or.inl ⟨by rfl,?_⟩) hS ?_
         ·intro w' hw'
          obtain⟨s0,s1,s2,s3⟩:=hw'
          go_simp
         try simp only[Act.put,qj,qz,qv]
         refine wpAnyH_take (i:=29) (v:= .int .u32 (bv rd)) rfl (by kernel_rfl) (by kernel_rfl) (by kernel_rfl) (fun _ _ _ h=>h) (Or.inl ⟨by rfl,?_⟩) hS ?_
         ·intro w' hw'
          obtain⟨s0,s1,s2,s3⟩:=hw'
          go_simp
         try simp only[Act.put,qj,qz,qv]
         refine wpAnyH_take (i:=30) (v:= .pointer (some ⟨w.heap.size+3,qa,none⟩)) rfl (by kernel_rfl) (by kernel_rfl) (by kernel_rfl) (fun _ _ _ h=>h) (Or.inl ⟨by rfl,?_⟩) hS ?_
         ·intro w' hw'
          obtain⟨s0,s1,s2,s3⟩:=hw'
          go_simp
         try simp only[Act.put,qj,qz,qv]
         refine wpAnyH_ready (rs:=[31]) (by kernel_rfl) (by simp) (AllReadyH.cons rfl (fun K' hK=>?_) AllReadyH.nil)
         have hc:=hB0.x.cellD (k:=qa) (by first|(rw[HXl.out];assumption)|(simp only[List.length_set];rw[HXl.out];assumption)) 0#32
         have hf:=hB0.x.frozen qa
         go_simp
         have hB1:=hB0.set_ qa ra
         have hS':=setS hgz (p:=⟨w.heap.size+3,qa,none⟩) (by simp) (.int .u32 (bv ra)) hS
         clear hS hc hf hB0
         generalize World.setCell v0 _ _=v1 at hB1 hS' ⊢
         refine hK.out _ _ hS' (fun hS=>?_)
         clear hK hS'
         try simp only[Act.put,qj,qz,qv]
         refine wpAnyH_take (i:=32) (v:= .pointer (some ⟨w.heap.size+3,qb,none⟩)) rfl (by kernel_rfl) (by kernel_rfl) (by kernel_rfl) (fun _ _ _ h=>h) (Or.inl ⟨by rfl,?_⟩) hS ?_
         ·intro w' hw'
          obtain⟨s0,s1,s2,s3⟩:=hw'
          go_simp
         try simp only[Act.put,qj,qz,qv]
         refine wpAnyH_ready (rs:=[33]) (by kernel_rfl) (by simp) (AllReadyH.cons rfl (fun K' hK=>?_) AllReadyH.nil)
         have hc:=hB1.x.cellD (k:=qb) (by first|(rw[HXl.out];assumption)|(simp only[List.length_set];rw[HXl.out];assumption)) 0#32
         have hf:=hB1.x.frozen qb
         go_simp
         have hB2:=hB1.set_ qb rb
         have hS':=setS hgz (p:=⟨w.heap.size+3,qb,none⟩) (by simp) (.int .u32 (bv rb)) hS
         clear hS hc hf hB1
         generalize World.setCell v1 _ _=v2 at hB2 hS' ⊢
         refine hK.out _ _ hS' (fun hS=>?_)
         clear hK hS'
         try simp only[Act.put,qj,qz,qv]
         refine wpAnyH_take (i:=34) (v:= .pointer (some ⟨w.heap.size+3,qc,none⟩)) rfl (by kernel_rfl) (by kernel_rfl) (by kernel_rfl) (fun _ _ _ h=>h) (Or.inl ⟨by rfl,?_⟩) hS ?_
         ·intro w' hw'
          obtain⟨s0,s1,s2,s3⟩:=hw'
          go_simp
         try simp only[Act.put,qj,qz,qv]
         refine wpAnyH_ready (rs:=[35]) (by kernel_rfl) (by simp) (AllReadyH.cons rfl (fun K' hK=>?_) AllReadyH.nil)
         have hc:=hB2.x.cellD (k:=qc) (by first|(rw[HXl.out];assumption)|(simp only[List.length_set];rw[HXl.out];assumption)) 0#32
         have hf:=hB2.x.frozen qc
         go_simp
         have hB3:=hB2.set_ qc rc
         have hS':=setS hgz (p:=⟨w.heap.size+3,qc,none⟩) (by simp) (.int .u32 (bv rc)) hS
         clear hS hc hf hB2
         generalize World.setCell v2 _ _=v3 at hB3 hS' ⊢
         refine hK.out _ _ hS' (fun hS=>?_)
         clear hK hS'
         try simp only[Act.put,qj,qz,qv]
         refine wpAnyH_take (i:=36) (v:= .pointer (some ⟨w.heap.size+3,qd,none⟩)) rfl (by kernel_rfl) (by kernel_rfl) (by kernel_rfl) (fun _ _ _ h=>h) (Or.inl ⟨by rfl,?_⟩) hS ?_
         ·intro w' hw'
          obtain⟨s0,s1,s2,s3⟩:=hw'
          go_simp
         try simp only[Act.put,qj,qz,qv]
         refine wpAnyH_ready (rs:=[37]) (by kernel_rfl) (by simp) (AllReadyH.cons rfl (fun K' hK=>?_) AllReadyH.nil)
         have hc:=hB3.x.cellD (k:=qd) (by first|(rw[HXl.out];assumption)|(simp only[List.length_set];rw[HXl.out];assumption)) 0#32
         have hf:=hB3.x.frozen qd
         go_simp
         have hB4:=hB3.set_ qd rd
         have hS':=setS hgz (p:=⟨w.heap.size+3,qd,none⟩) (by simp) (.int .u32 (bv rd)) hS
         clear hS hc hf hB3
         generalize World.setCell v3 _ _=v4 at hB4 hS' ⊢
         refine hK.out _ _ hS' (fun hS=>?_)
         clear hK hS'
         try simp only[Act.put,qj,qz,qv]
         refine wpAnyH_done (by kernel_rfl) ?_ _
         go_wp2_with fail
         go_roundw
         case rel=>
          refine⟨k+1,by omega,by go_num,hB4.cast ?_⟩
          rw[roundTo_succ,←HX.out,Hq.out]
          unfold setq
          simp only[←Hxa.out,←Hxb.out,←Hxc.out,←Hxd.out,Hq4.out]
         case measure=>simp[intOf];omega
        ·obtain rfl:k=8:=by omega
         rw[show(((8:Nat)):Int)=8 from rfl]
         go_wp2_with fail
         go_roundw
         case rel=>exact⟨r+1,by omega,by go_num,HB.out⟩
         case measure=>simp[intOf];omega
      ·obtain rfl:r=10:=by omega
       rw[show(((10:Nat)):Int)=10 from rfl]
       obtain⟨X,hX⟩:∃X,X=dblTo 10 S:=⟨_,rfl⟩
       have HX:=qq hX
       have xl:X.length=16:=by rw[hX,dblTo_len];exact HSl.out
       have hB:=HB.out
       rw[←hX]at hB
       have hC:PcC w wr key S X (outP X S 0):=⟨hB.k,hB.o.cast (outP_0 X S).symm,hB.s,hB.x,hB.b⟩
       have HXl:=qq xl
       have HC:=qq hC
       clear hX xl hB hC HB hr10
       go_wp2_with fail
       go_loopw [94] (fun i wr=>∃m:Nat,m≤16∧i= .int .i64 m∧PcC w wr key S X (outP X S (4*m))) (fun i _=>16-(intOf i).toNat)
       case atStart=>exact⟨0,by omega,rfl,HC.out⟩
       case round=>
        clear HC
        obtain⟨m,hm16,rfl,hC⟩:=hrel
        have HC:=qq hC
        clear hC
        by_cases hlt:m<16
        ·have cx:=HC.out.x.cellD (k:=m) (by rw[HXl.out];omega) 0#32
         have cs:=HC.out.s.cellD (k:=m) (by rw[HSl.out];omega) 0#32
         obtain⟨u,hu⟩:∃u,u=X.getD m 0#32+S.getD m 0#32:=⟨_,rfl⟩
         have Hu:=qq hu
         generalize hxm:X.getD m 0#32=xm at cx hu
         generalize hsm:S.getD m 0#32=sm at cs hu
         simp only[b32]at cx cs
         have im:(m:Int)<16:=by omega
         clear hxm hsm
         have Hu2:=qq hu
         clear hu
         go_wp2_with fail
         go_quiet (fail)
         rw[←Hu2.out]
         have HC2:=qq (HC.out.drewN nq)
         clear HC cx cs
         generalize wr.drewN nq=wv at HC2 ⊢
         go_wp2_with fail
         go_loopw [104] (fun i wr=>∃j:Nat,j≤4∧i= .int .i64 j∧PcC w wr key S X (outP X S (4*m+j))) (fun i _=>4-(intOf i).toNat)
         case atStart=>exact⟨0,by omega,rfl,HC2.out⟩
         case round=>
          clear HC2
          obtain⟨j,hj4,rfl,hC⟩:=hrel
          have HC:=qq hC
          clear hC
          by_cases hlt2:j<4
          ·have co:=HC.out.o.cellD (k:=4*m+j) (by rw[outP_len];omega) 0#8
           have fo:=HC.out.o.frozen (4*m+j)
           have i1:(0:Int)≤4*(m:Int)+(j:Int):=by omega
           have i2:4*(m:Int)+(j:Int)<64:=by omega
           go_wp2_with fail
           go_roundw
           case rel=>
            refine⟨j+1,by omega,by go_num,?_⟩
            have:=HC.out.set_ (4*m+j) ((u>>>(8*j)).setWidth 8)
            rw[Hu.out,←outB_at X S m j hlt2,outP_set]at this
            rw[Hu.out,←outB_at X S m j hlt2]
            exact this
           case measure=>simp[intOf];omega
          ·obtain rfl:j=4:=by omega
           rw[show(((4:Nat)):Int)=4 from rfl]
           go_wp2_with fail
           go_roundw
           case rel=>exact⟨m+1,by omega,by go_num,HC.out⟩
           case measure=>simp[intOf];omega
        ·obtain rfl:m=16:=by omega
         rw[show(((16:Nat)):Int)=16 from rfl]
         obtain⟨O,hO⟩:∃O,O=outP X S (4*16):=⟨_,rfl⟩
         have HO:=qq hO
         have Hi:=qq (show(Tryd.prog.info? 99).map (·.size)=some O.length by rw[hO,outP_len];kernel_rfl)
         have hC:=HC.out
         rw[←hO]at hC
         have HC2:=qq hC
         clear hO hC HC hm16
         go_wp2_with (first
          |refine wpList_load_arr rfl 99 _ rfl (w.heap.size+1) rfl _ O HC2.out.o _ Tryd.underlying99 rfl Hi.out ?_
          |(refine wpList_store_arr rfl 99 _ _ rfl (w.heap.size+1) rfl O rfl _ _ HC2.out.o rfl Hi.out b8_one' ?_;intro w9 ho9 hg9))
         have Ho9:=qq ho9
         clear ho9
         refine bodyPost_ret (v:= .tuple #[.agg (O.map b8).toArray,.nilIface]) (results_arr_tmp (g:=w.heap.size+1) rfl _ _ _ _ _ _ rfl rfl Ho9.out Tryd.underlying99 rfl Hi.out) rfl ?_
         refine⟨by rw[arrV_mk,pieceL_mk,←HS.out,←HX.out,←HO.out],HC2.out.b.grown hg9 (by have:=HC2.out.o.lt;omega) (fun k e=>by cases e;omega)⟩
end Go.Proofs.YtelgjaiknaalkaaDoor
