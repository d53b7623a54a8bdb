/- Lemmas, joined and made smaller by a program. -/
import Derived.Test.YtelgjaiknaalkaaDoorPo03
import Derived.StillTailTactics
import Derived.Test.YtelgjaiknaalkaaDoorPo02
import Derived.Lib.AppendZeros
open Go.Lib renaming hid → qq
open List renaming set_cons_zero → qz
set_option linter.unusedVariables false
set_option linter.unusedSimpArgs false
namespace Go.Proofs.YtelgjaiknaalkaaDoor
open Go.RowKit
section
variable{n:Nat}
def schedTo(c:Sha n)(p:List (BitVec 8))(m k:Nat):List (BitVec n):=c.sched p k++List.replicate (m-k) 0#n
theorem schedTo_len(c:Sha n)(p:List (BitVec 8))(m k:Nat)(hk:k≤m):(schedTo c p m k).length=m:=by
 unfold schedTo;rw[List.length_append,Sha.sched_len,List.length_replicate];omega
theorem schedTo_set(c:Sha n)(p:List (BitVec 8))(m k:Nat)(hk:k<m):(schedTo c p m k).set k (c.next p (c.sched p k))=schedTo c p m (k+1):=by
 have e:m-k=(m-(k+1))+1:=by omega
 unfold schedTo
 rw[e,List.replicate_succ,List.set_append_right _ _ (by rw[Sha.sched_len];exact Nat.le_refl _),Sha.sched_len,Nat.sub_self,qz,Sha.sched,List.append_assoc]
 rfl
theorem schedTo_at(c:Sha n)(p:List (BitVec 8))(m k j:Nat)(hj:j<k):(schedTo c p m k).getD j 0#n=(c.sched p k).getD j 0#n:=by
 unfold schedTo
 rw[List.getD,List.getElem?_append_left (by rw[Sha.sched_len];exact hj)];rfl
theorem schedTo_all(c:Sha n)(p:List (BitVec 8))(m:Nat):schedTo c p m m=c.sched p m:=by
 unfold schedTo;rw[Nat.sub_self];simp
theorem next_word(c:Sha n)(p:List (BitVec 8))(k:Nat)(hk:k<16):c.next p (c.sched p k)=c.word p k:=by
 unfold Sha.next;rw[Sha.sched_len,if_pos hk]
theorem next_mix(c:Sha n)(p:List (BitVec 8))(k a b d e:Nat)(hk:16≤k)(h2:k=a+2)(h7:k=b+7)(h15:k=d+15)(h16:k=e+16):
 c.next p (c.sched p k)=c.s1 ((c.sched p k).getD a 0)+(c.sched p k).getD b 0+c.s0 ((c.sched p k).getD d 0)+(c.sched p k).getD e 0:=by
 unfold Sha.next;rw[Sha.sched_len,if_neg (by omega),show k-2=a by omega,show k-7=b by omega,show k-15=d by omega,show k-16=e by omega]
def addTo(s t:S8 n)(k:Nat):List (BitVec n):=(s.add t).list.take k++s.list.drop k
theorem addTo_set(s t:S8 n)(k:Nat)(hk:k<8):(addTo s t k).set k (s.list.getD k 0#n+t.list.getD k 0#n)=addTo s t (k+1):=by
 match k,hk with
 |0,_=>rfl
 |1,_=>rfl
 |2,_=>rfl
 |3,_=>rfl
 |4,_=>rfl
 |5,_=>rfl
 |6,_=>rfl
 |7,_=>rfl
theorem addTo_at(s t:S8 n)(k:Nat)(hk:k<8):(addTo s t k).getD k 0#n=s.list.getD k 0#n:=by
 match k,hk with
 |0,_=>rfl
 |1,_=>rfl
 |2,_=>rfl
 |3,_=>rfl
 |4,_=>rfl
 |5,_=>rfl
 |6,_=>rfl
 |7,_=>rfl
end
theorem rot7(x:BitVec 32)(w:World):Calls Tryd.prog 72 #[.int .u32 (bv x),.int .i64 (-7)] w fun e w'=>e= .returned (.int .u32 (bv (rotl x 25)))∧w=w':=rotl32_any x (-7) w
theorem rot18(x:BitVec 32)(w:World):Calls Tryd.prog 72 #[.int .u32 (bv x),.int .i64 (-18)] w fun e w'=>e= .returned (.int .u32 (bv (rotl x 14)))∧w=w':=rotl32_any x (-18) w
theorem rot17(x:BitVec 32)(w:World):Calls Tryd.prog 72 #[.int .u32 (bv x),.int .i64 (-17)] w fun e w'=>e= .returned (.int .u32 (bv (rotl x 15)))∧w=w':=rotl32_any x (-17) w
theorem rot19(x:BitVec 32)(w:World):Calls Tryd.prog 72 #[.int .u32 (bv x),.int .i64 (-19)] w fun e w'=>e= .returned (.int .u32 (bv (rotl x 13)))∧w=w':=rotl32_any x (-19) w
theorem piece32(s:S8 32)(p:List (BitVec 8)):sha32.piece s p=s.add (sha32.rounds (sha32.sched p 64) s 64):=by
 unfold Sha.piece
 rw[show sha32.K=K32 from rfl,K32_len]
theorem grown_drewN{w w':World}{r:Option Nat}(h:w.grownBy w' r)(k:Nat):w.grownBy (w'.drewN k) r:=⟨h.os,h.tape,h.output,h.size,h.block⟩
theorem grown_set{w w':World}{r:Option Nat}(h:w.grownBy w' r){p:Addr}(hp:some p.block=r∨w.heap.size≤p.block)(u:Value):w.grownBy (w'.setCell p u) r:=
 ⟨h.os,h.tape,h.output,by rw[World.size_setCell];exact h.size,fun i hi hne=>(Below.heap_setCell w' p u i (fun e=>by
  rcases hp with h1|h1
  ·exact hne (by rw[e];exact h1)
  ·omega)).trans (h.block i hi hne)⟩
theorem grown_alloc{w w':World}{r:Option Nat}(h:w.grownBy w' r)(o:Obj):w.grownBy (w'.alloc o) r:=
 ⟨h.os,h.tape,h.output,by rw[World.size_alloc];exact Nat.le_succ_of_le h.size,fun i hi hne=>(Below.heap_alloc w' o i (Nat.lt_of_lt_of_le hi h.size)).trans (h.block i hi hne)⟩
theorem cell_grown{w w':World}{r:Option Nat}(h:w.grownBy w' r){a:Addr}(ha:a.block<w.heap.size)(hne:some a.block≠r):w'.cell? a=w.cell? a:=World.cell?_of_block (h.block a.block ha hne)
theorem not_u32(x:BitVec 32):bits .xor .u32 IntKind.u32.max (bv x)=bv (~~~x):=by
 rw[show IntKind.u32.max=@OfNat.ofNat Int 4294967295 instOfNat from rfl,xor_u32_litl,show BitVec.ofNat 32 4294967295=BitVec.allOnes 32 from rfl,BitVec.allOnes_xor]
theorem not_u64(x:BitVec 64):bits .xor .u64 IntKind.u64.max (bv x)=bv (~~~x):=by
 rw[show IntKind.u64.max=@OfNat.ofNat Int 18446744073709551615 instOfNat from rfl,xor_u64_litl,show BitVec.ofNat 64 18446744073709551615=BitVec.allOnes 64 from rfl,BitVec.allOnes_xor]
attribute [go_sem] not_u32 not_u64
theorem sum4_u32(a b c d:BitVec 32):(bv a+bv b+bv c+bv d) % 4294967296=bv (a+b+c+d):=by
 unfold bv;simp only[BitVec.toNat_add];omega
theorem grownBy_trans'{a b c:World}{s:Nat}(h:a.grownBy b none)(k:b.grownBy c (some s))(hs:a.heap.size≤s):a.grownBy c none:=
 ⟨k.os.trans h.os,k.tape.trans h.tape,k.output.trans h.output,Nat.le_trans h.size k.size,fun i hi hne=>
  (k.block i (Nat.lt_of_lt_of_le hi h.size) (by simp;omega)).trans (h.block i hi hne)⟩
theorem quiet_eq{P:Program}{f:FuncId}{args:Array Value}{w:World}{n:Nat}{v:Value}(h:Calls P f args (w.drewN n) fun e w'=>e= .returned v∧w.drewN n=w'):Calls P f args (w.drewN n) fun e w''=>e= .returned v∧∃m,w''=w.drewN m:=
 Calls.quiet_of_same (h.mono fun _ _ h=>⟨h.1,h.2.symm⟩)
theorem Dig.range{w:World}{g:Nat}{s:List (BitVec 32)}{rv:Value}{n:Int}(h:Dig w g s rv n):w.rangeAt g 0 (s.map w32):=by
 have:=h.2.range 0 8
 rwa[List.drop_zero,List.take_append_of_le_length (by rw[List.length_map,h.1];exact Nat.le_refl _),List.take_of_length_le (by rw[List.length_map,h.1];exact Nat.le_refl _)]at this
theorem size8:(Tryd.prog.info? 163).map (·.size)=some 8:=by kernel_rfl
set_option maxRecDepth 100000 in
set_option maxHeartbeats 8000000 in
theorem piece_any(g gk b off c:Nat)(s:S8 32)(rv:Value)(n:Int)(p:List (BitVec 8))(w:World)(hd:Dig w g s.list rv n)(hk:Arr w32 w gk 168 K32)(hp:p.length=64)(hb:b<w.heap.size)(hcell:∀j,j<64→w.cell? ⟨b,off+j,none⟩=some (b8 (p.getD j 0#8))):
 Calls Tryd.prog 90 #[.pointer (some ⟨g,0,none⟩),.slice (some ⟨b,off,none⟩) 64 c,.pointer (some ⟨gk,0,none⟩)] w fun e w'=>e= .returned (.tuple #[])∧Dig w' g (sha32.piece s p).list rv n∧w.grownBy w' (some g):=by
 have HD:=qq hd
 have HK:=qq hk
 have HC:=qq hcell
 have HP:=qq hp
 clear hd hk hcell hp
 go_enter Tryd.func90,Tryd.ntmps90
 go_wp2_with fail
 have hX0:=qq (show Arr w32 (w.alloc (.cells ((List.replicate 64 0#32).map w32).toArray 168)) w.heap.size 168 (schedTo sha32 p 64 0)from Arr.new w32 w _ _)
 have hG0:=qq (show w.grownBy (w.alloc (.cells ((List.replicate 64 0#32).map w32).toArray 168)) none from World.grownBy_alloc w _ none)
 go_loopw [18] (fun i wr=>∃k:Nat,k≤16∧i= .int .i64 k∧Arr w32 wr w.heap.size 168 (schedTo sha32 p 64 k)∧w.grownBy wr none) (fun i _=>16-(intOf i).toNat)
 case atStart=>exact⟨0,by omega,rfl,hX0.out,hG0.out⟩
 case round=>
  clear hX0 hG0
  obtain⟨k,hk,rfl,hX,hG⟩:=hrel
  have HX:=qq hX
  have HG:=qq hG
  clear hX hG
  by_cases hlt:k<16
  ·have hc:∀j,j<64→wr.cell? ⟨b,off+j,none⟩=some (b8 (p.getD j 0#8)):=fun j hj=>(cell_grown HG.out hb (by simp)).trans (HC.out j hj)
   obtain⟨p0,hp0⟩:∃m,m=4*k:=⟨_,rfl⟩
   obtain⟨p1,hp1⟩:∃m,m=p0+1:=⟨_,rfl⟩
   obtain⟨p2,hp2⟩:∃m,m=p0+2:=⟨_,rfl⟩
   obtain⟨p3,hp3⟩:∃m,m=p0+3:=⟨_,rfl⟩
   have c0:=hc p0 (by omega)
   have c1:=hc p1 (by omega)
   have c2:=hc p2 (by omega)
   have c3:=hc p3 (by omega)
   have hw:sha32.next p (sha32.sched p k)=word32 (p.getD p0 0#8) (p.getD p1 0#8) (p.getD p2 0#8) (p.getD p3 0#8):=by
    rw[next_word _ _ _ hlt,hp1,hp2,hp3,hp0];rfl
   generalize p.getD p0 0#8=x0 at c0 hw
   generalize p.getD p1 0#8=x1 at c1 hw
   generalize p.getD p2 0#8=x2 at c2 hw
   generalize p.getD p3 0#8=x3 at c3 hw
   simp only[b8]at c0 c1 c2 c3
   have e0:IntKind.i64.wrap (4*(k:Int))=(p0:Int):=by rw[IntWalk.i64_in _ (by omega)];omega
   have e1:IntKind.i64.wrap ((p0:Int)+1)=(p1:Int):=by rw[IntWalk.i64_in _ (by omega)];omega
   have e2:IntKind.i64.wrap ((p0:Int)+2)=(p2:Int):=by rw[IntWalk.i64_in _ (by omega)];omega
   have e3:IntKind.i64.wrap ((p0:Int)+3)=(p3:Int):=by rw[IntWalk.i64_in _ (by omega)];omega
   have l0:(p0:Int)<64:=by omega
   have l1:(p1:Int)<64:=by omega
   have l2:(p2:Int)<64:=by omega
   have l3:(p3:Int)<64:=by omega
   have lk:(k:Int)<64:=by omega
   have cx:=HX.out.cellD (k:=k) (by rw[schedTo_len _ _ _ _ (by omega)];omega) 0#32
   have fx:=HX.out.frozen k
   have Hw:=qq hw
   clear hw hc hp0 hp1 hp2 hp3
   go_wp2_with fail
   go_still_tail 35,(by kernel_rfl)
   clear e0 e1 e2 e3 c0 c1 c2 c3
   go_wp2_with fail
   go_roundw
   case rel=>
    refine⟨k+1,by omega,by go_num,?_,?_⟩
    ·have h2:=HX.out.drew.set_ k (sha32.next p (sha32.sched p k))
     rw[schedTo_set _ _ _ _ (by omega),Hw.out]at h2
     exact h2
    ·exact grown_set (grown_drewN HG.out 1) (.inr (Nat.le_refl _)) _
   case measure=>simp[intOf];omega
  ·obtain rfl:k=16:=by omega
   rw[show(((16:Nat)):Int)=16 from rfl]
   clear hlt hk
   go_wp2_with fail
   go_loopw [8] (fun i wr=>∃k:Nat,16≤k∧k≤64∧i= .int .i64 k∧Arr w32 wr w.heap.size 168 (schedTo sha32 p 64 k)∧w.grownBy wr none) (fun i _=>64-(intOf i).toNat)
   case atStart=>exact⟨16,by omega,by omega,rfl,HX.out,HG.out⟩
   case round=>
    clear HX HG
    obtain⟨k,hk16,hk,rfl,hX,hG⟩:=hrel
    have HX:=qq hX
    have HG:=qq hG
    clear hX hG
    by_cases hlt:k<64
    ·obtain⟨k2,hk2⟩:∃m,k=m+2:=⟨k-2,by omega⟩
     obtain⟨k7,hk7⟩:∃m,k=m+7:=⟨k-7,by omega⟩
     obtain⟨k15,hk15⟩:∃m,k=m+15:=⟨k-15,by omega⟩
     obtain⟨k16,hk16'⟩:∃m,k=m+16:=⟨k-16,by omega⟩
     have hl:=schedTo_len sha32 p 64 k hk
     have c2:=HX.out.cellD (k:=k2) (by omega) 0#32
     have c7:=HX.out.cellD (k:=k7) (by omega) 0#32
     have c15:=HX.out.cellD (k:=k15) (by omega) 0#32
     have c16:=HX.out.cellD (k:=k16) (by omega) 0#32
     have hw:=next_mix sha32 p k k2 k7 k15 k16 hk16 hk2 hk7 hk15 hk16'
     rw[schedTo_at _ _ _ _ _ (by omega)]at c2 c7 c15 c16
     generalize(sha32.sched p k).getD k2 0#32=x2 at c2 hw
     generalize(sha32.sched p k).getD k7 0#32=x7 at c7 hw
     generalize(sha32.sched p k).getD k15 0#32=x15 at c15 hw
     generalize(sha32.sched p k).getD k16 0#32=x16 at c16 hw
     simp only[w32]at c2 c7 c15 c16
     have e2:IntKind.i64.wrap ((k:Int)-2)=(k2:Int):=by rw[IntWalk.i64_in _ (by omega)];omega
     have e7:IntKind.i64.wrap ((k:Int)-7)=(k7:Int):=by rw[IntWalk.i64_in _ (by omega)];omega
     have e15:IntKind.i64.wrap ((k:Int)-15)=(k15:Int):=by rw[IntWalk.i64_in _ (by omega)];omega
     have e16:IntKind.i64.wrap ((k:Int)-16)=(k16:Int):=by rw[IntWalk.i64_in _ (by omega)];omega
     have l2:(k2:Int)<64:=by omega
     have l7:(k7:Int)<64:=by omega
     have l15:(k15:Int)<64:=by omega
     have l16:(k16:Int)<64:=by omega
     have lk:(k:Int)<64:=by omega
     have cx:=HX.out.cellD (k:=k) (by omega) 0#32
     have fx:=HX.out.frozen k
     have Hw:=qq hw
     clear hw hk2 hk7 hk15 hk16' hl
     go_wp2_with fail
     go_quiet (fail)
     have HX2:=qq (HX.out.drewN nq)
     have HG2:=qq (grown_drewN HG.out nq)
     clear HX HG
     have D7:=qq (show(wr.drewN nq).cell? ⟨w.heap.size,k7,none⟩=some (.int .u32 (bv x7))from c7)
     have D16:=qq (show(wr.drewN nq).cell? ⟨w.heap.size,k16,none⟩=some (.int .u32 (bv x16))from c16)
     clear c2 c7 c15 c16 cx fx
     generalize wr.drewN nq=wv at HX2 HG2 D7 D16 ⊢
     have c7:=D7.out
     have c16:=D16.out
     have cx:=HX2.out.cellD (k:=k) (by rw[schedTo_len sha32 p 64 k hk];omega) 0#32
     have fx:=HX2.out.frozen k
     clear D7 D16
     go_wp2_with (first
      |((with_reducible refine(rot7 _ _).mono ?_);rintro e w' ⟨rfl,rfl⟩)
      |((with_reducible refine(rot18 _ _).mono ?_);rintro e w' ⟨rfl,rfl⟩)
      |((with_reducible refine(rot17 _ _).mono ?_);rintro e w' ⟨rfl,rfl⟩)
      |((with_reducible refine(rot19 _ _).mono ?_);rintro e w' ⟨rfl,rfl⟩))
     go_still_tail 15,(by kernel_rfl)
     clear e2 e7 e15 e16 c7 c16
     go_wp2_with fail
     go_roundw
     case rel=>
      refine⟨k+1,by omega,by omega,by go_num,?_,?_⟩
      ·have h2:=HX2.out.drew.set_ k (sha32.next p (sha32.sched p k))
       rw[schedTo_set _ _ _ _ (by omega),Hw.out]at h2
       exact h2
      ·exact grown_set (grown_drewN HG2.out 1) (.inr (Nat.le_refl _)) _
     case measure=>simp[intOf];omega
    ·obtain rfl:k=64:=by omega
     rw[show(((64:Nat)):Int)=64 from rfl]
     obtain⟨X,hX⟩:∃X,X=sha32.sched p 64:=⟨_,rfl⟩
     have hXl:X.length=64:=by rw[hX,Sha.sched_len]
     have hd:=HD.out.grown HG.out (by simp)
     have hk1:=HK.out.grown HG.out (by simp)
     have HX2:=qq (HX.out.cast (show schedTo sha32 p 64 64=X by rw[schedTo_all,hX]))
     have HXe:=qq hX
     have HXl:=qq hXl
     have HD2:=qq hd
     have HK2:=qq hk1
     clear hX hXl hd hk1 HX hlt hk hk16
     have hgw:w.heap.size<wr.heap.size:=HX2.out.lt
     have hgs:g<wr.heap.size:=HD2.out.lt
     have hgk:gk<wr.heap.size:=HK2.out.lt
     obtain⟨gs,hgsz⟩:∃gs,gs=wr.heap.size:=⟨_,rfl⟩
     have HS0:=qq (show Arr w32 (wr.alloc (.cells ((List.replicate 8 0#32).map w32).toArray 163)) gs 163 (List.replicate 8 0#32)from hgsz▸Arr.new w32 wr _ _)
     have hgsw:w.heap.size<gs:=by omega
     have hgsg:g<gs:=by omega
     have hgsk:gk<gs:=by omega
     have HGz:=qq hgsz
     clear hgsz
     go_wp2_with (first
      |refine wpList_load_mid rfl 163 (.tmp 102) rfl g 0 rfl (s.list.map w32) _ HD2.out.range Tryd.underlying163 rfl (by rw[List.length_map,S8.list_len];exact size8) ?_
      |(rw[←HGz.out];refine wpList_store_arr rfl 163 (.tmp 13) (.tmp 103) rfl gs rfl s.list rfl _ _ HS0.out rfl size8 w32_one ?_;intro w5 hx5 hg5))
     have HS5:=qq hx5
     have HG5:=qq (show w.grownBy w5 none from⟨hg5.os.trans HG.out.os,hg5.tape.trans HG.out.tape,hg5.output.trans HG.out.output,by have:=hg5.size;rw[World.size_alloc]at this;omega,fun i hi hne=>((hg5.block i (by rw[World.size_alloc];omega) (by simp;omega)).trans (Below.heap_alloc wr _ i (by omega))).trans (HG.out.block i hi hne)⟩)
     have HX5:=qq ((HX2.out.alloc (.cells ((List.replicate 8 0#32).map w32).toArray 163)).grown hg5 (by simp;omega))
     clear hx5 hg5 HX2 HG HD2 HK2 HS0
     go_loopw [104] (fun i wr=>∃k:Nat,k≤64∧i= .int .i64 k∧Arr w32 wr gs 163 (sha32.rounds X s k).list∧Arr w32 wr w.heap.size 168 X∧w.grownBy wr none) (fun i _=>64-(intOf i).toNat)
     case atStart=>exact⟨0,by omega,rfl,HS5.out,HX5.out,HG5.out⟩
     case round=>
      clear HS5 HX5 HG5
      obtain⟨k,hk,rfl,hS,hX,hG⟩:=hrel
      have HSr:=qq hS
      have HX:=qq hX
      have HG:=qq hG
      clear hS hX hG
      by_cases hlt:k<64
      ·have hck:=HK.out.grown HG.out (by simp)
       have cw:=HX.out.cellD (k:=k) (by rw[HXl.out];exact hlt) 0#32
       have ck:=hck.cellD (k:=k) (by rw[K32_len];exact hlt) 0#32
       have hstep:sha32.rounds X s (k+1)=sha32.step (K32.getD k 0#32) (X.getD k 0#32) (sha32.rounds X s k):=rfl
       have hSr:=HSr.out
       generalize X.getD k 0#32=xw at cw hstep
       generalize K32.getD k 0#32=xk at ck hstep
       clear HSr
       generalize sha32.rounds X s k=R at hSr hstep
       obtain⟨y0,y1,y2,y3,y4,y5,y6,y7⟩:=R
       have s0:=hSr.at_ (k:=0) (u:=y0) rfl
       have s1:=hSr.at_ (k:=1) (u:=y1) rfl
       have s2:=hSr.at_ (k:=2) (u:=y2) rfl
       have s3:=hSr.at_ (k:=3) (u:=y3) rfl
       have s4:=hSr.at_ (k:=4) (u:=y4) rfl
       have s5:=hSr.at_ (k:=5) (u:=y5) rfl
       have s6:=hSr.at_ (k:=6) (u:=y6) rfl
       have s7:=hSr.at_ (k:=7) (u:=y7) rfl
       simp only[w32]at cw ck s0 s1 s2 s3 s4 s5 s6 s7
       have lk:(k:Int)<64:=by omega
       have Hst:=qq hstep
       have HSr:=qq hSr
       clear hck hstep hSr
       go_wp2_with fail
       go_quiet ((go_at_call 93;exact quiet_eq (turnsS1 _ _)))
       have HX2:=qq (HX.out.drewN nq)
       have HG2:=qq (grown_drewN HG.out nq)
       have HSr2:=qq (HSr.out.drewN nq)
       have D:=qq (show(wr.drewN nq).cell? ⟨gs,0,none⟩=some (.int .u32 (bv y0))∧(wr.drewN nq).cell? ⟨gs,1,none⟩=some (.int .u32 (bv y1))∧(wr.drewN nq).cell? ⟨gs,2,none⟩=some (.int .u32 (bv y2))∧(wr.drewN nq).cell? ⟨gs,3,none⟩=some (.int .u32 (bv y3))∧(wr.drewN nq).cell? ⟨gs,4,none⟩=some (.int .u32 (bv y4))∧(wr.drewN nq).cell? ⟨gs,5,none⟩=some (.int .u32 (bv y5))∧(wr.drewN nq).cell? ⟨gs,6,none⟩=some (.int .u32 (bv y6))from⟨s0,s1,s2,s3,s4,s5,s6⟩)
       clear HX HG HSr cw ck s0 s1 s2 s3 s4 s5 s6 s7
       generalize wr.drewN nq=wv at HX2 HG2 HSr2 D ⊢
       obtain⟨s0,s1,s2,s3,s4,s5,s6⟩:=D.out
       clear D
       go_wp2_with fail
       go_quiet ((go_at_call 93;exact quiet_eq (turnsS0 _ _)))
       rw[sum4_u32]
       generalize hT1:y7+sha32.S1 y4+(y4&&&y5^^^ ~~~y4&&&y6)+xk+xw=T1
       have HT1:=qq hT1
       clear hT1
       generalize hT2:sha32.S0 y0+(y0&&&y1^^^y0&&&y2^^^y1&&&y2)=T2
       have HT2:=qq hT2
       clear hT2
       have HX3:=qq (HX2.out.drewN nq)
       have HG3:=qq (grown_drewN HG2.out nq)
       have HSr3:=qq (HSr2.out.drewN nq)
       have D:=qq (show(wv.drewN nq).cell? ⟨gs,0,none⟩=some (.int .u32 (bv y0))∧(wv.drewN nq).cell? ⟨gs,1,none⟩=some (.int .u32 (bv y1))∧(wv.drewN nq).cell? ⟨gs,2,none⟩=some (.int .u32 (bv y2))∧(wv.drewN nq).cell? ⟨gs,3,none⟩=some (.int .u32 (bv y3))∧(wv.drewN nq).cell? ⟨gs,4,none⟩=some (.int .u32 (bv y4))∧(wv.drewN nq).cell? ⟨gs,5,none⟩=some (.int .u32 (bv y5))∧(wv.drewN nq).cell? ⟨gs,6,none⟩=some (.int .u32 (bv y6))from⟨s0,s1,s2,s3,s4,s5,s6⟩)
       clear HX2 HG2 HSr2 s0 s1 s2 s3 s4 s5 s6
       generalize wv.drewN nq=wu at HX3 HG3 HSr3 D ⊢
       obtain⟨s0,s1,s2,s3,s4,s5,s6⟩:=D.out
       clear D
       go_wp2_with (refine wpList_store_arr rfl 163 (.tmp 13) (.tmp 176) rfl gs rfl [T1+T2,y0,y1,y2,y3+T1,y4,y5,y6] rfl _ _ HSr3.out rfl size8 w32_one ?_;intro w6 hx6 hg6)
       have HX6:=qq (HX3.out.grown hg6 (by simp;omega))
       have HG6:=qq (show w.grownBy w6 none from grownBy_trans' HG3.out hg6 (by omega))
       clear HX3 HG3 HSr3 hg6 s0 s1 s2 s3 s4 s5 s6
       go_wp2_with fail
       go_roundw
       case rel=>
        refine⟨k+1,by omega,by go_num,?_,HX6.out,HG6.out⟩
        rw[Hst.out]
        exact hx6.cast (by rw[←HT1.out,←HT2.out];rfl)
       case measure=>simp[intOf];omega
      ·obtain rfl:k=64:=by omega
       rw[show(((64:Nat)):Int)=64 from rfl]
       obtain⟨R,hR⟩:∃R,R=sha32.rounds X s 64:=⟨_,rfl⟩
       have hd:=HD.out.grown HG.out (by simp)
       have hS2:=HSr.out
       rw[←hR]at hS2
       have HR:=qq hR
       have HD3:=qq (show Dig wr g (addTo s R 0) rv n from hd)
       have HR3:=qq hS2
       have hgne:gs≠g:=by omega
       have HNe:=qq hgne
       have HG3:=qq (show w.grownBy wr (some g)from⟨HG.out.os,HG.out.tape,HG.out.output,HG.out.size,fun i hi _=>HG.out.block i hi (by simp)⟩)
       clear hR hd hS2 hgne HX HG HSr hlt hk
       go_wp2_with fail
       go_loopw [178] (fun i wr=>∃k:Nat,k≤8∧i= .int .i64 k∧Dig wr g (addTo s R k) rv n∧Arr w32 wr gs 163 R.list∧w.grownBy wr (some g)) (fun i _=>8-(intOf i).toNat)
       case atStart=>exact⟨0,by omega,rfl,HD3.out,HR3.out,HG3.out⟩
       case round=>
        clear HD3 HR3 HG3
        obtain⟨k,hk,rfl,hd,hr,hG⟩:=hrel
        have HD3:=qq hd
        have HR3:=qq hr
        have HG3:=qq hG
        clear hd hr hG
        by_cases hlt:k<8
        ·have c1:=HD3.out.word hlt
         have f1:=HD3.out.frozen k
         have c2:=HR3.out.cellD (k:=k) (by rw[S8.list_len];exact hlt) 0#32
         rw[addTo_at _ _ _ hlt]at c1
         have hs:=addTo_set s R k hlt
         generalize s.list.getD k 0#32=x1 at c1 hs
         generalize R.list.getD k 0#32=x2 at c2 hs
         simp only[w32]at c1 c2
         have lk:(k:Int)<8:=by omega
         have Hs:=qq hs
         clear hs
         go_wp2_with fail
         go_still_tail 13,(by kernel_rfl)
         go_wp2_with fail
         go_roundw
         case rel=>
          refine⟨k+1,by omega,by go_num,?_,?_,?_⟩
          ·exact(HD3.out.drew.setWord hlt (x1+x2)).cast Hs.out
          ·exact HR3.out.drew.far (by exact HNe.out) _
          ·exact grown_set (grown_drewN HG3.out 1) (.inl rfl) _
         case measure=>simp[intOf];omega
        ·obtain rfl:k=8:=by omega
         rw[show(((8:Nat)):Int)=8 from rfl]
         go_wp2_with fail
         go_end0
         refine⟨rfl,?_,HG3.out⟩
         rw[piece32,←HXe.out,←HR.out]
         exact HD3.out
set_option maxRecDepth 100000 in
theorem grow_nil(n:Nat)(hn:n≤100000000)(w:World):Calls Tryd.prog 47 #[.slice none 0 0,.int .i64 (n:Int)] w fun e w'=>∃v,e= .returned v∧Own b8 w' w.heap.size 5 v []∧Below w.heap.size w w':=by
 obtain⟨i0,hi0,hz0,hz1,hz2⟩:=info_parts infoU8
 by_cases h0:n=0
 ·subst h0
  go_enter Tryd.func47,Tryd.ntmps47
  go_wp2
  go_ret
  exact⟨_,rfl,Own.nil_ _ _ _ _,Below.refl _ _⟩
 ·have hpos:0<n:=by omega
  have hnn:¬((n:Int)<0):=by omega
  have hrz:=fun ty=>Lib.run_append_nil_zeros (P:=Tryd.prog) w 33 3 ty 5 i0 _ .i64 .i64 Tryd.underlying33 Tryd.underlying3 hi0 hz0 n hpos (by omega) (by omega) (by rw[hz2];omega)
  have hge:=grownCap_ge w n 0 5
  have hmx:=grownCap_le_maxLen w n 0 5 (by unfold maxLen;omega)
  generalize grownCap w n 0 5=G at hrz hge hmx
  have HRZ:=qq hrz
  have HMX:=qq hmx
  clear hrz h0 hmx
  have hp:decide ((n:Int)>0)=true:=by simp;omega
  go_enter Tryd.func47,Tryd.ntmps47
  go_wp2_with (at_builtin;refine Lib.wpList_append_run _ rfl _ _ _ _ rfl _ _ rfl rfl _ _ (HRZ.out _) ?_)
  all_goals
   go_ret
   refine⟨_,rfl,⟨by simp,.inr ⟨w.heap.size,G,_,rfl,Nat.le_refl _,heap_alloc_new w.drew _,Nat.zero_le _,HMX.out,?_,by simp⟩⟩,by(repeat' (first|assumption|exact Below.refl _ _|refine Below.drew ?_|refine Below.alloc ?_ ?_ _|omega|(simp;done)|(simp;omega)))⟩
   simp only[Array.size_append,size_zeroCells]
   simp[Value.cells]
   omega
abbrev Pt:=Sl×List (BitVec 8)
def lenTo(ps:List Pt)(k:Nat):Nat:=((ps.take k).map fun p=>p.2.length).sum
def allTo(ps:List Pt)(k:Nat):List (BitVec 8):=(ps.take k).flatMap fun p=>p.2
theorem allTo_succ(ps:List Pt)(k:Nat)(hk:k<ps.length):allTo ps (k+1)=allTo ps k++ps[k].2:=by
 unfold allTo
 rw[List.take_succ_eq_append_getElem hk,List.flatMap_append];simp
theorem lenTo_succ(ps:List Pt)(k:Nat)(hk:k<ps.length):lenTo ps (k+1)=lenTo ps k+ps[k].2.length:=by
 unfold lenTo
 rw[List.take_succ_eq_append_getElem hk,List.map_append,List.sum_append];simp
theorem allTo_len(ps:List Pt)(k:Nat):(allTo ps k).length=lenTo ps k:=by
 unfold allTo lenTo
 rw[List.length_flatMap]
theorem lenTo_all(ps:List Pt):lenTo ps ps.length=(ps.flatMap fun p=>p.2).length:=by
 rw[←allTo_len];unfold allTo;rw[List.take_length]
theorem lenTo_mono(ps:List Pt)(k j:Nat)(h:k≤j):lenTo ps k≤lenTo ps j:=by
 unfold lenTo
 have:ps.take k=(ps.take j).take k:=by rw[List.take_take,Nat.min_eq_left h]
 rw[this]
 clear this h
 generalize ps.take j=l
 induction l generalizing k with
 |nil=>simp
 |cons a l ih=>cases k with
  |zero=>simp
  |succ k=>simp only[List.take_succ_cons,List.map_cons,List.sum_cons];have:=ih k;omega
structure Pts(w:World)(B:Nat)(b off:Nat)(ps:List Pt):Prop where
 row:∀k u,ps[k]?=some u→w.cell? ⟨b,off+k,none⟩=some (sl u.1)
 lt:b<w.heap.size
 rd:∀u∈ps,Rd b8 w B u.1.1 u.2
 len:∀u∈ps,u.1.2.1=u.2.length
theorem Pts.below{w w':World}{B C b off:Nat}{ps:List Pt}(h:Pts w B b off ps)(hb:Below C w w')(hB:B≤C)(hbC:b<C):Pts w' B b off ps:=
 ⟨fun k u hu=>(hb.cell (p:=⟨b,off+k,none⟩) hbC).trans (h.row k u hu),by have:=hb.size;have:=h.lt;omega,fun u hu=>(h.rd u hu).below (hb.mono hB),h.len⟩
set_option maxRecDepth 100000 in
theorem concat_any(w:World)(B b off c n:Nat)(ps:List Pt)(hp:Pts w B b off ps)(hB:B≤w.heap.size)(hn:n=ps.length)(hn2:n≤100000)(htot:(ps.flatMap fun p=>p.2).length≤50000000):
 Calls Tryd.prog 29 #[.slice (some ⟨b,off,none⟩) n c] w fun e w'=>∃v,e= .returned v∧Own b8 w' w.heap.size 5 v (ps.flatMap fun p=>p.2)∧Below w.heap.size w w':=by
 obtain⟨i0,hi0,hz0,hz1,hz2⟩:=info_parts infoU8
 have HP:=qq hp
 have HN:=qq hn
 have HT:=qq htot
 clear hp hn htot
 go_enter Tryd.func29,Tryd.ntmps29
 go_wp2_with fail
 go_loop [3,11] (fun t i=>∃k:Nat,k≤n∧i= .int .i64 k∧t= .int .i64 (lenTo ps k:Nat)) (fun _ i=>n-(intOf i).toNat)
 case atStart=>exact⟨0,by omega,rfl,rfl⟩
 case round=>
  obtain⟨k,hk,rfl,rfl⟩:=hrel
  by_cases hlt:k<n
  ·have hk':k<ps.length:=by rw[←HN.out];exact hlt
   obtain⟨⟨⟨A,m,cc⟩,xs⟩,hu⟩:∃u,ps[k]=u:=⟨_,rfl⟩
   have h1:=HP.out.row k _ (List.getElem?_eq_getElem hk')
   have h2:=HP.out.len _ (List.getElem_mem hk')
   have h3:=lenTo_succ ps k hk'
   have h4:=lenTo_mono ps (k+1) ps.length (by omega)
   rw[lenTo_all]at h4
   have h5:=HT.out
   rw[hu]at h1 h2 h3
   simp only[sl]at h1 h2 h3
   have hneg:¬(((lenTo ps k:Nat):Int)+(m:Int)<0):=by omega
   have hbnd:((lenTo ps k:Nat):Int)+(m:Int)≤50000000:=by omega
   have H3:=qq (show lenTo ps (k+1)=lenTo ps k+m by omega)
   clear h2 h3 h4 h5 hu
   go_wp2_with fail
   go_round
   case rel=>exact⟨k+1,by omega,by go_num,by rw[H3.out];go_num⟩
   case measure=>simp[intOf];omega
  ·obtain rfl:k=n:=by omega
   have hl:lenTo ps k≤50000000:=by rw[HN.out,lenTo_all];exact HT.out
   generalize lenTo ps k=tot at hl
   go_wp2_with fail
   refine(grow_nil tot (by omega) _).mono ?_
   rintro e w1 ⟨v1,rfl,hown,hb1⟩
   have HO:=qq hown
   have HB:=qq hb1
   clear hown hb1
   go_wp2_with fail
   go_loopw [6,27] (fun v i wr=>∃j:Nat,j≤k∧i= .int .i64 j∧Own b8 wr w.heap.size 5 v (allTo ps j)∧Below w.heap.size w wr) (fun _ i _=>k-(intOf i).toNat)
   case atStart=>exact⟨0,by omega,rfl,HO.out,HB.out⟩
   case round=>
    clear HO HB
    obtain⟨j,hj,rfl,hown,hb⟩:=hrel
    by_cases hlt2:j<k
    ·have hj':j<ps.length:=by rw[←HN.out];exact hlt2
     have hp2:=HP.out.below hb hB HP.out.lt
     have h1:=hp2.row j _ (List.getElem?_eq_getElem hj')
     have h2:=hp2.len _ (List.getElem_mem hj')
     have h3:=hp2.rd _ (List.getElem_mem hj')
     have h4:=lenTo_mono ps (j+1) ps.length (by omega)
     rw[lenTo_all,lenTo_succ ps j hj']at h4
     have h5:=HT.out
     have h6:=allTo_succ ps j hj'
     obtain⟨⟨⟨A,m,cc⟩,xs⟩,hu⟩:∃u,ps[j]=u:=⟨_,rfl⟩
     rw[hu]at h1 h2 h3 h4 h6
     simp only[sl]at h1 h2 h3 h4 h6
     have H2:=qq h2
     have H3:=qq h3
     have H6:=qq h6
     have HO:=qq hown
     have HB:=qq hb
     have hlen:=allTo_len ps j
     have HL:=qq (show(allTo ps j).length+xs.length≤50000000 by omega)
     have hz:=hb.size
     clear hp2 h2 h3 h4 h5 h6 hu hown hb hlen
     go_wp2_with (at_builtin;refine wpList_append_rd rfl _ _ 33 rfl b8_one w.heap.size 5 i0 _ 1 Tryd.underlying33 hi0 hz0 hz1 hz2 rfl _ _ rfl HO.out B A m cc xs rfl H2.out H3.out (by have:=HL.out;unfold maxLen;omega) (by have:=HL.out;omega) hz ?_;intro v7 w7 hown7 hg7 hbb7)
     go_roundw
     case rel=>exact⟨j+1,by omega,by go_num,by rw[H6.out];exact hown7,hbb7 _ _ (Nat.le_refl _) HB.out⟩
     case measure=>simp[intOf];omega
    ·obtain rfl:j=k:=by omega
     go_wp2_with fail
     go_ret
     exact⟨_,rfl,hown.cast (by unfold allTo;rw[HN.out,List.take_length]),hb⟩
set_option maxRecDepth 100000 in
theorem clone_any(w:World)(B:Nat)(A:Option Addr)(c n:Nat)(xs:List (BitVec 8))(hr:Rd b8 w B A xs)(hB:B≤w.heap.size)(hn:n=xs.length)(hA:A=none→n=0∧c=0)(hbig:n≤100000000):
 Calls Tryd.prog 37 #[.slice A n c] w fun e w'=>∃v,e= .returned v∧Own b8 w' w.heap.size 5 v xs∧Below w.heap.size w w':=by
 obtain⟨i0,hi0,hz0,hz1,hz2⟩:=info_parts infoU8
 have HR:=qq hr
 have HN:=qq hn
 clear hr hn
 cases A with
 |none=>
  obtain⟨rfl,rfl⟩:=hA rfl
  have HX:=qq (show xs=[]from List.eq_nil_of_length_eq_zero HN.out.symm)
  have hne:=fun w=>Lib.run_eql_slice_nil (P:=Tryd.prog) w 33 5 none 0 0 0 0 Tryd.underlying33
  go_enter Tryd.func37,Tryd.ntmps37
  go_wp2_with fail
  go_ret
  exact⟨_,rfl,by rw[HX.out];exact Own.nil_ _ _ _ _,Below.refl _ _⟩
 |some a=>
  clear hA
  have hne:=fun w=>Lib.run_eql_slice_nil (P:=Tryd.prog) w 33 5 (some a) n c 0 0 Tryd.underlying33
  have HO:=qq (show Own b8 (w.alloc (.cells #[] 5)) w.heap.size 5 (.slice (some ⟨w.heap.size,0,none⟩) 0 0) []from
   ⟨by simp,.inr ⟨w.heap.size,0,#[],rfl,Nat.le_refl _,heap_alloc_new w _,by simp,by simp[maxLen],by simp,by simp⟩⟩)
  go_enter Tryd.func37,Tryd.ntmps37
  go_wp2_with (at_builtin;refine wpList_append_rd rfl _ _ 33 rfl b8_one w.heap.size 5 i0 _ 1 Tryd.underlying33 hi0 hz0 hz1 hz2 rfl _ _ rfl HO.out B (some a) n c xs rfl HN.out (HR.out.alloc hB _) (by have:=HN.out;unfold maxLen;simp;omega) (by have:=HN.out;simp;omega) (by simp) ?_;intro v7 w7 hown7 hg7 hbb7)
  go_ret
  exact⟨_,rfl,hown7,hbb7 _ _ (Nat.le_refl _) (by(repeat' (first|assumption|exact Below.refl _ _|refine Below.drew ?_|refine Below.alloc ?_ ?_ _|omega|(simp;done)|(simp;omega))))⟩
end Go.Proofs.YtelgjaiknaalkaaDoor
