/- Lemmas, joined and made smaller by a program. -/
import Derived.Test.YtelgjaiknaalkaaDoorPo05
import Derived.Test.YtelgjaiknaalkaaDoorPo02
import Derived.Test.YtelgjaiknaalkaaDoorPo27
open Go.Lib renaming hid → qq
open List renaming setIfInBounds_toArray → qj
open List renaming set_cons_zero → qz
open List renaming set_cons_succ → qv
set_option linter.unusedVariables false
set_option linter.unusedSimpArgs false
namespace Go.Proofs.YtelgjaiknaalkaaDoor
open Go.RowKit
attribute [local go_sem] Oper.semAt_some
abbrev Cj(L q:Nat):={i:Nat//q*i<L}
def encJ(b q L:Nat)(x:Cj L q):Array Value:= #[.slice (some ⟨b,q*x.1,none⟩) (min q (L-q*x.1)) (min q (L-q*x.1))]
set_option maxRecDepth 100000 in
set_option maxHeartbeats 1000000 in
theorem chunkP_in(m:Nat)(hm:3≤m)(b c q L M l bs bn n₀:Nat)(hq:1≤q)(hq2:q≤1000)(hN:L≤1000000000)(hc:L≤c)(hM:M=(L+q-1)/q)(J Jx:List (Cj L q)→World→Prop)(W:World)(hJ:AbidesFrom W.heap.size J)
 (hY:∀pre y W1,J pre W1→pre.length<M→YieldAt Fence.wide (m-1) Tryd.prog l (encJ b q L y) W1 fun e W'=>
  (e= .returned (.bool true)∧J (pre++ [y]) W'∧KpC n₀ bs bn W1 W')∨(e= .returned (.bool false)∧Jx (pre++ [y]) W'))
 (hbs:Boxed W bs 33 (.slice (some ⟨b,0,none⟩) L c))(hbn:Boxed W bn 3 (.int .i64 (q:Int)))(h0:J [] W):
 CallsIn Fence.wide m Tryd.prog 73 #[.func (.yield l) #[] #[],.pointer (some ⟨bs,0,none⟩),.pointer (some ⟨bn,0,none⟩)] W fun e W'=>(∃v,e= .returned v)∧
  ((∃ys:List (Cj L q),ys.map Subtype.val=List.range M∧J ys W')∨(∃pre:List (Cj L q),True∧Jx pre W')):=by
 refine callsIn_of_wp Tryd.func73 rfl trivial ?_ rfl
 simp only[Tryd.ntmps73,List.size_toArray,List.length_cons,List.length_nil,Nat.reduceAdd,Nat.reduceSub,Array.replicate_succ,Array.replicate_zero,List.push_toArray,List.append_toArray,List.nil_append,List.cons_append]
 have HJ:=qq hJ
 have HY:=qq hY
 have H0:=qq h0
 have HBs:=qq hbs
 have HBn:=qq hbn
 have hM1:L≤q*M:=by
  have h1:=Nat.div_add_mod (L+q-1) q
  have h2:=Nat.mod_lt (L+q-1) (show 0<q by omega)
  rw[←hM]at h1
  omega
 have hM2:q*M<L+q:=by
  have h1:=Nat.div_add_mod (L+q-1) q
  rw[←hM]at h1
  omega
 have HM1:=qq hM1
 have HM2:=qq hM2
 have hm1:1≤m:=by omega
 have hm2:1≤m-1:=by omega
 clear hJ hY h0 hbs hbn hM hM1 hM2
 gi_wp2_with fail
 gi_loopw [4] (fun v wr=>∃(k p:Nat) (pre:List (Cj L q)),p=q*k∧v= .int .i64 (p:Int)∧k≤M∧pre.map Subtype.val=List.range k∧J pre wr∧Boxed wr bs 33 (.slice (some ⟨b,0,none⟩) L c)∧Boxed wr bn 3 (.int .i64 (q:Int))) (fun v _=>(L-intOf v).toNat)
 case atStart=>exact⟨0,0,[],by simp,rfl,by omega,rfl,H0.out,HBs.out,HBn.out⟩
 case round=>
  obtain⟨k,p,pre,hp,rfl,hkM,hpre,hJs,hbs,hbn⟩:=hrel
  have cs:=hbs.cell
  have cn:=hbn.cell
  have HBs2:=qq hbs
  have HBn2:=qq hbn
  have HJs:=qq hJs
  have Hpre:=qq hpre
  have Hp:=qq hp
  have hpb:p<L+q:=by
   have:=HM2.out
   have h1:q*k≤q*M:=Nat.mul_le_mul_left q hkM
   omega
  clear hbs hbn hJs hpre hp
  by_cases hlt:p<L
  ·have hkM':k<M:=by
    rcases Nat.lt_or_ge k M with h|h
    ·exact h
    ·exfalso
     have h1:q*M≤q*k:=Nat.mul_le_mul_left q h
     have:=HM1.out;have:=Hp.out;omega
   have hpc:¬(c=p):=by omega
   by_cases hs:L-p<q
   ·have hmin:min (q:Int) ((L-p:Nat):Int)=((L-p:Nat):Int):=by omega
    have hsi:((L-p:Nat):Int)<(q:Int):=by omega
    have hsum:(p:Int)+((L-p:Nat):Int)=(L:Int):=by omega
    have HT:=qq (show min q (L-p)=L-p by omega)
    gi_wp2_with fail
    refine wpIn_wide.2 ?_
    go_quiet (fail)
    have HJ2:=qq (HJ.out _ _ _ none HJs.out (show wr.grownBy (wr.drewN nq) none from⟨rfl,rfl,rfl,Nat.le_refl _,fun _ _ _=>rfl⟩) (fun r e=>by cases e))
    have HBs3:=qq (show Boxed (wr.drewN nq) bs 33 (.slice (some ⟨b,0,none⟩) L c)from HBs2.out)
    have HBn3:=qq (show Boxed (wr.drewN nq) bn 3 (.int .i64 (q:Int))from HBn2.out)
    clear HJs HBs2 HBn2 cs cn
    generalize wr.drewN nq=wv at HJ2 HBs3 HBn3 ⊢
    have cs:=HBs3.out.cell
    have cn:=HBn3.out.cell
    obtain⟨fn,tmps,assign,body,hy,hR⟩:=HY.out pre ⟨k,by rw[←Hp.out];exact hlt⟩ wv HJ2.out (by have:=congrArg List.length Hpre.out;rw[List.length_map,List.length_range]at this;omega)
    dsimp only[encJ]at hy
    rw[←Hp.out,HT.out]at hy
    have HRn:=qq hR
    clear hR
    gi_wp2_with fail
    refine HRn.out.mono ?_
    rintro e w3 (⟨rfl,hJ3,hk3,hks,hkn⟩|⟨rfl,hJx3⟩)
    ·have hbs3:Boxed w3 bs 33 (.slice (some ⟨b,0,none⟩) L c):=hks.trans HBs3.out
     have hbn3:Boxed w3 bn 3 (.int .i64 (q:Int)):=hkn.trans HBn3.out
     have cn3:=hbn3.cell
     have HB1:=qq hbs3
     have HB2:=qq hbn3
     have HJ3:=qq hJ3
     clear hbs3 hbn3 hks hkn hJ3 hk3
     gi_wp2_with fail
     go_roundw
     case rel=>
      refine⟨k+1,p+q,pre++ [⟨k,by rw[←Hp.out];exact hlt⟩],by rw[Hp.out,Nat.mul_succ],by go_num,hkM',?_,HJ3.out,HB1.out,HB2.out⟩
      rw[List.map_append,Hpre.out,List.range_succ];rfl
     case measure=>simp[intOf];omega
    ·gi_wp2_with fail
     refine bodyPost_ret (results_none rfl _ _ _) rfl ?_
     exact⟨⟨_,rfl⟩,.inr ⟨_,trivial,hJx3⟩⟩
   ·have hle:p+q≤L:=by omega
    have hmin:min (q:Int) ((L-p:Nat):Int)=(q:Int):=by omega
    have HT:=qq (show min q (L-p)=q by omega)
    clear hs
    gi_wp2_with fail
    refine wpIn_wide.2 ?_
    go_quiet (fail)
    have HJ2:=qq (HJ.out _ _ _ none HJs.out (show wr.grownBy (wr.drewN nq) none from⟨rfl,rfl,rfl,Nat.le_refl _,fun _ _ _=>rfl⟩) (fun r e=>by cases e))
    have HBs3:=qq (show Boxed (wr.drewN nq) bs 33 (.slice (some ⟨b,0,none⟩) L c)from HBs2.out)
    have HBn3:=qq (show Boxed (wr.drewN nq) bn 3 (.int .i64 (q:Int))from HBn2.out)
    clear HJs HBs2 HBn2 cs cn
    generalize wr.drewN nq=wv at HJ2 HBs3 HBn3 ⊢
    have cs:=HBs3.out.cell
    have cn:=HBn3.out.cell
    obtain⟨fn,tmps,assign,body,hy,hR⟩:=HY.out pre ⟨k,by rw[←Hp.out];exact hlt⟩ wv HJ2.out (by have:=congrArg List.length Hpre.out;rw[List.length_map,List.length_range]at this;omega)
    dsimp only[encJ]at hy
    rw[←Hp.out,HT.out]at hy
    have HRn:=qq hR
    clear hR
    gi_wp2_with fail
    refine HRn.out.mono ?_
    rintro e w3 (⟨rfl,hJ3,hk3,hks,hkn⟩|⟨rfl,hJx3⟩)
    ·have hbs3:Boxed w3 bs 33 (.slice (some ⟨b,0,none⟩) L c):=hks.trans HBs3.out
     have hbn3:Boxed w3 bn 3 (.int .i64 (q:Int)):=hkn.trans HBn3.out
     have cn3:=hbn3.cell
     have HB1:=qq hbs3
     have HB2:=qq hbn3
     have HJ3:=qq hJ3
     clear hbs3 hbn3 hks hkn hJ3 hk3
     gi_wp2_with fail
     go_roundw
     case rel=>
      refine⟨k+1,p+q,pre++ [⟨k,by rw[←Hp.out];exact hlt⟩],by rw[Hp.out,Nat.mul_succ],by go_num,hkM',?_,HJ3.out,HB1.out,HB2.out⟩
      rw[List.map_append,Hpre.out,List.range_succ];rfl
     case measure=>simp[intOf];omega
    ·gi_wp2_with fail
     refine bodyPost_ret (results_none rfl _ _ _) rfl ?_
     exact⟨⟨_,rfl⟩,.inr ⟨_,trivial,hJx3⟩⟩
  ·obtain rfl:k=M:=by
    rcases Nat.lt_or_ge k M with h|h
    ·exfalso
     have h1:q*(k+1)≤q*M:=Nat.mul_le_mul_left q h
     rw[Nat.mul_succ]at h1
     have:=HM2.out;have:=Hp.out;omega
    ·omega
   have hge:¬((p:Int)<(L:Int)):=by omega
   gi_wp2_with fail
   go_end0
   exact⟨⟨_,rfl⟩,.inl ⟨pre,Hpre.out,HJs.out⟩⟩
theorem chunkP_stops(m:Nat)(hm:3≤m)(b c q L M bs bn n₀:Nat)(hq:1≤q)(hq2:q≤1000)(hN:L≤1000000000)(hc:L≤c)(hM:M=(L+q-1)/q)(w:World)
 (hbs:Boxed w bs 33 (.slice (some ⟨b,0,none⟩) L c))(hbn:Boxed w bn 3 (.int .i64 (q:Int))):
 SeqStopsK Fence.wide m Tryd.prog 73 #[.pointer (some ⟨bs,0,none⟩),.pointer (some ⟨bn,0,none⟩)] (fun x:Cj L q=>encJ b q L x) (KpC n₀ bs bn) (fun ys=>ys.map Subtype.val=List.range M) (fun _=>True) M w:=fun l J Jx W hW hJ _ hY h0=>
 chunkP_in m hm b c q L M l bs bn n₀ hq hq2 hN hc hM J Jx W hJ hY (boxed_bl hbs hW) (boxed_bl hbn hW) h0
attribute [local go_sem] Oper.semAt_some
section
variable{W W':World}{row:Option Nat}
theorem arrO4{α:Type}{f:α→Value}{g:Nat}{T:TypeId}{xs:List α}(h:Arr f W g T xs)(hg:W.grownBy W' row)(hr:∀r,row=some r→∃o:Obj,W.heap[r]?=some o∧o.isCells=false):Arr f W' g T xs:=
 h.grown hg (fun e=>by
  obtain⟨o,ho,hn⟩:=hr g e.symm
  have:W.heap[g]?=some (.cells (xs.map f).toArray T (0,0)):=h
  rw[this]at ho;cases ho;cases hn)
theorem boxO4{g:Nat}{T:TypeId}{v:Value}(h:Boxed W g T v)(hg:W.grownBy W' row)(hr:∀r,row=some r→∃o:Obj,W.heap[r]?=some o∧o.isCells=false):Boxed W' g T v:=
 h.kept hg (fun e=>by
  obtain⟨o,ho,hn⟩:=hr g e.symm
  have:W.heap[g]?=some (.cells #[v] T (0,0)):=h
  rw[this]at ho;cases ho;cases hn)
theorem ownO4{α:Type}{f:α→Value}{B E:Nat}{v:Value}{xs:List α}(h:Own f W B E v xs)(hg:W.grownBy W' row)(hr:∀r,row=some r→∃o:Obj,W.heap[r]?=some o∧o.isCells=false):Own f W' B E v xs:=
 h.kept' hg (fun g e hv=>by
  obtain⟨o,ho,hc⟩:=hr g e
  rcases h.2 with⟨rfl,_⟩|⟨g',cap,cur,rfl,_,hg',_⟩
  ·cases hv
  ·obtain rfl:g'=g:=by simpa[Value.ownBlock]using hv
   rw[hg']at ho;cases ho;cases hc)
end
theorem arr_not_own4{α β:Type}{f:α→Value}{f':β→Value}{w:World}{g T B e:Nat}{ys:List β}{v:Value}{xs:List α}(h:Arr f' w g T ys)(hte:T≠e)(hr:Own f w B e v xs):some g≠v.ownBlock:=by
 rcases hr.2 with⟨rfl,_⟩|⟨g',cap,cur,rfl,_,hgb,_⟩
 ·simp[Value.ownBlock]
 ·intro e'
  obtain rfl:g=g':=by simpa[Value.ownBlock]using e'
  have:w.heap[g]?=some (.cells (ys.map f').toArray T (0,0)):=h
  rw[this]at hgb;cases hgb;exact hte rfl
theorem chunkZ_stops(m:Nat)(hm:3≤m)(A:Option Addr)(b c q bs bn n₀:Nat)(w:World)
 (hbs:Boxed w bs 33 (.slice A 0 c))(hbn:Boxed w bn 3 (.int .i64 (q:Int))):
 SeqStopsK Fence.wide m Tryd.prog 73 #[.pointer (some ⟨bs,0,none⟩),.pointer (some ⟨bn,0,none⟩)] (fun x:Cj 0 q=>encJ b q 0 x) (KpC n₀ bs bn) (fun ys=>ys.map Subtype.val=List.range 0) (fun _=>True) 0 w:=fun l J Jx W hW hJ _ hY h0=>by
 have hbs:=boxed_bl hbs hW
 have hbn:=boxed_bl hbn hW
 clear hW
 refine callsIn_of_wp Tryd.func73 rfl trivial ?_ rfl
 simp only[Tryd.ntmps73,List.size_toArray,List.length_cons,List.length_nil,Nat.reduceAdd,Nat.reduceSub,Array.replicate_succ,Array.replicate_zero,List.push_toArray,List.append_toArray,List.nil_append,List.cons_append]
 have H0:=qq h0
 have HBs:=qq hbs
 have hm1:1≤m:=by omega
 have hm2:1≤m-1:=by omega
 clear hJ hY h0 hbs hbn
 gi_wp2_with fail
 gi_loopw [4] (fun v wr=>v= .int .i64 0∧J [] wr∧Boxed wr bs 33 (.slice A 0 c)) (fun v _=>0)
 case atStart=>exact⟨rfl,H0.out,HBs.out⟩
 case round=>
  obtain⟨rfl,hJs,hbs⟩:=hrel
  have cs:=hbs.cell
  gi_wp2_with fail
  go_end0
  exact⟨⟨_,rfl⟩,.inl ⟨[],rfl,hJs⟩⟩
attribute [local go_sem] Oper.semAt_some
def stepK(key text:List (BitVec 8))(h:BitVec 64×BitVec 64×BitVec 64)(k:Nat):BitVec 64×BitVec 64×BitVec 64:=
 timesW (addP h (low8 (padP (pieceOf text k))) (low8 ((padP (pieceOf text k)).drop 8)) (((padP (pieceOf text k)).getD 16 0#8).setWidth 64)) (r0W key) (r1W key)
def foldK(key text:List (BitVec 8))(ks:List Nat):BitVec 64×BitVec 64×BitVec 64:=ks.foldl (stepK key text) (0#64,0#64,0#64)
theorem foldK_snoc(key text:List (BitVec 8))(ks:List Nat)(k:Nat):foldK key text (ks++ [k])=stepK key text (foldK key text ks) k:=by
 unfold foldK;rw[List.foldl_append];exact(Eq.refl (stepK key text (List.foldl (stepK key text) (0#64,0#64,0#64) ks) k))
theorem foldK_range(key text:List (BitVec 8)):∀M,smallW (foldK key text (List.range M))∧v3 (foldK key text (List.range M)) % prm=polyK (rN key) text M
 |0=>by
  have e0:foldK key text (List.range 0)=(0#64,0#64,0#64):=rfl
  rw[e0]
  refine⟨by unfold smallW;decide,?_⟩
  have e:v3 (0#64,0#64,0#64)=0:=rfl
  rw[e,Nat.zero_mod,polyK]
 |M+1=>by
  have ih:=foldK_range key text M
  rw[List.range_succ,foldK_snoc]
  exact polyW_step ih.1 ih.2
theorem end_mark(key text:List (BitVec 8))(hk:key.length=32)(h:BitVec 64×BitVec 64×BitVec 64)(hh:h=foldK key text (List.range ((text.length+15)/16))):
 le8 (endW h (low8 (key.drop 16)) (low8 (key.drop 24))).1++le8 (endW h (low8 (key.drop 16)) (low8 (key.drop 24))).2=markV key text:=by
 have hf:=foldK_range key text ((text.length+15)/16)
 rw[←hh]at hf
 have he:=endW_val h (low8 (key.drop 16)) (low8 (key.drop 24)) hf.1
 rw[hf.2,sN_words key hk]at he
 rw[bytes16_le8,he]
 exact(Eq.refl (markV key text))
theorem size32k:(Tryd.prog.info? 54).map (·.size)=some 32:=by kernel_rfl
def sumW1(w1:World)(r0 r1:BitVec 64):World:=((w1.alloc (.cells #[.int .u64 0,.int .u64 0,.int .u64 0,.int .u64 (bv r0),.int .u64 (bv r1)] 130)).alloc (.cells #[.pointer (some ⟨w1.heap.size,0,none⟩)] 126)).drew
def sumW2(w1:World)(r0 r1:BitVec 64):World:=((w1.alloc (.cells #[.pointer (some ⟨w1.heap.size+1,0,none⟩)] 126)).alloc (.cells #[.int .u64 0,.int .u64 0,.int .u64 0,.int .u64 (bv r0),.int .u64 (bv r1)] 130)).drew
structure MadeS(w1 W:World)(gs gp:Nat)(r0 r1:BitVec 64):Prop where
 s:SumA W gs (0#64,0#64,0#64) r0 r1
 p:Boxed W gp 126 (.pointer (some ⟨gs,0,none⟩))
 b:Below w1.heap.size w1 W
 z:w1.heap.size≤gs∧w1.heap.size≤gp∧gs≠gp∧gs<W.heap.size∧gp<W.heap.size
theorem sumW1_made(w1:World)(r0 r1:BitVec 64)(gs gp:Nat)(h1:w1.heap.size=gs)(h2:w1.heap.size+1=gp):MadeS w1 (sumW1 w1 r0 r1) gs gp r0 r1:=by
 subst h1 h2
 refine⟨?_,?_,((Below.refl w1.heap.size w1).alloc (Nat.le_refl _) _).alloc (by simp) _|>.drew,by simp[sumW1,World.drew];omega⟩
 ·exact Arr.drew (Arr.alloc (Arr.new u64v w1 130 [0#64,0#64,0#64,r0,r1]) _)
 ·have:=Boxed.new (w1.alloc (.cells #[.int .u64 0,.int .u64 0,.int .u64 0,.int .u64 (bv r0),.int .u64 (bv r1)] 130)) 126 (.pointer (some ⟨w1.heap.size,0,none⟩))
  rw[World.size_alloc]at this
  exact this
theorem sumW2_made(w1:World)(r0 r1:BitVec 64)(gs gp:Nat)(h1:w1.heap.size+1=gs)(h2:w1.heap.size=gp):MadeS w1 (sumW2 w1 r0 r1) gs gp r0 r1:=by
 subst h1 h2
 refine⟨?_,?_,((Below.refl w1.heap.size w1).alloc (Nat.le_refl _) _).alloc (by simp) _|>.drew,by simp[sumW2,World.drew];omega⟩
 ·exact Arr.drew (Arr.at_size u64v 130 [0#64,0#64,0#64,r0,r1] (World.size_alloc ..))
 ·exact(Boxed.new w1 126 (.pointer (some ⟨w1.heap.size+1,0,none⟩))).alloc _
structure MkI(gs gp gk go bs bn:Nat)(tv:Value)(key text:List (BitVec 8))(h:BitVec 64×BitVec 64×BitVec 64)(W:World):Prop where
 s:SumA W gs h (r0W key) (r1W key)
 p:Boxed W gp 126 (.pointer (some ⟨gs,0,none⟩))
 k:Arr b8 W gk 54 key
 o:Arr b8 W go 102 (List.replicate 16 0#8)
 t:Own b8 W 0 5 tv text
 s':Boxed W bs 33 tv
 n:Boxed W bn 3 (.int .i64 16)
section
variable{gs gp gk go bs bn:Nat}{tv:Value}{key text:List (BitVec 8)}{h h':BitVec 64×BitVec 64×BitVec 64}{W W':World}
theorem MkI.own{row:Option Nat}(I:MkI gs gp gk go bs bn tv key text h W)(hg:W.grownBy W' row)(hr:∀r,row=some r→∃o:Obj,W.heap[r]?=some o∧o.isCells=false):MkI gs gp gk go bs bn tv key text h W':=
 ⟨arrO4 I.s hg hr,boxO4 I.p hg hr,arrO4 I.k hg hr,arrO4 I.o hg hr,ownO4 I.t hg hr,boxO4 I.s' hg hr,boxO4 I.n hg hr⟩
theorem MkI.step(I:MkI gs gp gk go bs bn tv key text h W)(hs:SumA W' gs h' (r0W key) (r1W key))(hg:W.grownBy W' (some gs))(h1:gp≠gs)(h2:gk≠gs)(h3:go≠gs)(h4:bs≠gs)(h5:bn≠gs):MkI gs gp gk go bs bn tv key text h' W':=
 ⟨hs,I.p.kept hg (by simpa using h1),Arr.grown I.k hg (by simpa using h2),Arr.grown I.o hg (by simpa using h3),I.t.kept hg (.inr fun e=>(arr_not_own4 I.s (by decide) I.t) e.symm),I.s'.kept hg (by simpa using h4),I.n.kept hg (by simpa using h5)⟩
end
set_option maxRecDepth 100000 in
set_option maxHeartbeats 4000000 in
theorem mark_any(w:World)(key:List (BitVec 8))(hk:key.length=32)(B b off c n:Nat)(ps:List Pt)(hp:Pts w B b off ps)(hB:B≤w.heap.size)(hn:n=ps.length)(hn2:n≤100000)(text:List (BitVec 8))(hxs:text=ps.flatMap fun p=>p.2)(htot:text.length≤40000000):
 Calls Tryd.prog 44 #[.agg (key.map b8).toArray,.slice (some ⟨b,off,none⟩) n c] w fun e w'=>e= .returned (.agg ((markV key text).map b8).toArray)∧Below w.heap.size w w':=by
 have HM:=qq (fun h hh=>end_mark key text hk h hh)
 obtain⟨O,hO⟩:∃O,O=markV key text:=⟨_,rfl⟩
 rw[←hO]at HM ⊢
 have HML:=qq (show O.length=16 by rw[hO];exact markV_len _ _)
 clear hO
 have HKl:=qq hk
 have HP:=qq hp
 have HN:=qq hn
 have HX:=qq hxs
 have HT:=qq htot
 have hbl:b<w.heap.size:=hp.lt
 clear hk hp hn hxs htot
 refine(callsIn_wide (n:=9)).1 ?_
 refine callsIn_of_wp_marks Tryd.func44 rfl trivial ?_ rfl
 simp only[Tryd.ntmps44,List.size_toArray,List.length_cons,List.length_nil,Nat.reduceAdd,Nat.reduceSub,Array.replicate_succ,Array.replicate_zero,List.push_toArray,List.append_toArray,List.nil_append,List.cons_append]
 refine wpIn_wide.2 ?_
 go_wp2_with fail
 have HK1:=qq (Arr.alloc (Arr.new b8 w 54 key) (.cells ((List.replicate 16 0#8).map b8).toArray 102))
 have HO1:=qq (Arr.at_size b8 (w:=w.alloc (.cells (key.map b8).toArray 54)) (k:=w.heap.size+1) 102 (List.replicate 16 0#8) (World.size_alloc ..))
 have HB1:=qq (show Below w.heap.size w ((w.alloc (.cells (key.map b8).toArray 54)).alloc (.cells ((List.replicate 16 0#8).map b8).toArray 102))from((Below.refl _ w).alloc (Nat.le_refl _) _).alloc (by simp) _)
 have hz1:((w.alloc (.cells (key.map b8).toArray 54)).alloc (.cells ((List.replicate 16 0#8).map b8).toArray 102)).heap.size=w.heap.size+2:=by simp
 change Code.wp _ _ _ _ ((w.alloc (.cells (key.map b8).toArray 54)).alloc (.cells ((List.replicate 16 0#8).map b8).toArray 102))
 generalize(w.alloc (.cells (key.map b8).toArray 54)).alloc (.cells ((List.replicate 16 0#8).map b8).toArray 102)=w1 at HK1 HO1 HB1 hz1 ⊢
 have hws:w.heap.size+2≤w1.heap.size:=by omega
 clear hz1
 have HP1:=qq (HP.out.below HB1.out hB hbl)
 obtain⟨x0,hx0⟩:∃x,x=low8 key:=⟨_,rfl⟩
 obtain⟨x1,hx1⟩:∃x,x=low8 (key.drop 8):=⟨_,rfl⟩
 have HC0:=qq (show∀W:World,Below w1.heap.size w1 W→Calls Tryd.prog 63 #[.slice (some ⟨w.heap.size,0,none⟩) 32 32] W fun e w'=>e= .returned (.int .u64 (bv x0))∧W=w' from fun W h=>by rw[hx0];exact low_any W _ _ _ _ _ ((HK1.out.below h (by omega)).rd 0) (HKl.out.symm) (by omega))
 have HC1:=qq (show∀W:World,Below w1.heap.size w1 W→Calls Tryd.prog 63 #[.slice (some ⟨w.heap.size,8,none⟩) 24 24] W fun e w'=>e= .returned (.int .u64 (bv x1))∧W=w' from fun W h=>by rw[hx1];exact low_any W _ _ _ _ _ ((HK1.out.below h (by omega)).rd 8) (by rw[List.length_drop,HKl.out]) (by omega))
 have HR0:=qq (show x0&&&1152921487695413247#64=r0W key by rw[hx0];exact(Eq.refl (r0W key)))
 have HR1:=qq (show x1&&&1152921487695413244#64=r1W key by rw[hx1];exact(Eq.refl (r1W key)))
 clear hx0 hx1
 have tok1:True:=trivial
 go_region_held3 (fun _=>True) (trivial)
  (first
   |(go_simp;go_at_call 63;have _t:=tok1;clear tok1;refine(HC0.out _ (by(repeat' (first|assumption|exact Below.refl _ _|refine Below.drew ?_|refine Below.alloc ?_ ?_ _|omega|(simp;done)|(simp;omega))))).mono ?_;rintro e w' ⟨rfl,rfl⟩)
   |(go_simp;go_at_call 63;refine(HC1.out _ (by(repeat' (first|assumption|exact Below.refl _ _|refine Below.drew ?_|refine Below.alloc ?_ ?_ _|omega|(simp;done)|(simp;omega))))).mono ?_;rintro e w' ⟨rfl,rfl⟩))
 all_goals
  first
  |(change Exit.then _ _ _ _ (sumW1 w1 _ _);generalize hgp:w1.heap.size+1=gp;generalize hgs:w1.heap.size=gs;have hm:=sumW1_made w1 (x0&&&1152921487695413247#64) (x1&&&1152921487695413244#64) gs gp hgs hgp;generalize sumW1 w1 (x0&&&1152921487695413247#64) (x1&&&1152921487695413244#64)=w2 at hm ⊢)
  |(change Exit.then _ _ _ _ (sumW2 w1 _ _);generalize hgs:w1.heap.size+1=gs;generalize hgp:w1.heap.size=gp;have hm:=sumW2_made w1 (x0&&&1152921487695413247#64) (x1&&&1152921487695413244#64) gs gp hgs hgp;generalize sumW2 w1 (x0&&&1152921487695413247#64) (x1&&&1152921487695413244#64)=w2 at hm ⊢)
  rw[HR0.out,HR1.out]at hm
  have HS2:=qq hm.s
  have HP2:=qq hm.p
  have HB2:=qq (HB1.out.trans (hm.b.mono HB1.out.size))
  have HPt2:=qq (HP1.out.below hm.b (by omega) (by omega))
  have HK2:=qq (HK1.out.below hm.b (by omega))
  have HO2:=qq (HO1.out.below hm.b (by omega))
  obtain⟨zs1,zs2,zs3,zs4,zs5⟩:=hm.z
  clear hm hgs hgp
  try clear _t
  go_wp2_with fail
  refine(concat_any w2 B b off c n ps HPt2.out (by have:=HB2.out.size;omega) HN.out hn2 (by rw[←HX.out];have:=HT.out;omega)).mono ?_
  rw[←HX.out]
  rintro e w3 ⟨v3,rfl,ho3,hb3⟩
  obtain⟨L,hL⟩:∃L,L=text.length:=⟨_,rfl⟩
  obtain⟨A3,c3,rfl,-,hA3,hc3,hm3⟩:=ho3.shape' hL.symm
  have HS3:=qq (Arr.below HS2.out hb3 zs4:SumA w3 gs _ _ _)
  have HP3:=qq (boxed_bl HP2.out hb3)
  have HK3:=qq (HK2.out.below hb3 (by omega))
  have HO3:=qq (HO2.out.below hb3 (by omega))
  have HB3:=qq (HB2.out.trans (hb3.mono HB2.out.size))
  have HT3:=qq ho3
  have hz3:=hb3.size
  have HL:=qq hL
  have hLb:L≤40000000:=by rw[hL];exact HT.out
  obtain⟨b3,hb3e⟩:∃b3:Nat,0<L→A3=some ⟨b3,0,none⟩:=by
   by_cases h0:0<L
   ·obtain⟨g,cap,e,-,-,-⟩:=ho3.form' hL.symm h0
    cases e;exact⟨g,fun _=>rfl⟩
   ·exact⟨0,fun h=>absurd h h0⟩
  have HA3:=qq hb3e
  clear ho3 hA3 hb3 hL hb3e HS2 HP2 HK2 HO2 HB2 HPt2
  have hch:=chunk_any A3 L c3 16 (by omega) (by omega) w3
  have HCh:=qq (show Calls Tryd.prog 64 #[.slice A3 L c3,.int .i64 16] w3 _ from hch)
  clear hch
  go_wp2_with fail
  refine HCh.out.mono ?_
  rintro e w4 ⟨rfl,rfl⟩
  go_wp2_with fail
  obtain⟨M,hM⟩:∃M,M=(L+15)/16:=⟨_,rfl⟩
  have HMe:=qq (show M=(text.length+15)/16 by rw[hM,HL.out])
  generalize hW4:World.alloc (World.alloc w3 _) _=W4
  have hI4:MkI gs gp w.heap.size (w.heap.size+1) w3.heap.size (w3.heap.size+1) (.slice A3 L c3) key text (foldK key text ([]:List Nat)) W4∧Below w.heap.size w W4∧W4.heap.size=w3.heap.size+2:=by
   rw[←hW4]
   refine⟨⟨(Arr.alloc HS3.out _).alloc _,(HP3.out.alloc _).alloc _,(HK3.out.alloc _).alloc _,(HO3.out.alloc _).alloc _,((HT3.out.less (Nat.zero_le _)).alloc _).alloc _,?_,?_⟩,?_,by simp⟩
   ·exact(Boxed.new w3 33 _).alloc _
   ·have:=Boxed.new (w3.alloc (.cells #[.slice A3 L c3] 33)) 3 (.int .i64 16)
    rw[World.size_alloc]at this
    exact this
   ·exact(HB3.out.alloc (HB3.out.size) _).alloc (by have:=HB3.out.size;simp;omega) _
  obtain⟨hI4,hB4,hz4⟩:=hI4
  have hst:SeqStopsK Fence.wide 8 Tryd.prog 73 #[.pointer (some ⟨w3.heap.size,0,none⟩),.pointer (some ⟨w3.heap.size+1,0,none⟩)] (fun x:Cj L 16=>encJ b3 16 L x) (KpC w.heap.size w3.heap.size (w3.heap.size+1)) (fun ys=>ys.map Subtype.val=List.range M) (fun _=>True) M W4:=by
   by_cases h0:0<L
   ·have hs':=hI4.s'
    rw[HA3.out h0]at hs'
    exact chunkP_stops 8 (by omega) b3 c3 16 L M w3.heap.size (w3.heap.size+1) w.heap.size (by omega) (by omega) (by omega) hc3 (by omega) W4 hs' hI4.n
   ·obtain rfl:L=0:=by omega
    obtain rfl:M=0:=by omega
    exact chunkZ_stops 8 (by omega) A3 b3 c3 16 w3.heap.size (w3.heap.size+1) w.heap.size W4 hI4.s' hI4.n
  have HI4:=qq hI4
  have HB4:=qq hB4
  have HZ4:=qq hz4
  have HSt:=qq hst
  have hwz:w.heap.size+2≤w1.heap.size:=hws
  have hzz:w1.heap.size≤w3.heap.size:=by omega
  clear hW4 HS3 HP3 HK3 HO3 HT3 HB3 HCh hI4 hB4 hz4 hst hM
  refine(wpIn_wide (n:=9)).1 ?_
  refine wpIn_rangeFunc_ownF rfl (by omega) (gf:=73) (lb:= #[.pointer (some ⟨w3.heap.size,0,none⟩),.pointer (some ⟨w3.heap.size+1,0,none⟩)]) rfl trivial (enters_of Tryd.func73 (by kernel_rfl) rfl)
   HSt.out
   KpC.t (fun W l o o' hl ho hc hw=>⟨(Below.refl _ W).grown (grownBy_putObj' W l o') (by have:=(Array.getElem?_eq_some_iff.1 ho).1;have:=HZ4.out;omega) (fun k e=>by cases e;have:=HZ4.out;omega),World.putObj_heap_other (by have:=HZ4.out;omega),World.putObj_heap_other (by have:=HZ4.out;omega)⟩) (Below.refl _ _) (fun _=>rfl)
   (fun pre W=>MkI gs gp w.heap.size (w.heap.size+1) w3.heap.size (w3.heap.size+1) (.slice A3 L c3) key text (foldK key text (pre.map Subtype.val)) W∧Below w.heap.size w W)
   (fun _ _ _=>False)
   (OwnFrom.and (Go.Own.from (fun s A' B' row hs hg hr=>hs.own hg hr) _) (ownFrom_below (Nat.le_refl _) (by have:=HZ4.out;omega)))
   (fun c s A' B' row hs hg hr=>hs)
   ⟨HI4.out,HB4.out⟩
   (fun x=> {tmps:= #[.agg (key.map b8).toArray,.slice (some ⟨b,off,none⟩) n c,.pointer (some ⟨w.heap.size,0,none⟩),undef,.pointer (some ⟨w.heap.size+1,0,none⟩),.pointer (some ⟨gp,0,none⟩),.slice (some ⟨b3,16*x.1,none⟩) (min 16 (L-16*x.1)) (min 16 (L-16*x.1)),.slice (some ⟨w.heap.size,0,none⟩) 32 32,.int .u64 (bv x0),.int .u64 (bv (x0&&&1152921487695413247#64)),.slice (some ⟨w.heap.size,8,none⟩) 24 24,.int .u64 (bv x1),.int .u64 (bv (x1&&&1152921487695413244#64)),.agg #[.int .u64 0,.int .u64 0,.int .u64 0,.int .u64 (bv (x0&&&1152921487695413247#64)),.int .u64 (bv (x1&&&1152921487695413244#64))],.pointer (some ⟨gs,0,none⟩),.slice (some ⟨b,off,none⟩) n c,.slice A3 L c3,.func (.func 73) #[] #[.pointer (some ⟨w3.heap.size,0,none⟩),.pointer (some ⟨w3.heap.size+1,0,none⟩)],.slice (some ⟨b3,16*x.1,none⟩) (min 16 (L-16*x.1)) (min 16 (L-16*x.1)),undef,undef,undef,undef,undef,undef],defers:=[]}) ?_ ?_ ?_ ?_
  ·
   intro l x W K hK
   simp only[encJ,List.zip_toArray,List.zip_cons_cons,List.zip_nil_right,List.zip_nil_left,List.foldl_toArray',List.foldl_toArray,List.foldl_cons,List.foldl_nil,qj,qz,qv]
   gi_wp2
   exact hK
  ·
   rintro l pre x W ⟨hI,hB⟩ hN
   have hx:=x.2
   obtain⟨k,hk⟩:∃k,k=x.1:=⟨_,rfl⟩
   obtain⟨q,hq⟩:∃q,q=16*k:=⟨_,rfl⟩
   obtain⟨P,hP⟩:∃P,P=min 16 (L-q):=⟨_,rfl⟩
   have HKx:=qq hk
   rw[←hk]at hx
   have e3:=HA3.out (by omega)
   obtain⟨p0,p1,p2,hp⟩:∃p0 p1 p2,foldK key text (pre.map Subtype.val)=(p0,p1,p2):=⟨_,_,_,rfl⟩
   have hadd:=addp_any W gs p0 p1 p2 (r0W key) (r1W key) (by have:=hI.s;rw[hp]at this;exact this) W.heap.size P P (some ⟨b3,q,none⟩) (pieceOf text k) (by
    have h:=(hI.t.rd.drop q).take 16
    have e:pieceOf text k=(text.drop q).take 16:=by unfold pieceOf;rw[hq]
    rw[e]
    have eA:(Addr.mk b3 0 none).add q=⟨b3,q,none⟩:=by by_cases h:q=0<;>simp[Addr.add,h]
    rw[e3,Option.map_some,eA]at h
    exact h) (Nat.le_refl _) (by unfold pieceOf;rw[List.length_take,List.length_drop,←HL.out];omega) (by omega)
   have hsn:=foldK_snoc key text (pre.map Subtype.val) k
   rw[hp]at hsn
   have HA:=qq (show Calls Tryd.prog 65 #[.pointer (some ⟨gs,0,none⟩),.slice (some ⟨b3,q,none⟩) P P] W fun e w'=>(∃v,e= .returned v)∧SumA w' gs (foldK key text (pre.map Subtype.val++ [k])) (r0W key) (r1W key)∧W.grownBy w' (some gs)from hadd.mono fun e w' h=>⟨h.1,by rw[hsn];exact h.2.1,h.2.2⟩)
   have HI:=qq hI
   have HB:=qq hB
   have cp:=hI.p.cell
   simp only[←hk,←hq,←hP]
   clear hI hB hp hadd hsn hx hk hP hq e3 hN
   gi_wp2_with fail
   refine⟨trivial,?_⟩
   refine(CallsIn.inRound l (callsIn_wide.2 HA.out)).mono ?_
   rintro e W2 ⟨⟨v,rfl⟩,hs2,hg2⟩
   have HS2:=qq hs2
   have HG2:=qq hg2
   have hz2:=hg2.size
   clear hs2 hg2
   gi_wp2_with fail
   have hbw:Below w.heap.size W W2:=(Below.refl _ W).grown HG2.out HB.out.size (fun k e=>by cases e;omega)
   have hi2:=HI.out.step HS2.out HG2.out (by omega) (by omega) (by omega) (by omega) (by omega)
   refine⟨?_,⟨hbw,HG2.out.block _ HI.out.s'.lt (by simp;omega),HG2.out.block _ HI.out.n.lt (by simp;omega)⟩,?_,HB.out.trans hbw⟩
   ·refine KeepsOthers.of_grownBy HG2.out (fun j o e ho=>?_)
    cases e
    have:W.heap[gs]?=some (.cells _ _ (0,0)):=HI.out.s
    rw[this]at ho;cases ho;rfl
   ·rw[List.map_append,List.map_cons,List.map_nil,←HKx.out];exact hi2
  ·
   rintro D ys W hD hys ⟨hI,hB⟩ hK
   rw[hys]at hI
   obtain⟨p0,p1,p2,hp⟩:∃p0 p1 p2,foldK key text (List.range M)=(p0,p1,p2):=⟨_,_,_,rfl⟩
   have HMk:=qq (HM.out (p0,p1,p2) (by rw[←HMe.out,hp]))
   rw[hp]at hI
   have HI:=qq hI
   have HB:=qq hB
   have HK:=qq hK
   have cp:=hI.p.cell
   clear hI hB hK hp hys
   go_wp2_with (refine wpList_load_arr rfl 54 (.tmp 2) rfl w.heap.size rfl _ key HI.out.k _ Tryd.underlying54 rfl (by rw[HKl.out];exact size32k) ?_)
   have hE:=polyEnd_any W gs p0 p1 p2 (r0W key) (r1W key) HI.out.s key HKl.out
   rw[HMk.out]at hE
   have HE:=qq hE
   clear hE
   refine HE.out.mono ?_
   rintro e W2 ⟨rfl,hb2⟩
   have hDl:D<W.heap.size:=(Array.getElem?_eq_some_iff.1 HK.out).1
   have hK2:W2.heap[D]?=some (.deferred (some [])):=(hb2.block D hDl).trans HK.out
   have HO2:=qq (HI.out.o.below hb2 (by have:=HI.out.o.lt;omega))
   have HB2:=qq (HB.out.trans (hb2.mono HB.out.size))
   have hDz:D≠w.heap.size+1:=by have:=HZ4.out;omega
   have hDw:w.heap.size≤D:=by have:=HZ4.out;omega
   have HK2:=qq hK2
   clear hb2 HE hK2 HI HB HK
   go_wp2_with (refine wpList_store_arr rfl 102 (.tmp 4) (.tmp 24) rfl (w.heap.size+1) rfl O rfl _ _ HO2.out (by rw[HML.out];rfl) (by rw[size16e,HML.out]) b8_one' ?_;intro w9 hx9 hg9)
   have hK9:w9.heap[D]?=some (.deferred (some [])):=(hg9.block D (Array.getElem?_eq_some_iff.1 HK2.out).1 (by simpa using hDz)).trans HK2.out
   have hb9:Below w.heap.size w w9:=HB2.out.grown hg9 HB2.out.size (fun k e=>by cases e;omega)
   refine⟨by simp,.inl ⟨_,_,rfl,run_takeDeferred hK9,?_⟩⟩
   have hx10:=arrO4 hx9 (grownBy_putObj' _ D (.deferred none)) (fun r e=>by cases e;exact⟨_,hK9,rfl⟩)
   refine⟨_,results_arr (g:=w.heap.size+1) rfl _ _ _ _ _ rfl hx10 Tryd.underlying102 rfl (by rw[size16e,HML.out]),?_,?_⟩
   ·rfl
   ·exact hb9.trans (belowK_b (w:=w) (Nat.le_refl _) _ D _ _ hDw hK9 rfl rfl)
  ·rintro D c' pre W hD hpre h hK
   exact h.elim
end Go.Proofs.YtelgjaiknaalkaaDoor
