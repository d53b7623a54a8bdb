/- Lemmas, joined and made smaller by a program. -/
import Derived.Test.YtelgjaiknaalkaaDoorPo16
import Derived.Test.YtelgjaiknaalkaaDoorPo17
import Derived.Deep.Cut
import Derived.Test.YtelgjaiknaalkaaDoorPo02
import Derived.OwnWalk
import Derived.Great.BuildSlice
import Derived.Laws.AppendOwnNone
import Derived.Test.YtelgjaiknaalkaaDoorPo10
import Derived.Test.YtelgjaiknaalkaaDoorPo07
import Derived.Lib.AppendStr
import Derived.Test.YtelgjaiknaalkaaDoorPo11
open Go.Lib renaming hid → qq
open List renaming setIfInBounds_toArray → qj
open List renaming set_cons_zero → qz
open List renaming set_cons_succ → qv
set_option linter.unusedVariables false
set_option linter.unusedSimpArgs false
namespace Go.Proofs.YtelgjaiknaalkaaDoor
open Go.RowKit
def secs:Nat→List (BitVec 8)→List (List (BitVec 8))
 |0,s=> [s]
 |k+1,s=>secs k (derV s lLeft)++secs k (derV s lRight)
theorem secs_len(k:Nat):∀s,(secs k s).length=2^k:=by
 induction k with
 |zero=>intro s;rfl
 |succ k ih=>intro s;simp only[secs,List.length_append,ih];rw[Nat.pow_succ];omega
theorem secs_32(k:Nat):∀s:List (BitVec 8),s.length=32→∀z∈secs k s,z.length=32:=by
 induction k with
 |zero=>intro s hs z hz;simp only[secs,List.mem_singleton]at hz;subst hz;exact hs
 |succ k ih=>
  intro s hs z hz
  simp only[secs,List.mem_append]at hz
  rcases hz with h|h
  ·exact ih _ (derV_len _ _) z h
  ·exact ih _ (derV_len _ _) z h
def leafC(s:List (BitVec 8))(g:Nat):List Value:=lineC false 0 0#64 s 0 (.map (some g))
def leavesC(ss:List (List (BitVec 8)))(gs:List Nat):List Value:=(List.zipWith leafC ss gs).flatten
theorem leavesC_app(a b:List (List (BitVec 8)))(g h:List Nat)(hl:a.length=g.length):leavesC (a++b) (g++h)=leavesC a g++leavesC b h:=by
 unfold leavesC
 rw[List.zipWith_append hl,List.flatten_append]
theorem leavesC_len:∀(ss:List (List (BitVec 8))) (gs:List Nat),(∀z∈ss,z.length=32)→ss.length=gs.length→(leavesC ss gs).length=37*ss.length
 | [],[],_,_=>rfl
 |s::ss,g::gs,h,hl=>by
  have ih:=leavesC_len ss gs (fun z hz=>h z (by simp[hz])) (by simpa using hl)
  unfold leavesC at ih ⊢
  rw[List.zipWith_cons_cons,List.flatten_cons,List.length_append,ih,List.length_cons]
  show(lineC false 0 0#64 s 0 (.map (some g))).length+_=_
  rw[lineC_len _ _ _ _ _ _ (h s (by simp))];omega
set_option maxRecDepth 100000 in
theorem built_line(s:List (BitVec 8))(h:s.length=32)(m:Option Nat):Tryd.prog.built 77 [(1,.agg (s.map b8).toArray),(3,.map m)]=some (lineC false 0 0#64 s 0 (.map m)).toArray:=by
 obtain⟨x0,x1,x2,x3,x4,x5,x6,x7,x8,x9,x10,x11,x12,x13,x14,x15,x16,x17,x18,x19,x20,x21,x22,x23,x24,x25,x26,x27,x28,x29,x30,x31,rfl⟩:=list_of32 h
 kernel_rfl
def nodeX(k a:Nat):Nat:=2*a+2^k-1
theorem kids:∀k:Nat,k≤5→∀q:Nat,q≤32→(q+1)*2^k≤32→(if k=0 then childL (nodeX k (q*2^k):Int)= -1 else childL (nodeX k (q*2^k):Int)=(nodeX (k-1) (q*2^k):Int)∧childR (nodeX k (q*2^k):Int)=(nodeX (k-1) (q*2^k+2^(k-1)):Int)):=by decide+kernel
theorem Tab.grown{w w':World}{g:Nat}(h:Tab w)(hb:w.grownBy w' (some g))(hg:1≠g):Tab w':=fun j hj=>(World.cell?_of_block (a:=⟨1,j,none⟩) (hb.block 1 h.lt (fun e=>by injection e with e;exact hg e))).trans (h j hj)
set_option maxRecDepth 100000 in
set_option maxHeartbeats 4000000 in
theorem grow_leaf(w:World)(hT:Tab w)(gl n a:Nat)(s:List (BitVec 8))(hs:s.length=32)(pre mid post:List Value)(hB:Blk w gl 77 (pre++(mid++post)))(hpre:pre.length=a*37)(hmid:mid.length=37)(han:a<n)(hn:n≤32)(hg1:1<gl):
 Calls Tryd.prog 25 #[arrV b8 s,.int .i64 (nodeX 0 a:Int),.slice (some ⟨gl,0,none⟩) n n] w fun e w'=>e= .returned (.tuple #[])∧∃gm,Blk w' gl 77 (pre++(leafC s gm++post))∧MapO w' gm []∧w.heap.size≤gm∧w.grownBy w' (some gl):=by
 have hk:=kids 0 (by decide) a (by omega) (by omega)
 simp only[if_true,Nat.pow_zero,Nat.mul_one]at hk
 have hx0:nodeX 0 a=2*a:=by unfold nodeX;omega
 rw[hx0]at hk ⊢
 have HS:=qq hs
 have HA0:=qq (Arr.new b8 w 29 s)
 have HB0:=qq (hB.alloc (.cells (s.map b8).toArray 29))
 have HT0:=qq (hT.below ((Below.refl _ w).alloc (Nat.le_refl _) (.cells (s.map b8).toArray 29)))
 have HG0:=qq ((Below.refl w.heap.size w).alloc (Nat.le_refl _) (.cells (s.map b8).toArray 29))
 have hz0:(w.alloc (.cells (s.map b8).toArray 29)).heap.size=w.heap.size+1:=by simp
 have hgl:=hB.lt
 rw[arrV_mk]
 clear hs hB hT
 go_enter Tryd.func25,Tryd.ntmps25
 go_upto_region 1 with fail
 generalize w.alloc (.cells (s.map b8).toArray 29)=w1 at HA0 HB0 HT0 HG0 hz0 ⊢
 have HC:=qq (children_any ((2*a:Nat):Int) (by omega) w1 HT0.out)
 go_wp2_with fail
 refine HC.out.mono ?_
 rintro e w2 ⟨rfl,rfl⟩
 rw[hk]
 have hmm:=@run_makeMap Tryd.prog
 have hq1:(2*(a:Int)).tdiv 2=(a:Int):=by rw[Int.mul_comm,Int.mul_tdiv_cancel _ (by decide)]
 have hq2:(2*(a:Int))/2=(a:Int):=by omega
 have h2:(0:Int)≤(a:Int):=by omega
 have h3:(a:Int)<(n:Int):=by omega
 have HM2:=qq (show Blk (w1.alloc (.map #[] 0)) gl 77 (pre++(mid++post))from HB0.out.alloc _)
 have HN2:=qq (show MapO (w1.alloc (.map #[] 0)) (w.heap.size+1) [] by rw[←hz0];exact MapO.new _)
 go_upto_region 3 with fail
 go_wp2_with (first
  |(refine wpList_load_arr rfl 29 (.tmp 3) rfl w.heap.size rfl _ s HA0.out _ Tryd.underlying29 rfl (by rw[size32,HS.out]) ?_)
  |(refine wpList_bparts rfl 77 [(1,.tmp 18),(3,.tmp 19)] rfl _ [(1,.agg (s.map b8).toArray),(3,.map (some (w.heap.size+1)))] rfl (built_line s HS.out (some (w.heap.size+1))) ?_)
  |(refine wpList_store_piece rfl 77 (.tmp 21) (.tmp 20) rfl gl (a*37) rfl (leafC s (w.heap.size+1)) rfl 77 _ pre mid post HM2.out rfl hpre (by unfold leafC;rw[hmid,lineC_len _ _ _ _ _ _ HS.out]) (by unfold leafC;rw[sizeLine,lineC_len _ _ _ _ _ _ HS.out]) (lineC_one rfl) ?_;intro w3 hx3 hg3))
 refine bodyPost_ret (results_none rfl _ _ _) rfl ?_
 have hg1:w.grownBy w1 (some gl):=⟨HG0.out.os,HG0.out.tape,HG0.out.output,HG0.out.size,fun k hk _=>HG0.out.block k hk⟩
 have hg2:=World.grownBy_alloc w1 (.map #[] 0) none
 refine⟨rfl,w.heap.size+1,hx3,HN2.out.kept hg3 (fun e=>by injection e with e;omega),by omega,⟨hg3.os.trans (hg2.os.trans hg1.os),hg3.tape.trans (hg2.tape.trans hg1.tape),hg3.output.trans (hg2.output.trans hg1.output),Nat.le_trans hg1.size (Nat.le_trans hg2.size hg3.size),fun k hk hne=>?_⟩⟩
 exact((hg3.block k (by simp;omega) hne).trans (hg2.block k (by omega) (by simp))).trans (hg1.block k hk hne)
set_option maxRecDepth 100000 in
set_option maxHeartbeats 4000000 in
theorem grow_any:∀(k:Nat),k≤5→∀(w:World) (hT:Tab w) (gl n q:Nat) (s:List (BitVec 8)) (hs:s.length=32) (pre mid post:List Value) (hB:Blk w gl 77 (pre++(mid++post))) (hpre:pre.length=q*2^k*37) (hmid:mid.length=37*2^k)
 (hqn:(q+1)*2^k≤n) (hn:n≤32) (hg1:1<gl),
 Calls Tryd.prog 25 #[arrV b8 s,.int .i64 (nodeX k (q*2^k):Int),.slice (some ⟨gl,0,none⟩) n n] w fun e w'=>e= .returned (.tuple #[])∧∃gms:List Nat,gms.length=2^k∧Blk w' gl 77 (pre++(leavesC (secs k s) gms++post))∧
  (∀g∈gms,MapO w' g []∧w.heap.size≤g)∧gms.Nodup∧w.grownBy w' (some gl)
 |0,_,w,hT,gl,n,q,s,hs,pre,mid,post,hB,hpre,hmid,hqn,hn,hg1=>by
  simp only[Nat.pow_zero,Nat.mul_one]at hpre hmid hqn ⊢
  refine(grow_leaf w hT gl n q s hs pre mid post hB hpre hmid (by omega) hn hg1).mono ?_
  rintro e w' ⟨rfl,gm,hb,hm,hge,hg⟩
  refine⟨rfl,[gm],rfl,?_,fun g hg'=>by rw[List.mem_singleton]at hg';subst hg';exact⟨hm,hge⟩,by simp,hg⟩
  have e:leavesC (secs 0 s) [gm]=leafC s gm:=by simp[leavesC,secs]
  rw[e];exact hb
 |k+1,hk,w,hT,gl,n,q,s,hs,pre,mid,post,hB,hpre,hmid,hqn,hn,hg1=>by
  have e2:2^(k+1)=2*2^k:=by rw[Nat.pow_succ,Nat.mul_comm]
  have hkid:=kids (k+1) hk q (by have:1≤2^(k+1):=Nat.one_le_two_pow;have:q+1≤(q+1)*2^(k+1):=Nat.le_mul_of_pos_right _ (by omega);omega) (by omega)
  rw[if_neg (by omega)]at hkid
  simp only[Nat.add_sub_cancel]at hkid
  have ql:q*2^(k+1)=2*q*2^k:=by rw[e2,←Nat.mul_assoc,Nat.mul_comm q 2]
  have qr:q*2^(k+1)+2^k=(2*q+1)*2^k:=by rw[ql,Nat.add_mul,Nat.one_mul]
  have hp0:1≤2^k:=Nat.one_le_two_pow
  obtain⟨P,hP⟩:∃P,P=2^k:=⟨_,rfl⟩
  have hq1:(q+1)*2^(k+1)=q*2^(k+1)+2^(k+1):=by rw[Nat.add_mul,Nat.one_mul]
  obtain⟨X,hX⟩:∃X,X=nodeX (k+1) (q*2^(k+1)):=⟨_,rfl⟩
  obtain⟨XL,hXL⟩:∃XL,XL=nodeX k (q*2^(k+1)):=⟨_,rfl⟩
  obtain⟨XR,hXR⟩:∃XR,XR=nodeX k (q*2^(k+1)+2^k):=⟨_,rfl⟩
  have hXs:X<1000:=by rw[hX];unfold nodeX;omega
  rw[←hX,←hXL,←hXR]at hkid
  obtain⟨L,hL⟩:∃L,L=derV s lLeft:=⟨_,rfl⟩
  obtain⟨R,hR⟩:∃R,R=derV s lRight:=⟨_,rfl⟩
  have HLl:=qq (show L.length=32 by rw[hL];exact derV_len _ _)
  have HRl:=qq (show R.length=32 by rw[hR];exact derV_len _ _)
  have hbl:(2*q+1)*2^k≤n:=by
   have h9:(2*q+1)*2^k=2*q*2^k+2^k:=by rw[Nat.add_mul,Nat.one_mul]
   omega
  have hbr:(2*q+1+1)*2^k≤n:=by
   have h9:(2*q+1+1)*2^k=(2*q+1)*2^k+2^k:=by rw[Nat.add_mul,Nat.one_mul]
   omega
  have ihl:=fun(w':World) (hT':Tab w') (pre mid post:List Value) (hB':Blk w' gl 77 (pre++(mid++post))) (h1:pre.length=2*q*2^k*37) (h2:mid.length=37*2^k)=>grow_any k (by omega) w' hT' gl n (2*q) L HLl.out pre mid post hB' h1 h2 hbl hn hg1
  have ihr:=fun(w':World) (hT':Tab w') (pre mid post:List Value) (hB':Blk w' gl 77 (pre++(mid++post))) (h1:pre.length=(2*q+1)*2^k*37) (h2:mid.length=37*2^k)=>grow_any k (by omega) w' hT' gl n (2*q+1) R HRl.out pre mid post hB' h1 h2 hbr hn hg1
  rw[←ql,←hXL,arrV_mk]at ihl
  rw[←qr,←hXR,arrV_mk]at ihr
  have HIl:=qq ihl
  have HIr:=qq ihr
  have HLe:=qq hL
  have HRe:=qq hR
  have HS:=qq hs
  have HPre:=qq hpre
  have HMid:=qq hmid
  have HE2:=qq e2
  have HQr:=qq qr
  have HA0:=qq (Arr.new b8 w 29 s)
  have HB0:=qq (hB.alloc (.cells (s.map b8).toArray 29))
  have HT0:=qq (hT.below ((Below.refl _ w).alloc (Nat.le_refl _) (.cells (s.map b8).toArray 29)))
  have HG0:=qq ((Below.refl w.heap.size w).alloc (Nat.le_refl _) (.cells (s.map b8).toArray 29))
  have hz0:(w.alloc (.cells (s.map b8).toArray 29)).heap.size=w.heap.size+1:=by simp
  have hgl:=hB.lt
  rw[arrV_mk,←hX]
  clear hs hB hT ihl ihr hL hR hX hXL hXR hP hpre hmid e2 ql qr hq1 hqn hbl hbr
  go_enter Tryd.func25,Tryd.ntmps25
  go_upto_region 1 with fail
  generalize w.alloc (.cells (s.map b8).toArray 29)=w1 at HA0 HB0 HT0 HG0 hz0 ⊢
  have HC:=qq (children_any (X:Int) (by omega) w1 HT0.out)
  go_wp2_with fail
  refine HC.out.mono ?_
  rintro e w2 ⟨rfl,rfl⟩
  rw[hkid.1,hkid.2]
  have hl0:¬((XL:Int)<0):=by omega
  clear hkid
  have hdl:=derive_any w1 s HS.out ⟨#[108,101,102,116]⟩ lLeft strLeft (by decide)
  rw[arrV_mk,arrV_mk,←HLe.out]at hdl
  have HDl:=qq hdl
  clear hdl
  go_wp2_with (refine wpList_load_arr rfl 29 (.tmp 3) rfl w.heap.size rfl _ s HA0.out _ Tryd.underlying29 rfl (by rw[size32,HS.out]) ?_)
  refine HDl.out.mono ?_
  rintro e w2 ⟨rfl,hb2⟩
  have HB2:=qq (HB0.out.below hb2 (by omega))
  have HT2:=qq (HT0.out.below hb2)
  have HA2:=qq (HA0.out.below hb2 (by omega))
  have hz2:=hb2.size
  have HG2:=qq (show Below w.heap.size w w2 from HG0.out.trans (hb2.mono (by omega)))
  obtain⟨m1,m2,hm12,hm1,hm2⟩:∃m1 m2:List Value,mid=m1++m2∧m1.length=37*2^k∧m2.length=37*2^k:=by
   have h1:=HMid.out
   have h2:=HE2.out
   exact⟨mid.take (37*2^k),mid.drop (37*2^k),(List.take_append_drop _ _).symm,by rw[List.length_take];omega,by rw[List.length_drop];omega⟩
  subst hm12
  have HM1:=qq hm1
  have HM2:=qq hm2
  have hgr:=HIl.out w2 HT2.out pre m1 (m2++post) (HB2.out.cast (by simp)) HPre.out hm1
  have HGr:=qq hgr
  clear hb2 hm1 hm2 hgr
  go_wp2_with fail
  refine HGr.out.mono ?_
  rintro e w3 ⟨rfl,g1,hg1l,hB3,hM3,hN3,hg3⟩
  have HB3:=qq hB3
  have HM3:=qq hM3
  have HN3:=qq hN3
  have HL3:=qq hg1l
  have HT3:=qq (HT2.out.grown hg3 (by omega))
  have HA3:=qq (HA2.out.grown hg3 (fun e=>by injection e with e;omega))
  have hz3:=hg3.size
  have HG3:=qq (show w.grownBy w3 (some gl)from grownBy_trans ⟨HG2.out.os,HG2.out.tape,HG2.out.output,HG2.out.size,fun k hk _=>HG2.out.block k hk⟩ hg3 (fun _ e=> .inl e))
  have hdr:=derive_any w3 s HS.out ⟨#[114,105,103,104,116]⟩ lRight strRight (by decide)
  rw[arrV_mk,arrV_mk,←HRe.out]at hdr
  have HDr:=qq hdr
  clear hdr hB3 hM3 hN3 hg3 hg1l
  go_wp2_with (refine wpList_load_arr rfl 29 (.tmp 3) rfl w.heap.size rfl _ s HA3.out _ Tryd.underlying29 rfl (by rw[size32,HS.out]) ?_)
  refine HDr.out.mono ?_
  rintro e w4 ⟨rfl,hb4⟩
  have HB4:=qq (HB3.out.below hb4 (by omega))
  have HT4:=qq (HT3.out.below hb4)
  have hz4:=hb4.size
  have HM4:=qq (show∀g∈g1,MapO w4 g []∧w2.heap.size≤g from fun g hg=>⟨(HM3.out g hg).1.below hb4 (HM3.out g hg).1.lt,(HM3.out g hg).2⟩)
  have HG4:=qq (below_grown HG3.out hb4)
  have HLt:=qq (show∀g∈g1,g<w3.heap.size from fun g hg=>(HM3.out g hg).1.lt)
  have hs1:(secs k L).length=g1.length:=by rw[secs_len,HL3.out]
  have hgr:=HIr.out w4 HT4.out (pre++leavesC (secs k L) g1) m2 post (HB4.out.cast (by simp)) (by
   rw[List.length_append,HPre.out,leavesC_len _ _ (secs_32 k L HLl.out) hs1,secs_len,Nat.add_mul,Nat.mul_comm 37]) HM2.out
  have HGr:=qq hgr
  have HS1:=qq hs1
  clear hb4 hgr hs1
  go_wp2_with fail
  refine HGr.out.mono ?_
  rintro e w5 ⟨rfl,g2,hg2l,hB5,hM5,hN5,hg5⟩
  have HB5:=qq hB5
  have HM5:=qq hM5
  have HN5:=qq hN5
  have HG5:=qq hg5
  have HL5:=qq hg2l
  clear hB5 hM5 hN5 hg5 hg2l
  go_wp2_with fail
  refine bodyPost_end (results_none rfl _ _ _) rfl ?_
  refine⟨rfl,g1++g2,by rw[List.length_append,HL3.out,HL5.out,HE2.out];omega,?_,?_,?_,grownBy_trans HG4.out HG5.out (fun _ e=> .inl e)⟩
  ·rw[show secs (k+1) s=secs k L++secs k R from by rw[HLe.out,HRe.out];rfl,leavesC_app _ _ _ _ HS1.out]
   exact HB5.out.cast (by simp)
  ·intro g hg
   rcases List.mem_append.1 hg with h|h
   ·exact⟨(HM4.out g h).1.kept HG5.out (fun e=>by injection e with e;have:=(HM4.out g h).2;omega),by have:=(HM4.out g h).2;omega⟩
   ·exact⟨(HM5.out g h).1,by have:=(HM5.out g h).2;omega⟩
  ·refine List.nodup_append.2 ⟨HN3.out,HN5.out,fun a ha b hb e=>?_⟩
   subst e
   have h1:=HLt.out a ha
   have h2:=(HM5.out a hb).2
   omega
def mkL(ss:List (List (BitVec 8)))(gs:List Nat):List LP:=List.zipWith (fun s g=>⟨startL s,[],g,false,0,0#64,[]⟩) ss gs
theorem mkL_cells:∀(ss:List (List (BitVec 8))) (gs:List Nat),(mkL ss gs).flatMap LP.cells=leavesC ss gs
 | [],_=>rfl
 |_::_,[]=>rfl
 |s::ss,g::gs=>by
  have ih:=mkL_cells ss gs
  unfold mkL leavesC at ih ⊢
  rw[List.zipWith_cons_cons,List.zipWith_cons_cons,List.flatMap_cons,List.flatten_cons,ih]
  rfl
theorem mkL_mem:∀(ss:List (List (BitVec 8))) (gs:List Nat) (x:LP),x∈mkL ss gs→∃s∈ss,∃g∈gs,x=⟨startL s,[],g,false,0,0#64,[]⟩
 | [],_,x,h=>by cases h
 |_::_,[],x,h=>by cases h
 |s::ss,g::gs,x,h=>by
  unfold mkL at h
  rw[List.zipWith_cons_cons]at h
  rcases List.mem_cons.1 h with rfl|h
  ·exact⟨s,by simp,g,by simp,rfl⟩
  ·obtain⟨s',h1,g',h2,e⟩:=mkL_mem ss gs x h
   exact⟨s',by simp[h1],g',by simp[h2],e⟩
theorem mkL_gms:∀(ss:List (List (BitVec 8))) (gs:List Nat),ss.length=gs.length→(mkL ss gs).map LP.gm=gs
 | [],[],_=>rfl
 |s::ss,g::gs,h=>by
  have ih:=mkL_gms ss gs (by simpa using h)
  unfold mkL at ih ⊢
  rw[List.zipWith_cons_cons,List.map_cons,ih]
theorem mkL_len(ss:List (List (BitVec 8)))(gs:List Nat)(h:ss.length=gs.length):(mkL ss gs).length=ss.length:=by unfold mkL;rw[List.length_zipWith,h,Nat.min_self]
theorem mkL_blks(ss:List (List (BitVec 8)))(gs:List Nat):(mkL ss gs).flatMap (fun x=>x.hp.map Prod.snd)=[]:=by
 rw[List.flatMap_eq_nil_iff]
 intro x hx
 obtain⟨s,_,g,_,rfl⟩:=mkL_mem ss gs x hx
 rfl
def zerosL(n:Nat):List Value:=(madeCells zeroLine.toArray (n*37)).toList
theorem zerosL_len(n:Nat):(zerosL n).length=37*n:=by unfold zerosL;rw[Array.length_toList,size_madeCells,Nat.mul_comm]
theorem infoLine:(Tryd.prog.info? 77).map (fun i=>(i.zero,i.size,i.bytes))=some (some (.agg zeroLine.toArray),37,72):=by kernel_rfl
theorem run_mk_lines(n:Nat)(hn:n≤32)(w:World):(Instr.makeSlice 66 (.int .i64 (n:Int)) (.int .i64 (n:Int))).run Tryd.prog w= .ok (.slice (some ⟨w.heap.size,0,none⟩) n n) (w.alloc (.cells (zerosL n).toArray 77)):=by
 obtain⟨i,hi,hz,hs,hb⟩:∃i,Tryd.prog.info? 77=some i∧i.zero=some (.agg zeroLine.toArray)∧i.size=37∧i.bytes=72:=by
  have h:=infoLine
  cases hq:Tryd.prog.info? 77 with
  |none=>rw[hq]at h;cases h
  |some i=>
   rw[hq]at h
   simp only[Option.map_some,Option.some.injEq,Prod.mk.injEq]at h
   exact⟨i,rfl,h.1,h.2.1,h.2.2⟩
 have h:=run_make (P:=Tryd.prog) w 66 77 i (.agg zeroLine.toArray) Tryd.underlying66 hi hz .i64 .i64 (n:Int) (n:Int) (by omega) (by omega) (by rw[hb];omega) (by omega)
 rw[hs,Int.toNat_natCast]at h
 rw[h]
 unfold zerosL
 simp[Value.cells]
theorem sound_pow:∀k:Nat,k≤5→soundB ((2^k:Nat):Int)=true:=by decide
theorem Tab.drew'{w:World}(h:Tab w):Tab w.drew:=h
set_option maxRecDepth 100000 in
set_option maxHeartbeats 4000000 in
theorem newc_any(w:World)(hT:Tab w)(s:List (BitVec 8))(hs:s.length=32)(k:Nat)(hk:k≤5):
 Calls Tryd.prog 11 #[arrV b8 s,.int .i64 ((2^k:Nat):Int)] w fun e w'=>∃gC gl gms,e= .returned (.pointer (some ⟨gC,0,none⟩))∧gms.length=2^k∧ChAt w' gC gl (mkL (secs k s) gms)∧w.heap.size≤gC∧w.heap.size≤gl∧
  (∀g∈gms,w.heap.size≤g)∧Below w.heap.size w w':=by
 have hsd:=sound_pow k hk
 obtain⟨n,hn⟩:∃n,n=2^k:=⟨_,rfl⟩
 have hn1:1≤n:=by rw[hn];exact Nat.one_le_two_pow
 have hn2:n≤32:=by rw[hn];exact Nat.pow_le_pow_right (by decide) hk
 rw[←hn]at hsd ⊢
 have hmk:=run_mk_lines n hn2
 have HN:=qq hn
 have HS:=qq hs
 have hgl:=hT.lt
 obtain⟨w1,hw1⟩:∃w1,w1=(w.alloc (.cells (s.map b8).toArray 29)).alloc (.cells #[.slice none 0 0] 68):=⟨_,rfl⟩
 have HA1:=qq (show Arr b8 w1 w.heap.size 29 s by rw[hw1];exact(Arr.new b8 w _ s).alloc _)
 have HC1:=qq (show Boxed w1 (w.heap.size+1) 68 (.slice none 0 0) by rw[hw1];have h:=Boxed.new (w.alloc (.cells (s.map b8).toArray 29)) 68 (.slice none 0 0);rw[World.size_alloc]at h;exact h)
 have HK1:=qq (show Below w.heap.size w w1 by rw[hw1];exact((Below.refl _ w).alloc (Nat.le_refl _) _).alloc (by simp) _)
 have hz1:w1.heap.size=w.heap.size+2:=by rw[hw1];simp
 have HT1:=qq (hT.below HK1.out)
 have HW1:=qq hw1
 have HR:=qq (root_any (n:Int) (by omega) (by omega) w1)
 have hrt:rootV (n:Int)=(n:Int)-1:=by unfold rootV;rw[if_pos hsd]
 have hr0:((n:Int)-1≥0):=by omega
 rw[arrV_mk]
 clear hs hT hw1 hn
 go_enter Tryd.func11,Tryd.ntmps11
 go_upto_region 2 with fail
 rw[←HW1.out]
 go_wp2_with fail
 refine HR.out.mono ?_
 rintro e w2 ⟨rfl,rfl⟩
 rw[hrt]
 have c1:=HC1.out.cell
 have f1:=HC1.out.frozen
 obtain⟨w3,hw3⟩:∃w3,w3=w1.setCell ⟨w.heap.size+1,0,none⟩ (.slice (some ⟨w.heap.size+2,0,none⟩) n n):=⟨_,rfl⟩
 obtain⟨w4,hw4⟩:∃w4,w4=w3.alloc (.cells (zerosL n).toArray 77):=⟨_,rfl⟩
 have hg3:w1.grownBy w3 (some (w.heap.size+1)):=by rw[hw3];exact grownBy_set _ _ _ _
 have hz3:w3.heap.size=w.heap.size+2:=by rw[hw3];simp[hz1]
 have HX4:=qq (show Arr b8 w4 w.heap.size 29 s by rw[hw4];exact(HA1.out.grown hg3 (fun e=>by injection e with e;omega)).alloc _)
 have HC4:=qq (show Boxed w4 (w.heap.size+1) 68 (.slice (some ⟨w.heap.size+2,0,none⟩) n n) by rw[hw4,hw3];exact(HC1.out.set _).alloc _)
 have HZ4:=qq (show Blk w4 (w.heap.size+2) 77 (zerosL n) by rw[hw4];exact Blk.at_size _ _ hz3)
 have HT4:=qq (show Tab w4 by rw[hw4];exact(HT1.out.grown hg3 (by omega)).below ((Below.refl _ w3).alloc (Nat.le_refl _) _))
 have HK4:=qq (show Below w.heap.size w w4 by rw[hw4];exact(HK1.out.grown hg3 HK1.out.size (fun k e=>by cases e;omega)).alloc (by omega) _)
 have hz4:w4.heap.size=w.heap.size+3:=by rw[hw4];simp[hz3]
 have HW4:=qq (show(w1.setCell ⟨w.heap.size+1,0,none⟩ (.slice (some ⟨w.heap.size+2,0,none⟩) n n)).alloc (.cells (zerosL n).toArray 77)=w4 by rw[hw4,hw3])
 have hgr:=grow_any k hk w4.drew HT4.out.drew' (w.heap.size+2) n 0 s HS.out [] (zerosL n) [] (HZ4.out.drew.cast (by simp)) (by simp) (by rw[zerosL_len,HN.out]) (by rw[HN.out];omega) hn2 (by omega)
 have hnx:((nodeX k (0*2^k):Nat):Int)=(n:Int)-1:=by
  have h9:=HN.out
  have e:nodeX k (0*2^k)=n-1:=by unfold nodeX;omega
  rw[e];omega
 rw[hnx,arrV_mk]at hgr
 have HGr:=qq hgr
 have hk4:=show w4.drew.rangeAt w.heap.size 0 (s.map b8)∧w4.drew.cell? ⟨w.heap.size+1,0,none⟩=some (.slice (some ⟨w.heap.size+2,0,none⟩) n n)from⟨HX4.out.drew.whole,HC4.out.cell⟩
 have hu:=Tryd.underlying29
 have hi32:(Tryd.prog.info? 29).map (·.size)=some (s.map b8).length:=by rw[List.length_map,HS.out];exact size32
 clear hw3 hw4 hg3 hgr hnx HA1 HC1 HT1
 go_upto_region 5 with fail
 rw[HW4.out]
 refine wp_region_noPanic ?_
 refine wp_region_held_drew (S:=fun w'=>w'.rangeAt w.heap.size 0 (s.map b8)∧w'.cell? ⟨w.heap.size+1,0,none⟩=some (.slice (some ⟨w.heap.size+2,0,none⟩) n n)) (by kernel_rfl) hk4 (fun hS=>?_)
 refine wpAnyH_take (i:=0) (oi:={dst:=some 18,op:=_,type:=_,pos:=_,after:=_,guard:=_}) (v:= .agg (s.map b8).toArray) rfl (by kernel_rfl) (by kernel_rfl) (by kernel_rfl) (fun _ _ _ h=>h) (yieldsIf_load_mid (by rfl) 29 (.tmp 2) rfl w.heap.size 0 rfl (s.map b8) _ (fun _ h=>h.1) hu rfl hi32) hS ?_
 try simp only[Act.put,qj,qz,qv]
 refine wpAnyH_take (i:=1) (oi:={dst:=some 19,op:=_,type:=_,pos:=_,after:=_,guard:=_}) (v:= .int .i64 ((n:Int)-1)) rfl (by kernel_rfl) (by kernel_rfl) (by kernel_rfl) (fun _ _ _ h=>h) (Or.inl ⟨by rfl,?_⟩) hS ?_
 ·intro w' hw'
  go_simp
 try simp only[Act.put,qj,qz,qv]
 refine wpAnyH_take (i:=2) (oi:={dst:=some 20,op:=_,type:=_,pos:=_,after:=_,guard:=_}) (v:= .pointer (some ⟨w.heap.size+1,0,none⟩)) rfl (by kernel_rfl) (by kernel_rfl) (by kernel_rfl) (fun _ _ _ h=>h) (Or.inl ⟨by rfl,?_⟩) hS ?_
 ·intro w' hw'
  go_simp
 try simp only[Act.put,qj,qz,qv]
 refine wpAnyH_take (i:=3) (oi:={dst:=some 21,op:=_,type:=_,pos:=_,after:=_,guard:=_}) (v:= .pointer (some ⟨w.heap.size+1,0,none⟩)) rfl (by kernel_rfl) (by kernel_rfl) (by kernel_rfl) (fun _ _ _ h=>h) (Or.inl ⟨by rfl,?_⟩) hS ?_
 ·intro w' hw'
  go_simp
 try simp only[Act.put,qj,qz,qv]
 refine wpAnyH_take (i:=4) (oi:={dst:=some 22,op:=_,type:=_,pos:=_,after:=_,guard:=_}) (v:= .pointer (some ⟨w.heap.size+1,0,none⟩)) rfl (by kernel_rfl) (by kernel_rfl) (by kernel_rfl) (fun _ _ _ h=>h) (Or.inl ⟨by rfl,?_⟩) hS ?_
 ·intro w' hw'
  go_simp
 try simp only[Act.put,qj,qz,qv]
 refine wpAnyH_take (i:=5) (oi:={dst:=some 23,op:=_,type:=_,pos:=_,after:=_,guard:=_}) (v:= .slice (some ⟨w.heap.size+2,0,none⟩) n n) rfl (by kernel_rfl) (by kernel_rfl) (by kernel_rfl) (fun _ _ _ h=>h) (Or.inl ⟨by rfl,?_⟩) hS ?_
 ·intro w' hw'
  obtain⟨s0,s1⟩:=hw'
  go_simp
 try simp only[Act.put,qj,qz,qv]
 refine wpAnyH_ready (rs:=[6]) (by kernel_rfl) (by simp) (AllReadyH.cons (o:={dst:=some 24,op:=_,type:=_,pos:=_,after:=_,guard:=_}) rfl (fun K' hK=>?_) AllReadyH.nil)
 go_simp
 go_at_call 25
 refine HGr.out.mono ?_
 rintro e w5 ⟨rfl,gms,hgl,hB5,hM5,hN5,hg5⟩
 have HX5:=qq (HX4.out.drew.grown hg5 (fun e=>by injection e with e;omega))
 have HC5:=qq (Boxed.kept (W:=w4.drew) HC4.out hg5 (fun e=>by injection e with e;omega))
 have HB5:=qq hB5
 have HM5:=qq hM5
 have HN5:=qq hN5
 have HL5:=qq hgl
 have HG5:=qq hg5
 clear hgl hB5 hM5 hN5 hg5
 refine hK.out _ _ (⟨HX5.out.whole,HC5.out.cell⟩) (fun hS=>?_)
 clear hK K'
 try simp only[Act.put,qj,qz,qv]
 refine wpAnyH_done (by kernel_rfl) ?_ _
 refine NoPanic.normal ?_
 go_wp2_with fail
 go_ret
 have hg:=HG5.out
 have hsl:(secs k s).length=gms.length:=by rw[secs_len,HL5.out]
 refine⟨w.heap.size+1,w.heap.size+2,gms,rfl,by rw[HL5.out,HN.out],⟨?_,?_,?_,?_,?_,?_⟩,by omega,by omega,fun g hg'=>by have:=(HM5.out g hg').2;have h9:w4.drew.heap.size=w4.heap.size:=rfl;omega,HK4.out.drew.grown hg HK4.out.size (fun k e=>by cases e;omega)⟩
 ·rw[mkL_len _ _ hsl,secs_len,←HN.out];exact HC5.out
 ·rw[mkL_cells];exact HB5.out.cast (by simp)
 ·intro x hx
  obtain⟨z,hz,g,hg',rfl⟩:=mkL_mem _ _ x hx
  exact⟨startL_ok z (secs_32 k s HS.out z hz),Marks.start z,rfl,List.Pairwise.nil⟩
 ·intro x hx
  obtain⟨z,hz,g,hg',rfl⟩:=mkL_mem _ _ x hx
  exact⟨(HM5.out g hg').1,fun p hp=>by cases hp⟩
 ·rw[mkL_gms _ _ hsl];exact HN5.out
 ·rw[mkL_blks];exact List.Pairwise.nil
abbrev RdV(w:World)(B:Nat)(A:Option Addr)(us:List Value):Prop:=Rd (fun v:Value=>v) w B A us
theorem rflat_len{α β:Type}{f:α→List β}{K:Nat}:∀{xs:List α},(∀x∈xs,(f x).length=K)→(xs.flatMap f).length=xs.length*K
 | [],_=>by simp
 |x::xs,h=>by
  rw[List.flatMap_cons,List.length_append,h x (by simp),rflat_len (xs:=xs) (fun y hy=>h y (by simp[hy])),List.length_cons,Nat.add_mul];omega
theorem rflat_at{α β:Type}{f:α→List β}{K:Nat}:∀{xs:List α} {k:Nat} {x:α},(∀x∈xs,(f x).length=K)→xs[k]?=some x→∀j u,(f x)[j]?=some u→(xs.flatMap f)[K*k+j]?=some u
 | [],k,x,_,hk=>by simp at hk
 |y::xs,0,x,h,hk=>fun j u hj=>by
  simp at hk;subst hk
  rw[List.flatMap_cons,List.getElem?_append_left (by have:=(List.getElem?_eq_some_iff.1 hj).1;omega)]
  simpa using hj
 |y::xs,k+1,x,h,hk=>fun j u hj=>by
  rw[List.flatMap_cons,List.getElem?_append_right (by rw[h y (by simp),Nat.mul_add];omega),h y (by simp),show K*(k+1)+j-K=K*k+j by rw[Nat.mul_add];omega]
  exact rflat_at (xs:=xs) (fun z hz=>h z (by simp[hz])) (by simpa using hk) j u hj
section
variable{P:Program}{w:World}
theorem run_append_row(K:Nat)(hK:0<K)(base:Nat)(t ty e:TypeId)(i:TypeInfo)(z:Value)(bytes:Nat)(ht:P.underlying t=some (.slice e))(hi:P.info? e=some i)(hz:i.zero=some z)
 (hsize:i.size=K)(hby:i.bytes=bytes)(hzs:z.cells.size=K)
 (v:Value)(n:Nat)(us:List Value)(hown:w.ownsRow base e K v n us)
 (B:Nat)(A:Option Addr)(m c:Nat)(news:List Value)(hl:news.length=m*K)(hm:0<m)(hr:RdV w B A news)(h1:∀u∈news,u.oneCell'=true)
 (h63:n+m≤maxLen)(hbytes:(n+m)*bytes≤140737488355328)(hbase:base≤w.heap.size):
 ∃v' w',(Builtin.append_ #[t,t] ty #[v,.slice A m c]).run P w= .ok v' w'∧w'.ownsRow base e K v' (n+m) (us++news)∧Grew w w' v v':=by
 obtain⟨b0,off0,rfl,hb0,hc0⟩:=hr (by rw[hl];exact Nat.mul_pos hm hK)
 have hcells:∀j u,news[j]?=some u→w.cell? ((⟨b0,off0,none⟩:Addr).add j)=some u:=fun j u hu=>by
  have:=hc0 j u hu
  rw[Addr.add_lit];exact this
 have hsmall:n+m≤9223372036854775807:=by simp only[maxLen]at h63;omega
 have hul:=hown.1
 have grown:∀(old:Nat),old<n+m→
  (w.drew.alloc (.cells (us.toArray++news.toArray++Builtin.zeroCells z.cells (grownCap w (n+m) old e-(n+m))) e)).ownsRow base e K
   (.slice (some ⟨w.heap.size,0,none⟩) (n+m) (grownCap w (n+m) old e)) (n+m) (us++news)∧
  w.grownBy (w.drew.alloc (.cells (us.toArray++news.toArray++Builtin.zeroCells z.cells (grownCap w (n+m) old e-(n+m))) e)) none:=by
  intro old ho
  have hge:=grownCap_ge w (n+m) old e
  have hcm:=grownCap_le_maxLen w (n+m) old e h63
  refine⟨⟨by rw[List.length_append,hul,hl,Nat.add_mul],.inr ⟨w.heap.size,_,_,rfl,hbase,heap_alloc_new w.drew _,hge,hcm,?_,?_⟩⟩,⟨rfl,rfl,rfl,by simp,fun k hk _=>heap_alloc_old w.drew _ hk⟩⟩
  ·simp only[Array.size_append,List.size_toArray,size_zeroCells,hzs,hul,hl]
   rw[←Nat.add_mul,←Nat.add_mul]
   congr 1
   omega
  ·simp only[Array.toList_append]
   rw[List.take_append_of_le_length (by simp[hul,hl,Nat.add_mul])]
   exact List.take_of_length_le (by simp[hul,hl,Nat.add_mul])
 rcases hown.2 with⟨rfl,h0⟩|⟨g,cap,cur,rfl,hbg,hg,hnc,hcm,hcs,htake⟩
 ·subst h0
  have hx:us=[]:=List.eq_nil_of_length_eq_zero (by rw[hul];simp)
  subst hx
  have hr:=run_append_nil (P:=P) w t ty e i z ht hi hz ⟨b0,off0,none⟩ m c news (by rw[hl,hsize]) hcells hm (by simp at hsmall;omega) (by rw[hby];have hb:=hbytes;simp only[Nat.zero_add]at hb;omega)
  have hgr:=grown 0 (by simpa using hm)
  simp only[Nat.zero_add,List.nil_append,Array.empty_append]at hgr ⊢
  exact⟨_,_,hr,hgr.1,.inr (.inr ⟨rfl,hgr.2⟩)⟩
 ·by_cases hroom:n+m≤cap
  ·obtain⟨w',hr,ho,hgr⟩:=run_append_fits (P:=P) w base t ty e i K ht hi hsize g n cap us hown ⟨b0,off0,none⟩ m c news hl hcells h1 hroom
   exact⟨_,w',hr,ho,.inr (.inl ⟨g,_,_,cap,rfl,rfl,hgr⟩)⟩
  ·have holds:∀j u,us[j]?=some u→w.cell? ((⟨g,0,none⟩:Addr).add j)=some u:=World.ownsRow.cells (g:=g) hown rfl
   have hr:=run_append_grow (P:=P) w t ty e i z ht hi hz ⟨g,0,none⟩ n cap us (by rw[hul,hsize]) holds ⟨b0,off0,none⟩ m c news (by rw[hl,hsize]) hcells (by omega) (by omega) (by rw[hby];exact growslice_fits (by omega) hbytes)
   have hgr:=grown cap (by omega)
   exact⟨_,_,hr,hgr.1,.inr (.inr ⟨rfl,hgr.2⟩)⟩
theorem rowS_bel{w w':World}{v v':Value}{base E K n:Nat}{us:List Value}(h:Grew w w' v v')(hown:w.ownsRow base E K v n us)(hbase:base≤w.heap.size){C:Nat}{w0:World}(hC:C≤base)(hb:Below C w0 w):Below C w0 w':=
 hb.grown h.by_ (by omega) (fun k hk=>by have:=(World.ownsRow.lt hown k hk).1;omega)
theorem wpList_append_row{ops:Array Oper}{rest:List Oper}{o:Oper}{a:Act}{Q:Exit→Act→World→Prop}(hgd:o.guard=none)(s x:Operand)(t:TypeId)
 (ho:o.op= .call {callee:= .builtin .append,args:= #[s,x],argTypes:= #[t,t]})
 (K:Nat)(hK:0<K)(base:Nat)(e:TypeId)(i:TypeInfo)(z:Value)(bytes:Nat)(ht:P.underlying t=some (.slice e))(hi:P.info? e=some i)(hz:i.zero=some z)
 (hsize:i.size=K)(hby:i.bytes=bytes)(hzs:z.cells.size=K)
 (v:Value)(n:Nat)(us:List Value)(hs:a.eval s=v)(hown:w.ownsRow base e K v n us)
 (B:Nat)(A:Option Addr)(m c:Nat)(news:List Value)(hx:a.eval x= .slice A m c)(hl:news.length=m*K)(hm:0<m)(hr:RdV w B A news)(h1:∀u∈news,u.oneCell'=true)
 (h63:n+m≤maxLen)(hbytes:(n+m)*bytes≤140737488355328)(hbase:base≤w.heap.size)
 (h:∀v' w',w'.ownsRow base e K v' (n+m) (us++news)→Grew w w' v v'→(∀C w0,C≤base→Below C w0 w→Below C w0 w')→wpList P ops Q rest (a.put o.dst v') w'):wpList P ops Q (o::rest) a w:=by
 refine wpList_plain hgd fun K' hK'=>?_
 obtain⟨v',w',hrun,h2,h3⟩:=run_append_row (P:=P) K hK base t o.type e i z bytes ht hi hz hsize hby hzs v n us hown B A m c news hl hm hr h1 h63 hbytes hbase
 unfold Oper.wp execOp
 simp only[ho,resolve,invoke,builtin,Sem.run_bind,Sem.run_pure,Result.andThen_ok,List.map_toArray,List.map_cons,List.map_nil,hs,hx,hrun]
 exact hK' _ _ (h v' w' h2 h3 (fun C w0 hC hb=>rowS_bel h3 hown hbase hC hb))
end
section
variable{w w':World}{B E K n:Nat}{v:Value}{us:List Value}
theorem rowS_shape(h:w.ownsRow B E K v n us):∃A c,v= .slice A n c∧RdV w w.heap.size A us∧(A=none→c=0)∧n≤c∧c≤maxLen:=by
 rcases h.2 with⟨rfl,h0⟩|⟨g,cap,cur,rfl,hb,hg,hnc,hcm,hcs,htake⟩
 ·subst h0
  have hx:us=[]:=List.eq_nil_of_length_eq_zero (by rw[h.1];simp)
  subst hx
  exact⟨none,0,rfl,Rd.nil_ _ _ _ _,fun _=>rfl,Nat.le_refl _,by simp[maxLen]⟩
 ·refine⟨some ⟨g,0,none⟩,cap,rfl,fun _=>⟨g,0,rfl,?_,fun j u hu=>?_⟩,(fun h=>by cases h),hnc,hcm⟩
  ·exact((World.ownsRow.lt h g rfl)).2
  ·have:=World.ownsRow.cells h (g:=g) rfl j u hu
   rw[Addr.add_lit]at this
   exact this
theorem rowS_less{B':Nat}(h:w.ownsRow B E K v n us)(hB:B'≤B):w.ownsRow B' E K v n us:=by
 refine⟨h.1,?_⟩
 rcases h.2 with h0|⟨g,cap,cur,hv,hbg,rest⟩
 ·exact .inl h0
 ·exact .inr ⟨g,cap,cur,hv,by omega,rest⟩
theorem rdV_new(w:World)(E:TypeId)(us:List Value):RdV (w.alloc (.cells us.toArray E)) (w.heap.size+1) (some ⟨w.heap.size,0,none⟩) us:=by
 have:=Rd.new (fun v:Value=>v) w E us
 rwa[List.map_id']at this
end
theorem fill_one{s:Nat}(hs:0<s)(v:Value)(hv:v.cells.size=s)(cells:Array Value)(hc:cells.size=s):Instr.fill (fun i=>some (i*s,s)) cells [(0,v)]=some v.cells:=by
 obtain⟨r,hr,hsz,hk⟩:=Great.fill_dense hs [v] 0 cells (fun u hu=>by simp at hu;subst hu;exact hv) (by simp[hc])
 have e:r=v.cells:=by
  apply Array.ext_getElem?
  intro k
  rw[hk k]
  simp only[Nat.zero_mul,List.length_cons,List.length_nil,Nat.zero_add,Nat.one_mul,Nat.zero_le,true_and,Nat.sub_zero]
  by_cases h:k<s
  ·rw[if_pos h,Nat.div_eq_of_lt h,Nat.mod_eq_of_lt h];rfl
  ·rw[if_neg h,Array.getElem?_eq_none (by omega),Array.getElem?_eq_none (by omega)]
 rw[←e,←hr];rfl
theorem wpList_box_slice{P:Program}{ops:Array Oper}{rest:List Oper}{o:Oper}{a:Act}{w:World}{Q:Exit→Act→World→Prop}(hg:o.guard=none)(t e:TypeId)(x:Operand)(ho:o.op= .buildSlice t 1 #[(0,x)])
 (ie:TypeInfo)(z:Value)(K:Nat)(cells:Array Value)(hx:a.eval x= .agg cells)(hK:cells.size=K)(hK0:0<K)(hKs:K≤1000)
 (hu:P.underlying t=some (.slice e))(hie:P.info? e=some ie)(hz:ie.zero=some z)(hsz:ie.size=K)(hzs:z.cells.size=K)
 (h:wpList P ops Q rest (a.put o.dst (.slice (some ⟨w.heap.size,0,none⟩) 1 1)) (w.alloc (.cells cells e))):wpList P ops Q (o::rest) a w:=by
 refine wpList_buildSlice hg t e 1 #[(0,x)] ho cells ie z hu hie hz (by rw[hsz];omega) (by rw[hsz];omega) ?_ h
 rw[hsz]
 rw[show(#[(0,x)].map fun(i,x)=>(i,a.eval x)).toList=[(0,.agg cells)] by simp[hx]]
 exact fill_one hK0 (.agg cells) hK _ (by simp)
theorem wpList_load_midw{P:Program}{ops:Array Oper}{rest:List Oper}{op:Oper}{a:Act}{w:World}{Q:Exit→Act→World→Prop}(hgd:Region.wanted op (yielded ops a.tmps)=true)(ty:TypeId)(x:Operand)(ho:op.op= .load ty x)
 (b o:Nat)(hx:a.eval x= .pointer (some ⟨b,o,none⟩))(cs:List Value)(d:TypeDesc)(hc:w.rangeAt b o cs)
 (hu:P.underlying ty=some d)(hd:d.isRow=true)(hi:(P.info? ty).map (·.size)=some cs.length)
 (h:wpList P ops Q rest (a.put op.dst (.agg cs.toArray)) w):wpList P ops Q (op::rest) a w:=
 wpList_step fun K hK=>by
  rw[if_pos hgd]
  exact wp_load_mid ty x ho b o hx cs d hc hu hd hi (hK _ _ h)
end Go.Proofs.YtelgjaiknaalkaaDoor
