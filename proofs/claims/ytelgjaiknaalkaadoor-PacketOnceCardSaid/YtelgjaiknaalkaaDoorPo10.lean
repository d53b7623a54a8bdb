/- Lemmas, joined and made smaller by a program. -/
import Derived.Test.YtelgjaiknaalkaaDoorPo07
import Derived.Test.YtelgjaiknaalkaaDoorPo09
import Derived.Lib.ConvBytes
import Derived.Deep.RegionHeld3
import Derived.Deep.Cut
import Derived.Test.YtelgjaiknaalkaaDoorPo02
import Derived.WalkKit
import Derived.ProofKit
import Derived.OpenShut
import Derived.ShutString
import Derived.ChangeOld
import Derived.Below
import Derived.Lib.SmallJoins
import Derived.Laws.Tables
open Go.Lib renaming hid → qq
set_option linter.unusedVariables false
set_option linter.unusedSimpArgs false
namespace Go.Proofs.YtelgjaiknaalkaaDoor
def lKey:List (BitVec 8):=[107#8,101#8,121#8]
def lNext:List (BitVec 8):=[110#8,101#8,120#8,116#8]
def lLeft:List (BitVec 8):=[108#8,101#8,102#8,116#8]
def lRight:List (BitVec 8):=[114#8,105#8,103#8,104#8,116#8]
def labI(lab:List (BitVec 8))(n:Nat):List (BitVec 8):=[BitVec.ofNat 8 (n/256),BitVec.ofNat 8 n,BitVec.ofNat 8 lab.length]++lab++ [0#8,0#8,0#8,0#8]
theorem labI_len(lab:List (BitVec 8))(n:Nat):(labI lab n).length=lab.length+7:=by simp[labI]
def labV(s lab:List (BitVec 8))(n:Nat):List (BitVec 8):=expV s (labI lab n) n
theorem labV_len(s lab:List (BitVec 8))(n:Nat)(h:n≤8160):(labV s lab n).length=n:=expV_len _ _ _ h
def derV(s lab:List (BitVec 8)):List (BitVec 8):=labV s lab 32
theorem derV_eq(s lab:List (BitVec 8)):derV s lab=labV s lab 32:=by unfold derV;exact Eq.refl _
theorem derV_len(s lab:List (BitVec 8)):(derV s lab).length=32:=labV_len _ _ _ (by decide)
structure OnceM where
 no:Int
 key:List (BitVec 8)
 nonce:List (BitVec 8)
def ofL(link:List (BitVec 8))(n:Int):OnceM:=⟨n,(labV link lKey 44).take 32,(labV link lKey 44).drop 32⟩
theorem ofL_key(link:List (BitVec 8))(n:Int):(ofL link n).key.length=32:=by
 have h:=labV_len link lKey 44 (by omega)
 unfold ofL
 generalize labV link lKey 44=X at h ⊢
 simp only[List.length_take,h]
 rfl
theorem ofL_nonce(link:List (BitVec 8))(n:Int):(ofL link n).nonce.length=12:=by
 have h:=labV_len link lKey 44 (by omega)
 unfold ofL
 generalize labV link lKey 44=X at h ⊢
 simp only[List.length_drop,h]
def zeroO:OnceM:=⟨0,List.replicate 32 0#8,[]⟩
def linkAt(link:List (BitVec 8)):Nat→List (BitVec 8)
 |0=>link
 |k+1=>derV (linkAt link k) lNext
theorem linkAt_len(link:List (BitVec 8))(h:link.length=32)(k:Nat):(linkAt link k).length=32:=by
 cases k with
 |zero=>exact h
 |succ k=>exact derV_len _ _
theorem linkAt_add(link:List (BitVec 8))(i j:Nat):linkAt (linkAt link i) j=linkAt link (i+j):=by
 induction j with
 |zero=>rfl
 |succ j ih=>show derV (linkAt (linkAt link i) j) lNext=derV (linkAt link (i+j)) lNext;rw[ih]
def runL(link:List (BitVec 8))(n:Int):Nat→List OnceM
 |0=> []
 |k+1=>runL link n k++ [ofL (linkAt link k) (n+(k:Int))]
theorem runL_len(link:List (BitVec 8))(n:Int)(k:Nat):(runL link n k).length=k:=by
 induction k with
 |zero=>rfl
 |succ k ih=>simp[runL,ih]
theorem mem_runL(link:List (BitVec 8))(n:Int)(k:Nat)(o:OnceM):o∈runL link n k↔∃j:Nat,j<k∧o=ofL (linkAt link j) (n+(j:Int)):=by
 induction k with
 |zero=>simp[runL]
 |succ k ih=>
  simp only[runL,List.mem_append,List.mem_singleton,ih]
  constructor
  ·rintro(⟨j,h1,h2⟩|h)
   ·exact⟨j,by omega,h2⟩
   ·exact⟨k,by omega,h⟩
  ·rintro⟨j,h1,h2⟩
   rcases Nat.lt_or_ge j k with h|h
   ·exact .inl ⟨j,h,h2⟩
   ·have:j=k:=by omega
    subst this;exact .inr h2
def RiseO(l:List OnceM):Prop:=l.Pairwise fun a b=>a.no<b.no
theorem runL_rise(link:List (BitVec 8))(n:Int)(k:Nat):RiseO (runL link n k):=by
 induction k with
 |zero=>exact List.Pairwise.nil
 |succ k ih=>
  refine List.pairwise_append.2 ⟨ih,List.pairwise_singleton _ _,fun a ha b hb=>?_⟩
  obtain⟨j,hj,rfl⟩:=(mem_runL link n k a).1 ha
  rw[List.mem_singleton]at hb;subst hb
  show n+(j:Int)<n+(k:Int);omega
structure LineM where
 link:List (BitVec 8)
 place:Int
 held:List OnceM
 asked:List Int
 low:Int
def hiA(asked:List Int)(low:Int):Int:=asked.foldl (fun m x=>if m<x then x else m) (low-1)
theorem hiA_snoc(asked:List Int)(low n:Int):hiA (asked++ [n]) low=if hiA asked low<n then n else hiA asked low:=by unfold hiA;rw[List.foldl_append];rfl
def hiM(l:LineM):Int:=hiA l.asked l.low
def takeE(l:LineM)(n:Int):Nat:=
 if n<0∨4294967294<n then 8 else if n<hiM l-64 then 11 else if n<l.low then 7 else if n∈l.asked then 7 else if l.place<n∧256<n-l.place then 12 else 0
def heldTo(l:LineM)(n:Int):List OnceM:=l.held++runL l.link l.place (n+1-l.place).toNat
def keepO(n h:Int)(o:OnceM):Bool:=!(o.no==n)&&decide (h-64≤o.no)
def takeL(l:LineM)(n:Int):LineM:=
 ⟨linkAt l.link (n+1-l.place).toNat,if l.place≤n then n+1 else l.place,(heldTo l n).filter (keepO n (hiA (l.asked++ [n]) l.low)),l.asked++ [n],l.low⟩
def pickO(held:List OnceM)(n:Int):OnceM:=held.foldl (fun out o=>if o.no=n then o else out) zeroO
def takeO(l:LineM)(n:Int):OnceM:=if takeE l n=0 then pickO (heldTo l n) n else zeroO
def startL(link:List (BitVec 8)):LineM:=⟨link,0,[],[],0⟩
structure LOK(l:LineM):Prop where
 len:l.link.length=32
 low0:0≤l.low
 lowp:l.low≤l.place
 top:l.place≤4294967295
 hi:hiM l=l.place-1
 asked:∀a∈l.asked,0≤a∧a<l.place
 rise:RiseO l.held
 held:∀o∈l.held,l.low≤o.no∧o.no<l.place∧o.no∉l.asked∧l.place-65≤o.no∧o.key.length=32∧o.nonce.length=12
 all:∀n,l.low≤n→n<l.place→n∉l.asked→l.place-65≤n→∃o∈l.held,o.no=n
theorem startL_ok(link:List (BitVec 8))(h:link.length=32):LOK (startL link):=
 ⟨h,Int.le_refl _,Int.le_refl _,by show(0:Int)≤4294967295;decide,rfl,fun a ha=>(by cases ha),List.Pairwise.nil,fun o ho=>(by cases ho),fun n h1 h2=>by have:(0:Int)≤n:=h1;have:n<0:=h2;omega⟩
theorem pick_app(a:List OnceM)(o:OnceM)(n:Int):pickO (a++ [o]) n=if o.no=n then o else pickO a n:=by unfold pickO;rw[List.foldl_append];rfl
theorem foldl_none(held:List OnceM)(n:Int)(z:OnceM)(h:∀o∈held,o.no≠n):held.foldl (fun out o=>if o.no=n then o else out) z=z:=by
 induction held generalizing z with
 |nil=>rfl
 |cons o r ih=>
  rw[List.foldl_cons,if_neg (h o (by simp))]
  exact ih z (fun o ho=>h o (by simp[ho]))
theorem foldl_one(held:List OnceM)(z o:OnceM)(hr:RiseO held)(ho:o∈held):held.foldl (fun out x=>if x.no=o.no then x else out) z=o:=by
 induction held generalizing z with
 |nil=>cases ho
 |cons x r ih=>
  obtain⟨h1,h2⟩:=List.pairwise_cons.1 hr
  rw[List.foldl_cons]
  rcases List.mem_cons.1 ho with rfl|ho
  ·rw[if_pos rfl]
   exact foldl_none r _ _ (fun y hy=>by have:=h1 y hy;omega)
  ·exact ih _ h2 ho
theorem pick_mem{held:List OnceM}{o:OnceM}(hr:RiseO held)(ho:o∈held):pickO held o.no=o:=foldl_one held zeroO o hr ho
theorem heldTo_rise{l:LineM}(h:LOK l)(n:Int):RiseO (heldTo l n):=by
 refine List.pairwise_append.2 ⟨h.rise,runL_rise _ _ _,fun a ha b hb=>?_⟩
 obtain⟨j,hj,rfl⟩:=(mem_runL _ _ _ b).1 hb
 have:=(h.held a ha).2.1
 show a.no<l.place+(j:Int);omega
theorem takeE_zero{l:LineM}{n:Int}(h:takeE l n=0):0≤n∧n≤4294967294∧hiM l-64≤n∧l.low≤n∧n∉l.asked∧(l.place<n→n-l.place≤256):=by
 unfold takeE at h
 split at h;cases h
 split at h;cases h
 split at h;cases h
 split at h;cases h
 split at h;cases h
 rename_i h1 h2 h3 h4 h5
 refine⟨by omega,by omega,by omega,by omega,h4,fun h6=>by omega⟩
theorem takeL_ok{l:LineM}(h:LOK l){n:Int}(h0:takeE l n=0):LOK (takeL l n):=by
 obtain⟨n0,n1,nh,nl,na,nf⟩:=takeE_zero h0
 have hhi:=h.hi
 have hs:hiA (l.asked++ [n]) l.low=if l.place≤n then n else l.place-1:=by
  rw[hiA_snoc];unfold hiM at hhi;rw[hhi]
  by_cases hp:l.place≤n
  ·rw[if_pos hp,if_pos (by omega)]
  ·rw[if_neg hp,if_neg (by omega)]
 have lp:=h.lowp
 have tp:=h.top
 refine⟨linkAt_len _ h.len _,h.low0,?_,?_,?_,?_,?_,?_,?_⟩
 ·show l.low≤if l.place≤n then n+1 else l.place
  split<;>omega
 ·show(if l.place≤n then n+1 else l.place)≤4294967295
  split<;>omega
 ·show hiA (l.asked++ [n]) l.low=(if l.place≤n then n+1 else l.place)-1
  rw[hs];split<;>omega
 ·intro a ha
  show 0≤a∧a<if l.place≤n then n+1 else l.place
  have ha':a∈l.asked++ [n]:=ha
  rcases List.mem_append.1 ha' with h1|h1
  ·have:=h.asked a h1;split<;>omega
  ·rw[List.mem_singleton]at h1;subst h1;split<;>omega
 ·exact(heldTo_rise h n).filter _
 ·intro o ho
  have ho':o∈ (heldTo l n).filter (keepO n (hiA (l.asked++ [n]) l.low)):=ho
  obtain⟨h1,h2⟩:=List.mem_filter.1 ho'
  unfold keepO at h2
  simp only[Bool.and_eq_true,Bool.not_eq_true',beq_eq_false_iff_ne,decide_eq_true_eq,hs]at h2
  show l.low≤o.no∧o.no<(if l.place≤n then n+1 else l.place)∧o.no∉l.asked++ [n]∧(if l.place≤n then n+1 else l.place)-65≤o.no∧o.key.length=32∧o.nonce.length=12
  rcases List.mem_append.1 h1 with h3|h3
  ·obtain⟨g1,g2,g3,g4,g5,g6⟩:=h.held o h3
   refine⟨g1,by split<;>omega,by rw[List.mem_append,List.mem_singleton];rintro(h5|h5);exact g3 h5;exact h2.1 h5,?_,g5,g6⟩
   have:=h2.2
   split at this<;>rename_i hp
   ·rw[if_pos hp];omega
   ·rw[if_neg hp];omega
  ·obtain⟨j,hj,rfl⟩:=(mem_runL _ _ _ o).1 h3
   have e:(ofL (linkAt l.link j) (l.place+(j:Int))).no=l.place+(j:Int):=rfl
   rw[e]at h2 ⊢
   have hp:l.place≤n:=by omega
   rw[if_pos hp]at h2
   rw[if_pos hp]
   refine⟨by omega,by omega,?_,by omega,ofL_key _ _,ofL_nonce _ _⟩
   rw[List.mem_append,List.mem_singleton]
   rintro(h5|h5)
   ·have:=h.asked _ h5;omega
   ·exact h2.1 h5
 ·intro m m1 m2 m3 m4
  have m1':l.low≤m:=m1
  have m2':m<(if l.place≤n then n+1 else l.place):=m2
  have m3':m∉l.asked++ [n]:=m3
  have m4':(if l.place≤n then n+1 else l.place)-65≤m:=m4
  rw[List.mem_append,List.mem_singleton,not_or]at m3'
  show∃o∈ (heldTo l n).filter (keepO n (hiA (l.asked++ [n]) l.low)),o.no=m
  have kk:∀o:OnceM,o.no=m→keepO n (hiA (l.asked++ [n]) l.low) o=true:=by
   intro o ho
   unfold keepO
   rw[ho,hs]
   simp only[Bool.and_eq_true,Bool.not_eq_true',beq_eq_false_iff_ne,decide_eq_true_eq]
   refine⟨m3'.2,?_⟩
   by_cases hp:l.place≤n
   ·rw[if_pos hp]at m4' ⊢;omega
   ·rw[if_neg hp]at m4' ⊢;omega
  by_cases hm:m<l.place
  ·obtain⟨o,ho,hn⟩:=h.all m m1' hm m3'.1 (by split at m4'<;>omega)
   exact⟨o,List.mem_filter.2 ⟨List.mem_append.2 (.inl ho),kk o hn⟩,hn⟩
  ·have hp:l.place≤n:=by
    apply Decidable.byContradiction;intro hp;rw[if_neg hp]at m2';omega
   rw[if_pos hp]at m2'
   refine⟨ofL (linkAt l.link (m-l.place).toNat) (l.place+((m-l.place).toNat:Int)),List.mem_filter.2 ⟨List.mem_append.2 (.inr ((mem_runL _ _ _ _).2 ⟨(m-l.place).toNat,by omega,rfl⟩)),kk _ (by show l.place+((m-l.place).toNat:Int)=m;omega)⟩,by show l.place+((m-l.place).toNat:Int)=m;omega⟩
end Go.Proofs.YtelgjaiknaalkaaDoor
namespace Go.Proofs.YtelgjaiknaalkaaDoor
open Go.RowKit
def StrOf(S:ByteArray)(lab:List (BitVec 8)):Prop:=S.data.toList.map (fun b=>BitVec.ofNat 8 b.toNat)=lab
theorem StrOf.size{S:ByteArray}{lab:List (BitVec 8)}(h:StrOf S lab):S.size=lab.length:=by unfold StrOf at h;rw[←h];simp
theorem rd_bytesWorld{S:ByteArray}{lab:List (BitVec 8)}(h:StrOf S lab)(w:World):Rd b8 (Lib.bytesWorld w 5 S) (w.heap.size+1) (some ⟨w.heap.size,0,none⟩) lab:=by
 intro hne
 refine⟨w.heap.size,0,rfl,by omega,fun j u hu=>?_⟩
 have hz:=h.size
 unfold StrOf at h
 rw[←h,List.getElem?_map]at hu
 obtain⟨x,hx,rfl⟩:=Option.map_eq_some_iff.1 hu
 have hj:j<S.size:=by have:=(List.getElem?_eq_some_iff.1 hx).1;simpa using this
 rw[Nat.zero_add,Lib.bytesWorld_cell w _ S j hj,List.getD,hx]
 show some (Value.int .u8 (x.toNat:Int))=some (b8 (BitVec.ofNat 8 x.toNat))
 unfold b8 bv
 rw[BitVec.toNat_ofNat,Nat.mod_eq_of_lt x.toNat_lt]
theorem below_bytesWorld(S:ByteArray)(w:World):Below w.heap.size w (Lib.bytesWorld w 5 S):=
 ⟨rfl,rfl,rfl,by rw[Lib.bytesWorld_size];omega,fun k hk=>Lib.bytesWorld_at_old w _ S k hk⟩
theorem wrap8L(n:Nat):IntKind.u8.wrap (n:Int)=bv (BitVec.ofNat 8 n):=by rw[wrap_u8v];unfold bv;rw[BitVec.toNat_ofNat];omega
set_option maxRecDepth 100000 in
theorem cat_info(w:World)(S:ByteArray)(lab:List (BitVec 8))(hS:StrOf S lab)(hl:lab.length≤255)(N cap:Nat):
 Calls Tryd.prog 29 #[.slice (some ⟨w.heap.size+1+1+1,0,none⟩) 4 4]
  (((Lib.bytesWorld (w.alloc (.cells #[.int .u8 (bv (BitVec.ofNat 8 (N/256))),.int .u8 (bv (BitVec.ofNat 8 N)),.int .u8 (bv (BitVec.ofNat 8 S.size))] 5)) 5 S).alloc
    (.cells #[.int .u8 0,.int .u8 0,.int .u8 0,.int .u8 0] 5)).alloc
    (.cells #[.slice (some ⟨w.heap.size,0,none⟩) 3 3,.slice (some ⟨w.heap.size+1,0,none⟩) S.size cap,.slice (some ⟨w.heap.size+1+1,0,none⟩) 4 4,.slice none 0 0] 33))
  fun e w'=>∃v,e= .returned v∧Own b8 w' w.heap.size 5 v (labI lab N)∧Below w.heap.size w w':=by
 have hz:=hS.size
 have r1:=Rd.new b8 w 5 [BitVec.ofNat 8 (N/256),BitVec.ofNat 8 N,BitVec.ofNat 8 S.size]
 have b1:=(Below.refl w.heap.size w).alloc (Nat.le_refl _) (.cells #[.int .u8 (bv (BitVec.ofNat 8 (N/256))),.int .u8 (bv (BitVec.ofNat 8 N)),.int .u8 (bv (BitVec.ofNat 8 S.size))] 5)
 have z1:(w.alloc (.cells #[.int .u8 (bv (BitVec.ofNat 8 (N/256))),.int .u8 (bv (BitVec.ofNat 8 N)),.int .u8 (bv (BitVec.ofNat 8 S.size))] 5)).heap.size=w.heap.size+1:=by simp
 change Rd b8 (w.alloc (.cells #[.int .u8 (bv (BitVec.ofNat 8 (N/256))),.int .u8 (bv (BitVec.ofNat 8 N)),.int .u8 (bv (BitVec.ofNat 8 S.size))] 5)) _ _ _ at r1
 generalize w.alloc (.cells #[.int .u8 (bv (BitVec.ofNat 8 (N/256))),.int .u8 (bv (BitVec.ofNat 8 N)),.int .u8 (bv (BitVec.ofNat 8 S.size))] 5)=w1 at r1 b1 z1 ⊢
 have r2:=rd_bytesWorld hS w1
 have b2:=below_bytesWorld S w1
 have z2:=Lib.bytesWorld_size w1 5 S
 generalize Lib.bytesWorld w1 5 S=w2 at r2 b2 z2 ⊢
 have r3:=Rd.new b8 w2 5 [0#8,0#8,0#8,0#8]
 have b3:=(Below.refl w2.heap.size w2).alloc (Nat.le_refl _) (.cells #[.int .u8 0,.int .u8 0,.int .u8 0,.int .u8 0] 5)
 have z3:(w2.alloc (.cells #[.int .u8 0,.int .u8 0,.int .u8 0,.int .u8 0] 5)).heap.size=w2.heap.size+1:=by simp
 change Rd b8 (w2.alloc (.cells #[.int .u8 0,.int .u8 0,.int .u8 0,.int .u8 0] 5)) _ _ _ at r3
 generalize w2.alloc (.cells #[.int .u8 0,.int .u8 0,.int .u8 0,.int .u8 0] 5)=w3 at r3 b3 z3 ⊢
 rw[z1]at r2
 rw[show w2.heap.size=w.heap.size+1+1 by omega]at r3
 have q1:Rd b8 w3 (w.heap.size+1) (some ⟨w.heap.size,0,none⟩) _:=(r1.below (b2.mono (by omega))).below (b3.mono (by omega))
 have q2:Rd b8 w3 (w.heap.size+1+1) (some ⟨w.heap.size+1,0,none⟩) lab:=r2.below (b3.mono (by omega))
 have hp:=pts_new w3 (w.heap.size+1+1+1) [((some ⟨w.heap.size,0,none⟩,3,3),[BitVec.ofNat 8 (N/256),BitVec.ofNat 8 N,BitVec.ofNat 8 S.size]),((some ⟨w.heap.size+1,0,none⟩,S.size,cap),lab),((some ⟨w.heap.size+1+1,0,none⟩,4,4),[0#8,0#8,0#8,0#8]),((none,0,0),[])]
  (by
   intro u hu
   simp only[List.mem_cons,List.not_mem_nil,or_false]at hu
   rcases hu with rfl|rfl|rfl|rfl
   ·exact q1.more (by omega)
   ·exact q2.more (by omega)
   ·exact r3
   ·exact Rd.nil_ _ _ _ _) (by
   intro u hu
   simp only[List.mem_cons,List.not_mem_nil,or_false]at hu
   rcases hu with rfl|rfl|rfl|rfl
   ·rfl
   ·exact hz
   ·rfl
   ·rfl) (by omega)
 rw[show w3.heap.size=w.heap.size+1+1+1 by omega]at hp
 refine(concat_any _ _ _ 0 4 4 _ hp (by simp;omega) rfl (by omega) (by simp;omega)).mono ?_
 rintro e w' ⟨v,rfl,ho,hb⟩
 refine⟨v,rfl,?_,?_⟩
 ·have h2:=ho.less (B':=w.heap.size) (by simp;omega)
  have e:labI lab N=([((some ⟨w.heap.size,0,none⟩,3,3),[BitVec.ofNat 8 (N/256),BitVec.ofNat 8 N,BitVec.ofNat 8 S.size]),((some ⟨w.heap.size+1,0,none⟩,S.size,cap),lab),((some ⟨w.heap.size+1+1,0,none⟩,4,4),[0#8,0#8,0#8,0#8]),((none,0,0),[])]:List Pt).flatMap fun p=>p.2:=by
   simp[labI,hz]
  rw[e];exact h2
 ·exact(((b1.trans (b2.mono (by omega))).trans (b3.mono (by omega))).alloc (by omega) _).trans (hb.mono (by simp;omega))
set_option maxRecDepth 100000 in
set_option maxHeartbeats 1000000 in
theorem info_any(w:World)(S:ByteArray)(lab:List (BitVec 8))(hS:StrOf S lab)(hl:lab.length≤255)(N:Nat)(hN:N≤8160):
 Calls Tryd.prog 71 #[.string S,.slice none 0 0,.int .i64 (N:Int)] w fun e w'=>∃v,e= .returned v∧Own b8 w' w.heap.size 5 v (labI lab N)∧Below w.heap.size w w':=by
 have e0:=wrap8L N
 have e1:IntKind.u8.wrap ((N:Int)/256)=bv (BitVec.ofNat 8 (N/256)):=by rw[←wrap8L];congr 1
 have e2:=wrap8L S.size
 have hcv:=fun w=>Lib.run_convert_string_bytes (P:=Tryd.prog) w 9 33 5 S Tryd.underlying9 Tryd.underlying33 Tryd.underlying5
 have hbs:=fun w=>Lib.bytesWorld_size w 5 S
 have hNi:(N:Int)≤8160:=by omega
 go_enter Tryd.func71,Tryd.ntmps71
 go_wp2_with fail
 refine(cat_info w S lab hS hl N _).mono ?_
 rintro e w' ⟨v,rfl,ho,hb⟩
 go_wp2_with fail
 go_ret
 exact⟨v,rfl,ho,hb⟩
set_option maxRecDepth 100000 in
set_option maxHeartbeats 2000000 in
theorem label_any(w:World)(sec:List (BitVec 8))(hsec:sec.length=32)(S:ByteArray)(lab:List (BitVec 8))(hS:StrOf S lab)(hl:lab.length≤255)(N:Nat)(hN:N≤8160):
 Calls Tryd.prog 58 #[arrV b8 sec,.string S,.slice none 0 0,.int .i64 (N:Int)] w fun e w'=>∃g,e= .returned (.tuple #[.slice (some ⟨g,0,none⟩) N N,.nilIface])∧
  Own b8 w' w.heap.size 5 (.slice (some ⟨g,0,none⟩) N N) (labV sec lab N)∧Below w.heap.size w w':=by
 have hz:=hS.size
 have h1:¬((S.size:Int)>255):=by omega
 have h2:¬((N:Int)<0):=by omega
 have h3:¬((N:Int)>8160):=by omega
 have HS:=qq hsec
 have HA0:=qq (Arr.new b8 w 29 sec)
 have HB0:=qq ((Below.refl w.heap.size w).alloc (Nat.le_refl _) (.cells (sec.map b8).toArray 29))
 have hz0:(w.alloc (.cells (sec.map b8).toArray 29)).heap.size=w.heap.size+1:=by simp
 have HI:=qq (fun w':World=>info_any w' S lab hS hl N hN)
 rw[arrV_mk]
 clear hsec hz
 go_enter Tryd.func58,Tryd.ntmps58
 go_upto_region 3 with fail
 generalize w.alloc (.cells (sec.map b8).toArray 29)=w1 at HA0 HB0 hz0 ⊢
 go_region_law (first
  |(go_simp;go_at_call 71;refine(HI.out _).mono ?_;rintro e w2 ⟨v2,rfl,ho2,hb2⟩;obtain⟨A2,c2,rfl,hr2,-,-,-⟩:=ho2.shape' (n:=lab.length+7) (labI_len _ _);have hbb2:Below w1.heap.size w1 w2:=(below_step (by(repeat' (first|assumption|exact Below.refl _ _|refine Below.drew ?_|refine Below.alloc ?_ ?_ _|omega|(simp;done)|(simp;omega)))) hb2);have HB2:=qq hbb2;have HR2:=qq hr2;have HA2:=qq (HA0.out.below hbb2 HA0.out.lt);clear ho2 hb2 hbb2 hr2)
  |(go_simp;go_at_call 70;refine(expand_any w2 w2.heap.size 32 32 w2.heap.size (lab.length+7) c2 N _ _ sec (labI lab N) ((HA2.out.rd 0).more HA2.out.lt) (Nat.le_refl _) HS.out.symm HR2.out (Nat.le_refl _) (labI_len _ _).symm (by omega) (by omega) hN).mono ?_;rintro e w3 ⟨g,rfl,ho3,hb3⟩;have HO3:=qq ho3;have HB3:=qq (HB2.out.trans (hb3.mono HB2.out.size));clear ho3 hb3))
 go_wp2_with fail
 go_ret2
 exact⟨g,rfl,HO3.out.less (by have:=HB2.out.size;omega),HB0.out.trans (HB3.out.mono (by omega))⟩
set_option maxRecDepth 100000 in
set_option maxHeartbeats 2000000 in
theorem derive_any(w:World)(sec:List (BitVec 8))(hsec:sec.length=32)(S:ByteArray)(lab:List (BitVec 8))(hS:StrOf S lab)(hl:lab.length≤255):
 Calls Tryd.prog 40 #[arrV b8 sec,.string S] w fun e w'=>e= .returned (arrV b8 (derV sec lab))∧Below w.heap.size w w':=by
 have HS:=qq hsec
 obtain⟨D,hD⟩:∃D,D=derV sec lab:=⟨_,rfl⟩
 have HDl:=qq (show D.length=32 by rw[hD];exact derV_len _ _)
 have HD:=qq hD
 obtain⟨w2,hw2⟩:∃w2,w2=(w.alloc (.cells (sec.map b8).toArray 29)).alloc (.cells ((List.replicate 32 0#8).map b8).toArray 29):=⟨_,rfl⟩
 have HA2:=qq (show Arr b8 w2 w.heap.size 29 sec by rw[hw2];exact(Arr.new b8 w 29 sec).alloc _)
 have HZ2:=qq (show Arr b8 w2 (w.heap.size+1) 29 (List.replicate 32 0#8) by
  rw[hw2];have h:=Arr.new b8 (w.alloc (.cells (sec.map b8).toArray 29)) 29 (List.replicate 32 0#8);rw[World.size_alloc]at h;exact h)
 have HB2:=qq (show Below w.heap.size w w2 by rw[hw2];exact((Below.refl _ w).alloc (Nat.le_refl _) _).alloc (by simp) _)
 have hz2:w2.heap.size=w.heap.size+2:=by rw[hw2];simp
 have HW2:=qq hw2
 rw[←hD,arrV_mk,arrV_mk]
 clear hsec hD hw2
 go_enter Tryd.func40,Tryd.ntmps40
 go_upto_region 1 with fail
 have hw2:=HW2.out
 simp only[show((List.replicate 32 0#8).map b8).toArray= #[Value.int .u8 0,Value.int .u8 0,Value.int .u8 0,Value.int .u8 0,Value.int .u8 0,Value.int .u8 0,Value.int .u8 0,Value.int .u8 0,Value.int .u8 0,Value.int .u8 0,Value.int .u8 0,Value.int .u8 0,Value.int .u8 0,Value.int .u8 0,Value.int .u8 0,Value.int .u8 0,Value.int .u8 0,Value.int .u8 0,Value.int .u8 0,Value.int .u8 0,Value.int .u8 0,Value.int .u8 0,Value.int .u8 0,Value.int .u8 0,Value.int .u8 0,Value.int .u8 0,Value.int .u8 0,Value.int .u8 0,Value.int .u8 0,Value.int .u8 0,Value.int .u8 0,Value.int .u8 0]from rfl]at hw2
 rw[←hw2]
 clear hw2
 have hlb:=label_any w2 sec HS.out S lab hS hl 32 (by omega)
 have eD:labV sec lab 32=D:=by rw[←derV_eq];exact HD.out.symm
 rw[arrV_mk,eD,show(((32:Nat):Nat):Int)=32 from rfl]at hlb
 have HL:=qq hlb
 clear hlb eD
 go_wp2_with (first|(refine wpList_load_arr rfl 29 (.tmp 2) rfl w.heap.size rfl _ sec HA2.out _ Tryd.underlying29 rfl (by rw[size32,HS.out]) ?_))
 refine HL.out.mono ?_
 rintro e w3 ⟨g,rfl,ho,hb⟩
 have HO3:=qq ho
 have HZ3:=qq (HZ2.out.below hb (by omega))
 have hz3:=hb.size
 have HB3:=qq (HB2.out.trans (hb.mono (by omega)))
 clear ho hb HZ2 HB2
 have hspl:splice ((List.replicate 32 0#8).map b8) 0 (D.map b8)=D.map b8:=by
  unfold splice
  rw[List.length_map,HDl.out]
  simp
 go_upto_region 3 with(refine wpList_copy_splice (o:=⟨some 15,_,_,_,_,_⟩) rfl (.tmp 13) (.tmp 14) 33 33 rfl 5 Tryd.underlying33 sizeU8 (some ⟨w.heap.size+1,0,none⟩) (some ⟨g,0,none⟩) 32 32 32 32 rfl rfl (w.heap.size+1) 0 ((List.replicate 32 0#8).map b8) 29 HZ3.out (D.map b8) (by rw[List.length_map,HDl.out];rfl) (fun hp=>⟨rfl,_,rfl,HO3.out.rd.cells rfl⟩) (by rw[List.length_map,List.length_map,List.length_replicate,HDl.out];omega) (fun v hv=>by obtain⟨x,-,rfl⟩:=List.mem_map.1 hv;exact b8_one x) w.heap.size w HB3.out (by omega) ?_;intro w4 hx4 hb4;have HX4:=qq (show Arr b8 w4 (w.heap.size+1) 29 D from by have:=hx4.out;rw[hspl]at this;exact this);have HB4:=qq hb4;clear hx4 hb4)
 refine wp_region_lit ?_
 refine wpList_load_arr rfl 29 (.tmp 4) rfl (w.heap.size+1) rfl _ D HX4.out _ Tryd.underlying29 rfl (by rw[size32,HDl.out]) ?_
 refine wpList_store_arr rfl 29 (.tmp 4) (.tmp 16) rfl (w.heap.size+1) rfl D rfl _ _ HX4.out rfl (by rw[size32,HDl.out]) b8_one' ?_
 intro w5 hx5 hg5
 go_wp2_with fail
 refine bodyPost_ret (v:= .agg (D.map b8).toArray) (results_arr (g:=w.heap.size+1) rfl _ _ _ _ _ rfl hx5 Tryd.underlying29 rfl (by rw[size32,HDl.out])) rfl ?_
 exact⟨rfl,HB4.out.grown hg5 HB4.out.size (fun k e=>by cases e;omega)⟩
theorem blk_setCells{g:Nat}{T:TypeId}:∀(ys pre old post:List Value) (w:World),old.length=ys.length→Blk w g T (pre++(old++post))→Blk (w.setCells g pre.length ys) g T (pre++(ys++post))∧w.grownBy (w.setCells g pre.length ys) (some g)
 | [],pre,[],post,w,_,h=>⟨h,World.grownBy.refl _ _⟩
 |y::ys,pre,x::old,post,w,hl,h=>by
  have h1:=h.set_ pre.length y
  have e:(pre++(x::old++post)).set pre.length y=(pre++ [y])++(old++post):=by
   rw[List.set_append];simp
  have ih:=blk_setCells ys (pre++ [y]) old post _ (by simpa using hl) (h1.cast e)
  rw[List.length_append,List.length_singleton]at ih
  rw[World.setCells]
  exact⟨ih.1.cast (by simp),grownBy_trans (grownBy_set w g pre.length y) ih.2 (fun _ e=> .inl e)⟩
theorem wpList_store_piece{P:Program}{ops:Array Oper}{rest:List Oper}{op:Oper}{a:Act}{w:World}{Q:Exit→Act→World→Prop}(hgd:op.guard=none)(ty:TypeId)(x y:Operand)(ho:op.op= .store ty x y)
 (g o:Nat)(hx:a.eval x= .pointer (some ⟨g,o,none⟩))(ys:List Value)(hy:a.eval y= .agg ys.toArray)(T:TypeId)(cs pre old post:List Value)(hA:Blk w g T cs)(e:cs=pre++(old++post))(hpo:pre.length=o)(hl:old.length=ys.length)
 (hi:(P.info? ty).map (·.size)=some ys.length)(h1:∀u∈ys,u.oneCell'=true)
 (h:∀w',Blk w' g T (pre++(ys++post))→w.grownBy w' (some g)→wpList P ops Q rest (a.put op.dst undef) w'):wpList P ops Q (op::rest) a w:=by
 subst e
 subst hpo
 obtain⟨h2,h3⟩:=blk_setCells ys pre old post w hl hA
 refine wpList_store_mid hgd ty x y ho g pre.length ys.toArray hx hy ?_ ?_ ?_ ?_
 ·exact hA.arr.there (by simp[hl])
 ·rw[hi];simp
 ·exact all_oneCell_toArray h1
 ·simp only
  exact h _ h2 h3
theorem wp_store_piece{P:Program}{op:Oper}{a:Act}{w:World}{K:Act→World→Prop}{Q:Exit→Act→World→Prop}(ty:TypeId)(x y:Operand)(ho:op.op= .store ty x y)
 (g o:Nat)(hx:a.eval x= .pointer (some ⟨g,o,none⟩))(ys:List Value)(hy:a.eval y= .agg ys.toArray)(T:TypeId)(cs pre old post:List Value)(hA:Blk w g T cs)(e:cs=pre++(old++post))(hpo:pre.length=o)(hl:old.length=ys.length)
 (hi:(P.info? ty).map (·.size)=some ys.length)(h1:∀u∈ys,u.oneCell'=true)
 (h:∀w',Blk w' g T (pre++(ys++post))→w.grownBy w' (some g)→K (a.put op.dst undef) w'):op.wp P a w K Q:=by
 subst e
 subst hpo
 obtain⟨h2,h3⟩:=blk_setCells ys pre old post w hl hA
 refine wp_store_mid ty x y ho g pre.length ys.toArray hx hy ?_ ?_ ?_ ?_
 ·exact hA.arr.there (by simp[hl])
 ·rw[hi];simp
 ·exact all_oneCell_toArray h1
 ·simp only
  exact h _ h2 h3
theorem results_blk_tmp{P:Program}{fn:Func}{p u:Tmp}{ty:TypeId}(h:fn.results= #[.cell p ty,.tmp u])(tmps:Array Value)(w:World)(g:Nat)(T:TypeId)(cs:List Value)(d:TypeDesc)(v:Value)
 (hp:tmps.getD p undef= .pointer (some ⟨g,0,none⟩))(hv:tmps.getD u undef=v)(hA:Blk w g T cs)(hu:P.underlying ty=some d)(hd:d.isRow=true)(hi:(P.info? ty).map (·.size)=some cs.length):
 (results fn tmps).run P w= .ok (.tuple #[.agg cs.toArray,v]) w:=by
 have h1:=results_arr_tmp (P:=P) h tmps w g T cs d v hp hv hA.arr hu hd hi
 rwa[List.map_id']at h1
end Go.Proofs.YtelgjaiknaalkaaDoor
namespace Go.Proofs.YtelgjaiknaalkaaDoor
open Go.ChangeShapes Go.WideShapes Go.ChangeAt Go.RowKit
section
variable{H:Type}{enc:TypeId×Value→H}{P:Program}{w:World}{base:Nat}{spare:Nat→Bool}{held:Bool}
theorem lt_of_cell{w:World}{a:Addr}{v:Value}(h:w.cell? a=some v):a.block<w.heap.size:=by
 rcases Nat.lt_or_ge a.block w.heap.size with hl|hl
 ·exact hl
 ·simp[World.cell?,Array.getElem?_eq_none hl]at h
theorem open_row{t e:TypeId}{k:IntKind}{fuel:Nat}{x:DataW H×List MemPlace}{A:Option Addr}{n c:Nat}(ht:P.underlying t=some (.slice e))(he:P.underlying e=some (.int k))(hc:P.cellsOf e=1)
 (h:DataW.trod enc P w base spare held fuel t (Value.slice A n c).cells.toList=some x):
 ∃zs:List Int,Rd (Value.int k) w w.heap.size A zs∧(∀z∈zs,(Lit.int k z).wf=true)∧zs.length=n∧n≤c∧c≤maxLen:=by
 rcases open_ints ht he hc h with⟨hcs,_⟩|⟨a,l,cap,zs,hcs,_,hl,hm,hz,_,hcell,hwf⟩
 ·simp[Value.cells]at hcs
  obtain⟨rfl,rfl,rfl⟩:=hcs
  exact⟨[],Rd.nil_ _ _ _ _,by simp,rfl,Nat.le_refl _,by simp[maxLen]⟩
 ·simp[Value.cells]at hcs
  obtain⟨rfl,rfl,rfl⟩:=hcs
  have hzl:n≤zs.length:=by rw[hz];split<;>omega
  refine⟨zs.take n,fun hp=>?_,fun z hz=>hwf z (List.mem_of_mem_take hz),by rw[List.length_take];omega,hl,hm⟩
  rw[List.length_take]at hp
  have h0:=hcell 0 (by omega)
  obtain⟨b,off,spot⟩:=a
  have hspot:spot=none:=by simpa[Addr.add]using World.cell?_spot h0
  subst hspot
  refine⟨b,off,rfl,lt_of_cell (a:=⟨b,off,none⟩) (by simpa[Addr.add]using h0),fun j u hu=>?_⟩
  rw[List.getElem?_take]at hu
  split at hu
  ·have hj:j<zs.length:=(List.getElem?_eq_some_iff.1 hu).1
   have:=hcell j hj
   rw[Addr.add_lit]at this
   rw[this,List.getD,hu];rfl
  ·cases hu
end
end Go.Proofs.YtelgjaiknaalkaaDoor
namespace Go.Proofs.YtelgjaiknaalkaaDoor
open Go.RowKit Go.ChangeShapes Go.WideShapes Go.ChangeAt
theorem list_of32{α:Type}{xs:List α}(h:xs.length=32):∃x0 x1 x2 x3 x4 x5 x6 x7 x8 x9 x10 x11 x12 x13 x14 x15 x16 x17 x18 x19 x20 x21 x22 x23 x24 x25 x26 x27 x28 x29 x30 x31,xs=[x0,x1,x2,x3,x4,x5,x6,x7,x8,x9,x10,x11,x12,x13,x14,x15,x16,x17,x18,x19,x20,x21,x22,x23,x24,x25,x26,x27,x28,x29,x30,x31]:=
 match xs,h with
 | [x0,x1,x2,x3,x4,x5,x6,x7,x8,x9,x10,x11,x12,x13,x14,x15,x16,x17,x18,x19,x20,x21,x22,x23,x24,x25,x26,x27,x28,x29,x30,x31],_=>⟨x0,x1,x2,x3,x4,x5,x6,x7,x8,x9,x10,x11,x12,x13,x14,x15,x16,x17,x18,x19,x20,x21,x22,x23,x24,x25,x26,x27,x28,x29,x30,x31,rfl⟩
theorem wpList_bparts{P:Program}{ops:Array Oper}{rest:List Oper}{op:Oper}{a:Act}{w:World}{Q:Exit→Act→World→Prop}(hgd:op.guard=none)(t:TypeId)(parts:List (Nat×Operand))(ho:op.op= .build t parts.toArray)
 (cells:Array Value)(vals:List (Nat×Value))(hv:parts.map (fun x=>(x.1,a.eval x.2))=vals)(hb:P.built t vals=some cells)(h:wpList P ops Q rest (a.put op.dst (.agg cells)) w):wpList P ops Q (op::rest) a w:=by
 refine wpList_plain hgd fun K hK=>?_
 have hr:=run_build (P:=P) w t vals.toArray cells hb
 rw[←hv,←List.map_toArray]at hr
 unfold Oper.wp execOp
 simp only[ho]
 have e:(parts.toArray.map fun(i,x)=>(i,a.eval x))=parts.toArray.map (fun x=>(x.1,a.eval x.2)):=rfl
 rw[e]
 simp only[Sem.run_bind,Sem.run_pure,Result.andThen_ok,hr,Oper.upon_value]
 exact hK _ _ h
end Go.Proofs.YtelgjaiknaalkaaDoor
