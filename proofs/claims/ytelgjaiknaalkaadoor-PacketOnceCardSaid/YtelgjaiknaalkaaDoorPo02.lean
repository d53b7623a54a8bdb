/- Lemmas, joined and made smaller by a program. -/
import Derived.Test.YtelgjaiknaalkaaDoorPo01
import Derived.Lib.Hide
import Derived.Maps.AppendAt
import Derived.Laws.OwnMore
import Derived.Deep.Draws
import Derived.Laws.BytesString
import Derived.Laws.CopyOwn
import Derived.Laws.Rows
import Derived.Deep.MidRow
import Derived.RangeFuncBox
import Derived.Test.YtelgjaiknaalkaaDoorRows
import Derived.WalkSpells
import Derived.WalkLawsBesides
import Derived.Deep.QuietTactic
import Derived.Deep.RegionHeld3
import Derived.BigQuiet
import Derived.Deep.RegionLaw
import Derived.Deep.RegionWith
set_option linter.unusedVariables false
set_option linter.unusedSimpArgs false
namespace Go.Proofs.YtelgjaiknaalkaaDoor
structure S8(n:Nat) where
 a:BitVec n
 b:BitVec n
 c:BitVec n
 d:BitVec n
 e:BitVec n
 f:BitVec n
 g:BitVec n
 h:BitVec n
section
variable{n:Nat}
def S8.list(s:S8 n):List (BitVec n):=[s.a,s.b,s.c,s.d,s.e,s.f,s.g,s.h]
theorem S8.list_len(s:S8 n):s.list.length=8:=rfl
def S8.add(s t:S8 n):S8 n:=⟨s.a+t.a,s.b+t.b,s.c+t.c,s.d+t.d,s.e+t.e,s.f+t.f,s.g+t.g,s.h+t.h⟩
structure Sha(n:Nat) where
 S0:BitVec n→BitVec n
 S1:BitVec n→BitVec n
 s0:BitVec n→BitVec n
 s1:BitVec n→BitVec n
 word:List (BitVec 8)→Nat→BitVec n
 K:List (BitVec n)
 size:Nat
def Sha.step(c:Sha n)(k w:BitVec n)(s:S8 n):S8 n:=
 let t1:=s.h+c.S1 s.e+(s.e&&&s.f^^^ ~~~s.e&&&s.g)+k+w
 let t2:=c.S0 s.a+(s.a&&&s.b^^^s.a&&&s.c^^^s.b&&&s.c)
 ⟨t1+t2,s.a,s.b,s.c,s.d+t1,s.e,s.f,s.g⟩
def Sha.rounds(c:Sha n)(w:List (BitVec n))(s:S8 n):Nat→S8 n
 |0=>s
 |i+1=>c.step (c.K.getD i 0) (w.getD i 0) (c.rounds w s i)
def Sha.next(c:Sha n)(p:List (BitVec 8))(l:List (BitVec n)):BitVec n:=
 if l.length<16 then c.word p l.length else c.s1 (l.getD (l.length-2) 0)+l.getD (l.length-7) 0+c.s0 (l.getD (l.length-15) 0)+l.getD (l.length-16) 0
def Sha.sched(c:Sha n)(p:List (BitVec 8)):Nat→List (BitVec n)
 |0=> []
 |i+1=>c.sched p i++ [c.next p (c.sched p i)]
theorem Sha.sched_len(c:Sha n)(p:List (BitVec 8))(i:Nat):(c.sched p i).length=i:=by
 induction i with
 |zero=>rfl
 |succ i ih=>rw[Sha.sched,List.length_append,ih];rfl
def Sha.piece(c:Sha n)(s:S8 n)(p:List (BitVec 8)):S8 n:=s.add (c.rounds (c.sched p c.K.length) s c.K.length)
def Sha.pieces(c:Sha n):Nat→List (BitVec 8)→S8 n→S8 n
 |0,_,s=>s
 |k+1,bs,s=>Sha.pieces c k (bs.drop c.size) (c.piece s (bs.take c.size))
theorem Sha.pieces_add(c:Sha n)(j k:Nat)(bs:List (BitVec 8))(s:S8 n):c.pieces (j+k) bs s=c.pieces k (bs.drop (j*c.size)) (c.pieces j bs s):=by
 induction j generalizing bs s with
 |zero=>simp[Sha.pieces]
 |succ j ih=>
  rw[Nat.succ_add,Sha.pieces,Sha.pieces,ih,List.drop_drop]
  congr 2
  rw[Nat.succ_mul];omega
theorem Sha.pieces_app(c:Sha n)(k:Nat)(bs r:List (BitVec 8))(s:S8 n)(h:k*c.size≤bs.length):c.pieces k (bs++r) s=c.pieces k bs s:=by
 induction k generalizing bs s with
 |zero=>rfl
 |succ k ih=>
  rw[Nat.succ_mul]at h
  rw[Sha.pieces,Sha.pieces,List.take_append_of_le_length (by omega),List.drop_append_of_le_length (by omega),ih _ _ (by rw[List.length_drop];omega)]
end
def rotl{n:Nat}(x:BitVec n)(k:Nat):BitVec n:=x<<<k|||x>>>(n-k)
def word32(a b c d:BitVec 8):BitVec 32:=a.setWidth 32<<<24|||b.setWidth 32<<<16|||c.setWidth 32<<<8|||d.setWidth 32
def K64:List (BitVec 64):=[
 0x428a2f98d728ae22,0x7137449123ef65cd,0xb5c0fbcfec4d3b2f,0xe9b5dba58189dbbc,
 0x3956c25bf348b538,0x59f111f1b605d019,0x923f82a4af194f9b,0xab1c5ed5da6d8118,
 0xd807aa98a3030242,0x12835b0145706fbe,0x243185be4ee4b28c,0x550c7dc3d5ffb4e2,
 0x72be5d74f27b896f,0x80deb1fe3b1696b1,0x9bdc06a725c71235,0xc19bf174cf692694,
 0xe49b69c19ef14ad2,0xefbe4786384f25e3,0x0fc19dc68b8cd5b5,0x240ca1cc77ac9c65,
 0x2de92c6f592b0275,0x4a7484aa6ea6e483,0x5cb0a9dcbd41fbd4,0x76f988da831153b5,
 0x983e5152ee66dfab,0xa831c66d2db43210,0xb00327c898fb213f,0xbf597fc7beef0ee4,
 0xc6e00bf33da88fc2,0xd5a79147930aa725,0x06ca6351e003826f,0x142929670a0e6e70,
 0x27b70a8546d22ffc,0x2e1b21385c26c926,0x4d2c6dfc5ac42aed,0x53380d139d95b3df,
 0x650a73548baf63de,0x766a0abb3c77b2a8,0x81c2c92e47edaee6,0x92722c851482353b,
 0xa2bfe8a14cf10364,0xa81a664bbc423001,0xc24b8b70d0f89791,0xc76c51a30654be30,
 0xd192e819d6ef5218,0xd69906245565a910,0xf40e35855771202a,0x106aa07032bbd1b8,
 0x19a4c116b8d2d0c8,0x1e376c085141ab53,0x2748774cdf8eeb99,0x34b0bcb5e19b48a8,
 0x391c0cb3c5c95a63,0x4ed8aa4ae3418acb,0x5b9cca4f7763e373,0x682e6ff3d6b2b8a3,
 0x748f82ee5defb2fc,0x78a5636f43172f60,0x84c87814a1f0ab72,0x8cc702081a6439ec,
 0x90befffa23631e28,0xa4506cebde82bde9,0xbef9a3f7b2c67915,0xc67178f2e372532b,
 0xca273eceea26619c,0xd186b8c721c0c207,0xeada7dd6cde0eb1e,0xf57d4f7fee6ed178,
 0x06f067aa72176fba,0x0a637dc5a2c898a6,0x113f9804bef90dae,0x1b710b35131c471b,
 0x28db77f523047d84,0x32caab7b40c72493,0x3c9ebe0a15c9bebc,0x431d67c49c100d4c,
 0x4cc5d4becb3e42b6,0x597f299cfc657e2a,0x5fcb6fab3ad6faec,0x6c44198c4a475817]
def K32:List (BitVec 32):=(K64.take 64).map fun(x:BitVec 64)=>(x>>>32).setWidth 32
def sha32:Sha 32 where
 S0 x:=rotl x 30^^^rotl x 19^^^rotl x 10
 S1 x:=rotl x 26^^^rotl x 21^^^rotl x 7
 s0 x:=rotl x 25^^^rotl x 14^^^x>>>3
 s1 x:=rotl x 15^^^rotl x 13^^^x>>>10
 word p i:=word32 (p.getD (4*i) 0) (p.getD (4*i+1) 0) (p.getD (4*i+2) 0) (p.getD (4*i+3) 0)
 K:=K32
 size:=64
def bytes32(x:BitVec 32):List (BitVec 8):=[(x>>>24).setWidth 8,(x>>>16).setWidth 8,(x>>>8).setWidth 8,x.setWidth 8]
def beN(v:Nat):Nat→List (BitVec 8)
 |0=> []
 |k+1=>BitVec.ofNat 8 (v/256^k)::beN v k
theorem beN_len(v k:Nat):(beN v k).length=k:=by
 induction k with
 |zero=>rfl
 |succ k ih=>rw[beN,List.length_cons,ih]
def padZ(n piece size:Nat):Nat:=(2*piece-size-1-n % piece) % piece
def padded(rest:List (BitVec 8))(n piece size:Nat):List (BitVec 8):=rest++128#8::(List.replicate (padZ rest.length piece size) 0#8++beN (8*n) size)
def begin32:S8 32:=⟨0x6a09e667,0xbb67ae85,0x3c6ef372,0xa54ff53a,0x510e527f,0x9b05688c,0x1f83d9ab,0x5be0cd19⟩
def begin64:S8 64:=⟨0x6a09e667f3bcc908,0xbb67ae8584caa73b,0x3c6ef372fe94f82b,0xa54ff53a5f1d36f1,0x510e527fade682d1,0x9b05688c2b3e6c1f,0x1f83d9abfb41bd6b,0x5be0cd19137e2179⟩
def sum32(t:List (BitVec 8)):List (BitVec 8):=(sha32.pieces ((padded t t.length 64 8).length/64) (padded t t.length 64 8) begin32).list.flatMap bytes32
end Go.Proofs.YtelgjaiknaalkaaDoor
namespace Go.Proofs.YtelgjaiknaalkaaDoor
open Go.RowKit
theorem below_step{w W w':World}(h:Below w.heap.size w W)(hb:Below W.heap.size W w'):Below w.heap.size w w':=h.trans (hb.mono h.size)
theorem below_drewN{B:Nat}{a w:World}(h:Below B a w)(n:Nat):Below B a (w.drewN n):=⟨h.os,h.tape,h.output,h.size,h.block⟩
def b8(x:BitVec 8):Value:= .int .u8 (bv x)
theorem b8_eq(x:BitVec 8):b8 x= .int .u8 (bv x):=rfl
def Rd{α:Type}(f:α→Value)(w:World)(B:Nat)(A:Option Addr)(xs:List α):Prop:=
 0<xs.length→∃b off,A=some ⟨b,off,none⟩∧b<B∧∀j u,xs[j]?=some u→w.cell? ⟨b,off+j,none⟩=some (f u)
section
variable{α:Type}{f:α→Value}{w w':World}{B B':Nat}{A:Option Addr}{xs:List α}
theorem Rd.nil_(f:α→Value)(w:World)(B:Nat)(A:Option Addr):Rd f w B A []:=fun h=>absurd h (by simp)
theorem Rd.at_(h:Rd f w B A xs){k:Nat}(hk:k<xs.length):∃b off,A=some ⟨b,off,none⟩∧b<B∧w.cell? ⟨b,off+k,none⟩=some (f xs[k]):=by
 obtain⟨b,off,e,hb,hc⟩:=h (by omega)
 exact⟨b,off,e,hb,hc k _ (List.getElem?_eq_getElem hk)⟩
theorem Rd.keep(h:Rd f w B A xs)(hk:∀p:Addr,p.block<B→w'.cell? p=w.cell? p):Rd f w' B A xs:=fun hn=>by
 obtain⟨b,off,e,hb,hc⟩:=h hn
 exact⟨b,off,e,hb,fun j u hu=>(hk _ hb).trans (hc j u hu)⟩
theorem Rd.more(h:Rd f w B A xs)(hB:B≤B'):Rd f w B' A xs:=fun hn=>by
 obtain⟨b,off,e,hb,hc⟩:=h hn
 exact⟨b,off,e,by omega,hc⟩
theorem Rd.below(h:Rd f w B A xs)(hb:Below B w w'):Rd f w' B A xs:=h.keep fun _ hp=>hb.cell hp
theorem Rd.drew(h:Rd f w B A xs):Rd f w.drew B A xs:=h
theorem Rd.drewN(h:Rd f w B A xs)(k:Nat):Rd f (w.drewN k) B A xs:=h
theorem Rd.alloc(h:Rd f w B A xs)(hB:B≤w.heap.size)(o:Obj):Rd f (w.alloc o) B A xs:=h.keep fun p hp=>World.cell?_alloc_lt w o p (by omega)
theorem Rd.take(h:Rd f w B A xs)(k:Nat):Rd f w B A (xs.take k):=fun hn=>by
 rw[List.length_take]at hn
 obtain⟨b,off,e,hb,hc⟩:=h (by omega)
 refine⟨b,off,e,hb,fun j u hu=>hc j u ?_⟩
 rw[List.getElem?_take]at hu
 split at hu
 ·exact hu
 ·cases hu
theorem Rd.drop(h:Rd f w B A xs)(k:Nat):Rd f w B (A.map (·.add k)) (xs.drop k):=fun hn=>by
 rw[List.length_drop]at hn
 obtain⟨b,off,rfl,hb,hc⟩:=h (by omega)
 refine⟨b,off+k,by simp[Addr.add_lit],hb,fun j u hu=>?_⟩
 rw[List.getElem?_drop]at hu
 rw[Nat.add_assoc]
 exact hc _ u hu
theorem Rd.cells(h:Rd f w B A xs){a:Addr}(ha:A=some a):∀j u,(xs.map f)[j]?=some u→w.cell? (a.add j)=some u:=by
 intro j u hu
 rw[List.getElem?_map,Option.map_eq_some_iff]at hu
 obtain⟨x,hx,rfl⟩:=hu
 have hl:j<xs.length:=by
  rcases Nat.lt_or_ge j xs.length with h|h
  ·exact h
  ·rw[List.getElem?_eq_none h]at hx;cases hx
 obtain⟨b,off,e,hb,hc⟩:=h (by omega)
 rw[ha]at e
 injection e with e
 subst e
 rw[Addr.add_lit]
 exact hc j x hx
end
def Own{α:Type}(f:α→Value)(w:World)(B:Nat)(E:TypeId)(v:Value)(xs:List α):Prop:=w.ownsRow B E 1 v xs.length (xs.map f)
section
variable{α:Type}{f:α→Value}{w w':World}{B:Nat}{E:TypeId}{v:Value}{xs:List α}
theorem Own.shape(h:Own f w B E v xs):∃A c,v= .slice A xs.length c∧Rd f w w.heap.size A xs∧(A=none→c=0)∧xs.length≤c∧c≤maxLen:=by
 rcases h.2 with⟨rfl,h0⟩|⟨g,cap,cur,rfl,hb,hg,hn,hm,hs,ht⟩
 ·have e:xs=[]:=List.eq_nil_of_length_eq_zero h0
  subst e
  exact⟨none,0,rfl,Rd.nil_ _ _ _ _,fun _=>rfl,Nat.le_refl _,by simp[maxLen]⟩
 ·refine⟨_,cap,rfl,fun hpos=>⟨g,0,rfl,?_,fun j u hu=>?_⟩,(fun e=>by cases e),hn,hm⟩
  ·rcases Nat.lt_or_ge g w.heap.size with hl|hl
   ·exact hl
   ·rw[Array.getElem?_eq_none hl]at hg;cases hg
  ·rw[Nat.zero_add,cell_of_row w g j cur E (0,0) hg]
   have h1:(xs.map f)[j]?=some (f u):=by rw[List.getElem?_map,hu];rfl
   rw[←ht,List.getElem?_take]at h1
   split at h1
   ·simpa using h1
   ·cases h1
theorem Own.form(h:Own f w B E v xs)(hn:0<xs.length):∃g cap,v= .slice (some ⟨g,0,none⟩) xs.length cap∧B≤g∧g<w.heap.size∧xs.length≤cap:=by
 rcases h.2 with⟨rfl,h0⟩|⟨g,cap,cur,rfl,hb,hg,hn',hm,hs,ht⟩
 ·omega
 ·refine⟨g,cap,rfl,hb,?_,hn'⟩
  rcases Nat.lt_or_ge g w.heap.size with hl|hl
  ·exact hl
  ·rw[Array.getElem?_eq_none hl]at hg;cases hg
theorem Own.form'{n:Nat}(h:Own f w B E v xs)(hn:xs.length=n)(hp:0<n):∃g cap,v= .slice (some ⟨g,0,none⟩) n cap∧B≤g∧g<w.heap.size∧n≤cap:=by
 subst hn;exact h.form hp
theorem Own.shape'{n:Nat}(h:Own f w B E v xs)(hn:xs.length=n):∃A c,v= .slice A n c∧Rd f w w.heap.size A xs∧(A=none→c=0)∧n≤c∧c≤maxLen:=by
 subst hn;exact h.shape
theorem Own.at_{g cap n:Nat}(h:Own f w B E (.slice (some ⟨g,0,none⟩) n cap) xs){k:Nat}(hk:k<xs.length):
 w.cell? ⟨g,k,none⟩=some (f xs[k])∧w.frozen? ⟨g,k,none⟩=false:=by
 have hn:n=xs.length:=by
  rcases h.2 with⟨e,_⟩|⟨g',cap',cur,e,_⟩<;>simp at e
  omega
 subst hn
 refine⟨?_,World.ownsRow.frozenAt h k⟩
 rw[World.ownsRow.cellAt h k (by omega),List.getElem?_map,List.getElem?_eq_getElem hk]
 rfl
theorem Own.set_{g cap n:Nat}(h:Own f w B E (.slice (some ⟨g,0,none⟩) n cap) xs)(k:Nat)(u:α):
 Own f (w.setCell ⟨g,k,none⟩ (f u)) B E (.slice (some ⟨g,0,none⟩) n cap) (xs.set k u)∧w.grownBy (w.setCell ⟨g,k,none⟩ (f u)) (some g):=by
 have hn:n=xs.length:=by
  rcases h.2 with⟨e,_⟩|⟨g',cap',cur,e,_⟩<;>simp at e
  omega
 subst hn
 have:=World.ownsRow.stored h k (f u)
 refine⟨?_,this.2⟩
 unfold Own
 rw[List.length_set,List.map_set]
 exact this.1
theorem Own.alloc(h:Own f w B E v xs)(o:Obj):Own f (w.alloc o) B E v xs:=World.ownsRow.alloc h o
theorem Own.drew(h:Own f w B E v xs):Own f w.drew B E v xs:=h
theorem Own.lt(h:Own f w B E v xs):∀k,v.ownBlock=some k→B≤k∧k<w.heap.size:=World.ownsRow.lt h
theorem Own.kept(h:Own f w B E v xs){row:Option Nat}(hg:w.grownBy w' row)(hne:v.ownBlock=none∨v.ownBlock≠row):Own f w' B E v xs:=World.ownsRow.kept h hg hne
theorem Own.below(h:Own f w B E v xs){C:Nat}(hb:Below C w w')(hC:w.heap.size≤C):Own f w' B E v xs:=
 Own.kept h (row:=none) ⟨hb.os,hb.tape,hb.output,hb.size,fun k hk _=>hb.block k (by omega)⟩ (by
  cases hv:v.ownBlock with
  |none=>exact .inl rfl
  |some k=>exact .inr (by simp))
theorem Own.less(h:Own f w B E v xs){B':Nat}(hB:B'≤B):Own f w B' E v xs:=by
 refine⟨h.1,?_⟩
 rcases h.2 with h|⟨g,cap,cur,e,hb,hg,hr⟩
 ·exact .inl h
 ·exact .inr ⟨g,cap,cur,e,by omega,hg,hr⟩
theorem Own.nil_(f:α→Value)(w:World)(B:Nat)(E:TypeId):Own f w B E (.slice none 0 0) []:=World.ownsRow_nil w B E 1
theorem Own.lit(f:α→Value)(w:World)(B:Nat)(E:TypeId)(xs:List α)(hb:B≤w.heap.size)(hm:xs.length≤maxLen):
 Own f (w.alloc (.cells (xs.map f).toArray E)) B E (.slice (some ⟨w.heap.size,0,none⟩) xs.length xs.length) xs:=by
 have:=World.ownsRow_lit (base:=B) (e:=E) (size:=1) w (xs.map f).toArray xs.length hb hm (by simp)
 simpa[Own]using this
theorem Own.cast{ys:List α}(h:Own f w B E v xs)(e:xs=ys):Own f w B E v ys:=e▸h
end
def Grew(w w':World)(v v':Value):Prop:=
 (v'=v∧w'=w)∨(∃g n n' c,v= .slice (some ⟨g,0,none⟩) n c∧v'= .slice (some ⟨g,0,none⟩) n' c∧w.grownBy w' (some g))∨(v'.ownBlock=some w.heap.size∧w.grownBy w' none)
theorem grownBy_any{w w':World}(h:w.grownBy w' none)(row:Option Nat):w.grownBy w' row:=⟨h.os,h.tape,h.output,h.size,fun k hk _=>h.block k hk (by simp)⟩
theorem Grew.by_{w w':World}{v v':Value}(h:Grew w w' v v'):w.grownBy w' v.ownBlock:=by
 rcases h with⟨_,rfl⟩|⟨g,n,n',c,rfl,rfl,hg⟩|⟨_,hg⟩
 ·exact World.grownBy.refl _ _
 ·exact hg
 ·exact grownBy_any hg _
theorem Grew.at_{w w':World}{v v':Value}(h:Grew w w' v v'):v'.ownBlock=v.ownBlock∨v'.ownBlock=some w.heap.size:=by
 rcases h with⟨rfl,_⟩|⟨g,n,n',c,rfl,rfl,hg⟩|⟨h,hg⟩
 ·exact .inl rfl
 ·exact .inl rfl
 ·exact .inr h
theorem Grew.bel{α:Type}{f:α→Value}{w w':World}{v v':Value}{base E:Nat}{xs:List α}(h:Grew w w' v v')(hown:Own f w base E v xs)(hbase:base≤w.heap.size){C:Nat}{w0:World}(hC:C≤base)(hb:Below C w0 w):Below C w0 w':=
 hb.grown h.by_ (by omega) (fun k hk=>by have:=(hown.lt k hk).1;omega)
section
variable{α:Type}{f:α→Value}{P:Program}{w:World}
theorem run_append_grew(hf:∀x,(f x).oneCell'=true)(base:Nat)(t ty e:TypeId)(i:TypeInfo)(z:Value)(bytes:Nat)(ht:P.underlying t=some (.slice e))(hi:P.info? e=some i)(hz:i.zero=some z)
 (hsize:i.size=1)(hby:i.bytes=bytes)(hzs:z.cells.size=1)
 (v:Value)(xs:List α)(hown:Own f w base e v xs)
 (B:Nat)(A:Option Addr)(c:Nat)(ys:List α)(hr:Rd f w B A ys)
 (h63:xs.length+ys.length≤maxLen)(hbytes:(xs.length+ys.length)*bytes≤140737488355328)(hbase:base≤w.heap.size):
 ∃v' w',(Builtin.append_ #[t,t] ty #[v,.slice A ys.length c]).run P w= .ok v' w'∧Own f w' base e v' (xs++ys)∧Grew w w' v v':=by
 have hnil:ys=[]→(Builtin.append_ #[t,t] ty #[v,.slice none ys.length c]).run P w= .ok v w:=by
  rintro rfl
  rcases hown.2 with⟨rfl,_⟩|⟨g,cap,cur,rfl,_,_,hnc,_⟩
  ·simp[Builtin.append_,run_underlying ht,sizeOf,typeInfo,hi,Builtin.lenOf,Builtin.firstCells]
  ·simp[Builtin.append_,run_underlying ht,sizeOf,typeInfo,hi,Builtin.lenOf,Builtin.firstCells,hnc,storeCells]
 rcases A with _|ad
 ·have hm:ys=[]:=by
   rcases Nat.eq_zero_or_pos ys.length with h0|h0
   ·exact List.eq_nil_of_length_eq_zero h0
   ·obtain⟨b,off,h,_⟩:=hr h0
    cases h
  exact⟨v,w,hnil hm,by subst hm;simpa using hown,.inl ⟨rfl,rfl⟩⟩
 have hcells:=hr.cells rfl
 have h1:∀u∈ys.map f,u.oneCell'=true:=by intro u hu;obtain⟨x,_,rfl⟩:=List.mem_map.1 hu;exact hf x
 have hsmall:xs.length+ys.length≤9223372036854775807:=by simp only[maxLen]at h63;omega
 have grown:∀(old:Nat),old<xs.length+ys.length→
  Own f (w.drew.alloc (.cells ((xs.map f).toArray++(ys.map f).toArray++Builtin.zeroCells z.cells (grownCap w (xs.length+ys.length) old e-(xs.length+ys.length))) e)) base e
   (.slice (some ⟨w.heap.size,0,none⟩) (xs.length+ys.length) (grownCap w (xs.length+ys.length) old e)) (xs++ys)∧
  w.grownBy (w.drew.alloc (.cells ((xs.map f).toArray++(ys.map f).toArray++Builtin.zeroCells z.cells (grownCap w (xs.length+ys.length) old e-(xs.length+ys.length))) e)) none:=by
  intro old ho
  have hge:=grownCap_ge w (xs.length+ys.length) old e
  have hcm:=grownCap_le_maxLen w (xs.length+ys.length) old e h63
  refine⟨⟨by simp,.inr ⟨w.heap.size,_,_,by rw[List.length_append],hbase,heap_alloc_new w.drew _,by rw[List.length_append];exact hge,hcm,?_,?_⟩⟩,⟨rfl,rfl,rfl,by simp,fun k hk _=>heap_alloc_old w.drew _ hk⟩⟩
  ·simp only[Array.size_append,List.size_toArray,List.length_map,size_zeroCells,hzs]
   omega
  ·simp only[Array.toList_append,Nat.mul_one]
   rw[←List.map_append,List.take_append_of_le_length (by simp)]
   exact List.take_of_length_le (by simp)
 rcases hown.2 with⟨rfl,h0⟩|⟨g,cap,cur,rfl,hbg,hg,hnc,hcm,hcs,htake⟩
 ·have hx:xs=[]:=List.eq_nil_of_length_eq_zero h0
  subst hx
  rcases Nat.eq_zero_or_pos ys.length with hm|hm
  ·have hy:ys=[]:=List.eq_nil_of_length_eq_zero hm
   subst hy
   refine⟨.slice none 0 0,w,?_,Own.nil_ f w base e,.inl ⟨rfl,rfl⟩⟩
   simp[Builtin.append_,run_underlying ht,sizeOf,typeInfo,hi,Builtin.lenOf,Builtin.firstCells,loadCells,loadCellsFrom]
  ·have hr:=run_append_nil (P:=P) w t ty e i z ht hi hz ad ys.length c (ys.map f) (by simp[hsize]) hcells hm (by simp at hsmall;omega) (by rw[hby];have hb:=hbytes;simp only[List.length_nil,Nat.zero_add]at hb;omega)
   have hgr:=grown 0 (by simpa using hm)
   simp only[List.length_nil,Nat.zero_add,List.map_nil,List.nil_append,Array.empty_append]at hgr ⊢
   exact⟨_,_,hr,hgr.1,.inr (.inr ⟨rfl,hgr.2⟩)⟩
 ·by_cases hroom:xs.length+ys.length≤cap
  ·obtain⟨w',hr,ho,hgr⟩:=run_append_fits (P:=P) w base t ty e i 1 ht hi hsize g xs.length cap (xs.map f) hown ad ys.length c (ys.map f) (by simp) hcells h1 hroom
   exact⟨_,w',hr,by unfold Own;rw[List.length_append,List.map_append];exact ho,.inr (.inl ⟨g,_,_,cap,rfl,rfl,hgr⟩)⟩
  ·have holds:∀j u,(xs.map f)[j]?=some u→w.cell? ((⟨g,0,none⟩:Addr).add j)=some u:=World.ownsRow.cells (g:=g) hown rfl
   have hr:=run_append_grow (P:=P) w t ty e i z ht hi hz ⟨g,0,none⟩ xs.length cap (xs.map f) (by simp[hsize]) holds ad ys.length c (ys.map f) (by simp[hsize]) hcells (by omega) (by omega) (by rw[hby];exact growslice_fits (by omega) hbytes)
   have hgr:=grown cap (by omega)
   exact⟨_,_,hr,hgr.1,.inr (.inr ⟨rfl,hgr.2⟩)⟩
theorem wpList_append_rd{ops:Array Oper}{rest:List Oper}{o:Oper}{a:Act}{Q:Exit→Act→World→Prop}(hgd:o.guard=none)(s x:Operand)(t:TypeId)
 (ho:o.op= .call {callee:= .builtin .append,args:= #[s,x],argTypes:= #[t,t]})
 (hf:∀x,(f x).oneCell'=true)(base:Nat)(e:TypeId)(i:TypeInfo)(z:Value)(bytes:Nat)(ht:P.underlying t=some (.slice e))(hi:P.info? e=some i)(hz:i.zero=some z)
 (hsize:i.size=1)(hby:i.bytes=bytes)(hzs:z.cells.size=1)
 (v:Value)(xs:List α)(hs:a.eval s=v)(hown:Own f w base e v xs)
 (B:Nat)(A:Option Addr)(m c:Nat)(ys:List α)(hx:a.eval x= .slice A m c)(hm:m=ys.length)(hr:Rd f w B A ys)
 (h63:xs.length+ys.length≤maxLen)(hbytes:(xs.length+ys.length)*bytes≤140737488355328)(hbase:base≤w.heap.size)
 (h:∀v' w',Own f w' base e v' (xs++ys)→Grew w w' v v'→(∀C w0,C≤base→Below C w0 w→Below C w0 w')→wpList P ops Q rest (a.put o.dst v') w'):wpList P ops Q (o::rest) a w:=by
 subst hm
 refine wpList_plain hgd fun K hK=>?_
 obtain⟨v',w',hrun,h2,h3⟩:=run_append_grew (P:=P) hf base t o.type e i z bytes ht hi hz hsize hby hzs v xs hown B A c ys hr h63 hbytes hbase
 unfold Oper.wp execOp
 simp only[ho,resolve,invoke,builtin,Sem.run_bind,Sem.run_pure,Result.andThen_ok,List.map_toArray,List.map_cons,List.map_nil,hs,hx,hrun]
 exact hK _ _ (h v' w' h2 h3 (fun C w0 hC hb=>h3.bel hown hbase hC hb))
end
theorem b8_one(x:BitVec 8):(b8 x).oneCell'=true:=rfl
theorem Rd.new{α:Type}(f:α→Value)(w:World)(E:TypeId)(xs:List α):Rd f (w.alloc (.cells (xs.map f).toArray E)) (w.heap.size+1) (some ⟨w.heap.size,0,none⟩) xs:=fun _=>
 ⟨w.heap.size,0,rfl,by omega,fun j u hu=>by
  rw[Nat.zero_add,cell_of_row _ w.heap.size j (xs.map f).toArray E (0,0) (heap_alloc_new w _)]
  simp[hu]⟩
theorem step_append_rd{α:Type}{f:α→Value}{P:Program}{w:World}{ops:Array Oper}{o:Oper}{a:Act}{K:Act→World→Prop}{Q:Exit→Act→World→Prop}{F:Prop}(hgd:o.guard=none)(s x:Operand)(t:TypeId)
 (ho:o.op= .call {callee:= .builtin .append,args:= #[s,x],argTypes:= #[t,t]})
 (hf:∀x,(f x).oneCell'=true)(base:Nat)(e:TypeId)(i:TypeInfo)(z:Value)(bytes:Nat)(ht:P.underlying t=some (.slice e))(hi:P.info? e=some i)(hz:i.zero=some z)
 (hsize:i.size=1)(hby:i.bytes=bytes)(hzs:z.cells.size=1)
 (v:Value)(xs:List α)(hs:a.eval s=v)(hown:Own f w base e v xs)
 (B:Nat)(A:Option Addr)(m c:Nat)(ys:List α)(hx:a.eval x= .slice A m c)(hm:m=ys.length)(hr:Rd f w B A ys)
 (h63:xs.length+ys.length≤maxLen)(hbytes:(xs.length+ys.length)*bytes≤140737488355328)(hbase:base≤w.heap.size)
 (h:∀v' w',Own f w' base e v' (xs++ys)→Grew w w' v v'→(∀C w0,C≤base→Below C w0 w→Below C w0 w')→K (a.put o.dst v') w'):
 if Region.wanted o (yielded ops a.tmps)=true then Oper.wp P o a w K Q else F:=by
 have hw:Region.wanted o (yielded ops a.tmps)=true:=by simp[Region.wanted,hgd]
 rw[if_pos hw]
 subst hm
 obtain⟨v',w',hrun,h2,h3⟩:=run_append_grew (P:=P) hf base t o.type e i z bytes ht hi hz hsize hby hzs v xs hown B A c ys hr h63 hbytes hbase
 unfold Oper.wp execOp
 simp only[ho,resolve,invoke,builtin,Sem.run_bind,Sem.run_pure,Result.andThen_ok,List.map_toArray,List.map_cons,List.map_nil,hs,hx,hrun]
 exact h v' w' h2 h3 (fun C w0 hC hb=>h3.bel hown hbase hC hb)
abbrev Sl:=Option Addr×Nat×Nat
def sl(x:Sl):Value:= .slice x.1 x.2.1 x.2.2
theorem Own.rd{α:Type}{f:α→Value}{w:World}{B E:Nat}{A:Option Addr}{n c:Nat}{xs:List α}(h:Own f w B E (.slice A n c) xs):Rd f w w.heap.size A xs:=by
 obtain⟨A',c',e,hr,_⟩:=h.shape
 injection e with e1 e2 e3
 subst e1
 exact hr
theorem Own.len{α:Type}{f:α→Value}{w:World}{B E:Nat}{A:Option Addr}{n c:Nat}{xs:List α}(h:Own f w B E (.slice A n c) xs):n=xs.length:=by
 obtain⟨A',c',e,hr,_⟩:=h.shape
 injection e with e1 e2 e3
theorem Rd.grown{α:Type}{f:α→Value}{w w':World}{B:Nat}{A:Option Addr}{xs:List α}{row:Option Nat}(h:Rd f w B A xs)(hg:w.grownBy w' row)(hB:B≤w.heap.size)(hne:∀a:Addr,A=some a→some a.block≠row):Rd f w' B A xs:=fun hn=>by
 obtain⟨b,off,e,hb,hc⟩:=h hn
 exact⟨b,off,e,hb,fun j u hu=>(World.cell?_of_block (hg.block b (by omega) (hne _ e))).trans (hc j u hu)⟩
theorem grownBy_trans{a b c:World}{r s:Option Nat}(h:a.grownBy b r)(k:b.grownBy c s)(hs:∀g,s=some g→r=some g∨a.heap.size≤g):a.grownBy c r:=
 ⟨k.os.trans h.os,k.tape.trans h.tape,k.output.trans h.output,Nat.le_trans h.size k.size,fun i hi hne=>
  (k.block i (Nat.lt_of_lt_of_le hi h.size) (fun e=>by
   rcases hs i e.symm with h1|h1
   ·exact hne h1.symm
   ·omega)).trans (h.block i hi hne)⟩
theorem Own.kept'{α:Type}{f:α→Value}{w w':World}{B E:Nat}{v:Value}{xs:List α}(h:Own f w B E v xs){row:Option Nat}(hg:w.grownBy w' row)(hne:∀g,row=some g→v.ownBlock≠some g):Own f w' B E v xs:=
 h.kept hg (by
  cases hv:v.ownBlock with
  |none=>exact .inl rfl
  |some k=>exact .inr (fun e=>hne k e.symm hv))
def Arr{α:Type}(f:α→Value)(w:World)(g:Nat)(T:TypeId)(xs:List α):Prop:=w.heap[g]?=some (.cells (xs.map f).toArray T (0,0))
section
variable{α:Type}{f:α→Value}{w w':World}{g:Nat}{T:TypeId}{xs:List α}
theorem Arr.lt(h:Arr f w g T xs):g<w.heap.size:=by
 rcases Nat.lt_or_ge g w.heap.size with hlt|hge
 ·exact hlt
 ·unfold Arr at h;rw[Array.getElem?_eq_none hge]at h;cases h
theorem Arr.at_(h:Arr f w g T xs){k:Nat}{u:α}(hk:xs[k]?=some u):w.cell? ⟨g,k,none⟩=some (f u):=by
 rw[cell_of_row w g k _ T (0,0) h]
 simp[hk]
theorem Arr.cell(h:Arr f w g T xs){k:Nat}(hk:k<xs.length):w.cell? ⟨g,k,none⟩=some (f xs[k]):=h.at_ (List.getElem?_eq_getElem hk)
theorem Arr.cellD(h:Arr f w g T xs){k:Nat}(hk:k<xs.length)(d:α):w.cell? ⟨g,k,none⟩=some (f (xs.getD k d)):=h.at_ (by simp[List.getD,List.getElem?_eq_getElem hk])
theorem Arr.frozen(h:Arr f w g T xs)(k:Nat):w.frozen? ⟨g,k,none⟩=false:=frozen_of_row w g k _ T h
theorem Arr.new(f:α→Value)(w:World)(T:TypeId)(xs:List α):Arr f (w.alloc (.cells (xs.map f).toArray T)) w.heap.size T xs:=heap_alloc_new w _
theorem Arr.at_size(f:α→Value){w:World}(T:TypeId)(xs:List α){k:Nat}(h:w.heap.size=k):Arr f (w.alloc (.cells (xs.map f).toArray T)) k T xs:=by subst h;exact Arr.new f w T xs
theorem Arr.drew(h:Arr f w g T xs):Arr f w.drew g T xs:=h
theorem Arr.drewN(h:Arr f w g T xs)(k:Nat):Arr f (w.drewN k) g T xs:=h
theorem Arr.alloc(h:Arr f w g T xs)(o:Obj):Arr f (w.alloc o) g T xs:=(Below.heap_alloc w o g h.lt).trans h
theorem Arr.set_(h:Arr f w g T xs)(k:Nat)(u:α):Arr f (w.setCell ⟨g,k,none⟩ (f u)) g T (xs.set k u):=by
 unfold Arr at h ⊢
 rw[heap_setCell_same w g k _ T (f u) h]
 congr 2
 apply Array.ext'
 simp[List.map_set]
theorem Arr.far(h:Arr f w g T xs){p:Addr}(hp:g≠p.block)(u:Value):Arr f (w.setCell p u) g T xs:=(Below.heap_setCell w p u g hp).trans h
theorem Arr.below{B:Nat}(h:Arr f w g T xs)(hb:Below B w w')(hg:g<B):Arr f w' g T xs:=(hb.block g hg).trans h
theorem Arr.grown{row:Option Nat}(h:Arr f w g T xs)(hb:w.grownBy w' row)(hg:some g≠row):Arr f w' g T xs:=(hb.block g h.lt hg).trans h
theorem Arr.cast{ys:List α}(h:Arr f w g T xs)(e:xs=ys):Arr f w g T ys:=e▸h
theorem Arr.range(h:Arr f w g T xs)(o n:Nat):w.rangeAt g o (((xs.map f).drop o).take n):=fun j v hv=>by
 rw[List.getElem?_take]at hv
 split at hv
 ·rw[List.getElem?_drop,List.getElem?_map,Option.map_eq_some_iff]at hv
  obtain⟨u,hu,rfl⟩:=hv
  exact h.at_ hu
 ·cases hv
theorem Arr.whole(h:Arr f w g T xs):w.rangeAt g 0 (xs.map f):=fun j v hv=>by
 rw[List.getElem?_map,Option.map_eq_some_iff]at hv
 obtain⟨u,hu,rfl⟩:=hv
 rw[Nat.zero_add];exact h.at_ hu
theorem Arr.there(h:Arr f w g T xs){o n:Nat}(hn:o+n≤xs.length):w.there g o n:=fun j hj=>⟨by rw[h.cell (k:=o+j) (by omega)];rfl,h.frozen _⟩
theorem Arr.rd(h:Arr f w g T xs)(o:Nat):Rd f w (g+1) (some ⟨g,o,none⟩) (xs.drop o):=fun _=>⟨g,o,rfl,by omega,fun j u hu=>by
 rw[List.getElem?_drop]at hu
 exact h.at_ hu⟩
end
def arrV{α:Type}(f:α→Value)(xs:List α):Value:= .agg (xs.map f).toArray
theorem arrV_mk{α:Type}(f:α→Value)(xs:List α):arrV f xs= .agg (xs.map f).toArray:=rfl
theorem arr_setCells{α:Type}{f:α→Value}{g:Nat}{T:TypeId}:∀(ys:List α) (pre old:List α) (w:World),old.length=ys.length→Arr f w g T (pre++old)→Arr f (w.setCells g pre.length (ys.map f)) g T (pre++ys)∧w.grownBy (w.setCells g pre.length (ys.map f)) (some g)
 | [],pre,[],w,_,h=>⟨h,World.grownBy.refl _ _⟩
 |y::ys,pre,x::old,w,hl,h=>by
  have h1:=h.set_ pre.length y
  have e:(pre++x::old).set pre.length y=(pre++ [y])++old:=by
   rw[List.set_append];simp
  rw[e]at h1
  have ih:=arr_setCells ys (pre++ [y]) old _ (by simpa using hl) h1
  rw[List.length_append,List.length_singleton]at ih
  simp only[List.map_cons]
  rw[World.setCells]
  refine⟨ih.1.cast (by simp),?_⟩
  have hg:w.grownBy (w.setCell ⟨g,pre.length,none⟩ (f y)) (some g):=⟨rfl,rfl,rfl,by rw[World.size_setCell];exact Nat.le_refl _,fun k _ hk=>Below.heap_setCell w ⟨g,pre.length,none⟩ (f y) k (fun e=>hk (by rw[e]))⟩
  exact grownBy_trans hg ih.2 (fun _ e=> .inl e)
theorem wpList_store_arr{P:Program}{α:Type}{f:α→Value}{ops:Array Oper}{rest:List Oper}{op:Oper}{a:Act}{w:World}{Q:Exit→Act→World→Prop}(hgd:op.guard=none)(ty:TypeId)(x y:Operand)(ho:op.op= .store ty x y)
 (g:Nat)(hx:a.eval x= .pointer (some ⟨g,0,none⟩))(ys:List α)(hy:a.eval y= .agg (ys.map f).toArray)(T:TypeId)(xs:List α)(hA:Arr f w g T xs)(hl:xs.length=ys.length)
 (hi:(P.info? ty).map (·.size)=some ys.length)(h1:∀u,(f u).oneCell'=true)
 (h:∀w',Arr f w' g T ys→w.grownBy w' (some g)→wpList P ops Q rest (a.put op.dst undef) w'):wpList P ops Q (op::rest) a w:=by
 obtain⟨h2,h3⟩:=arr_setCells (f:=f) ys [] xs w hl hA
 refine wpList_store_mid hgd ty x y ho g 0 (ys.map f).toArray hx hy ?_ ?_ ?_ ?_
 ·exact hA.there (by simp[hl])
 ·rw[hi];simp
 ·exact all_oneCell_toArray (fun v hv=>by obtain⟨u,_,rfl⟩:=List.mem_map.1 hv;exact h1 u)
 ·simp only
  exact h _ h2 h3
theorem wpList_load_arr{P:Program}{α:Type}{f:α→Value}{ops:Array Oper}{rest:List Oper}{op:Oper}{a:Act}{w:World}{Q:Exit→Act→World→Prop}(hgd:op.guard=none)(ty:TypeId)(x:Operand)(ho:op.op= .load ty x)
 (g:Nat)(hx:a.eval x= .pointer (some ⟨g,0,none⟩))(T:TypeId)(xs:List α)(hA:Arr f w g T xs)(d:TypeDesc)
 (hu:P.underlying ty=some d)(hd:d.isRow=true)(hi:(P.info? ty).map (·.size)=some xs.length)
 (h:wpList P ops Q rest (a.put op.dst (.agg (xs.map f).toArray)) w):wpList P ops Q (op::rest) a w:=
 wpList_load_mid hgd ty x ho g 0 hx (xs.map f) d hA.whole hu hd (by rw[hi,List.length_map]) h
theorem results_arr_tmp{P:Program}{α:Type}{f:α→Value}{fn:Func}{p u:Tmp}{ty:TypeId}(h:fn.results= #[.cell p ty,.tmp u])(tmps:Array Value)(w:World)(g:Nat)(T:TypeId)(xs:List α)(d:TypeDesc)(v:Value)
 (hp:tmps.getD p undef= .pointer (some ⟨g,0,none⟩))(hv:tmps.getD u undef=v)(hA:Arr f w g T xs)(hu:P.underlying ty=some d)(hd:d.isRow=true)(hi:(P.info? ty).map (·.size)=some xs.length):
 (results fn tmps).run P w= .ok (.tuple #[.agg (xs.map f).toArray,v]) w:=by
 subst hv
 have hp':tmps[p]?.getD undef= .pointer (some ⟨g,0,none⟩):=by simpa using hp
 have hl:=run_loadVar_mid (P:=P) w g 0 ty (xs.map f) d hA.whole hu hd (by rw[hi,List.length_map])
 simp[results,h,hp',asAddr,hl]
theorem results_arr{P:Program}{α:Type}{f:α→Value}{fn:Func}{p:Tmp}{ty:TypeId}(h:fn.results= #[.cell p ty])(tmps:Array Value)(w:World)(g:Nat)(T:TypeId)(xs:List α)(d:TypeDesc)
 (hp:tmps.getD p undef= .pointer (some ⟨g,0,none⟩))(hA:Arr f w g T xs)(hu:P.underlying ty=some d)(hd:d.isRow=true)(hi:(P.info? ty).map (·.size)=some xs.length):
 (results fn tmps).run P w= .ok (.agg (xs.map f).toArray) w:=by
 have hp':tmps[p]?.getD undef= .pointer (some ⟨g,0,none⟩):=by simpa using hp
 have hl:=run_loadVar_mid (P:=P) w g 0 ty (xs.map f) d hA.whole hu hd (by rw[hi,List.length_map])
 simp[results,h,hp',asAddr,hl]
def cI(z:Int):Value:= .int .i64 z
theorem cI_one(z:Int):(cI z).oneCell'=true:=rfl
theorem b8_one'(x:BitVec 8):(b8 x).oneCell'=true:=rfl
def Blk(w:World)(g:Nat)(T:TypeId)(cs:List Value):Prop:=w.heap[g]?=some (.cells cs.toArray T (0,0))
section
variable{w w':World}{g:Nat}{T:TypeId}{cs:List Value}
theorem Blk.arr(h:Blk w g T cs):Arr (fun v:Value=>v) w g T cs:=by unfold Arr;rw[List.map_id'];exact h
theorem blk_arr(h:Arr (fun v:Value=>v) w g T cs):Blk w g T cs:=by unfold Arr at h;rw[List.map_id']at h;exact h
theorem Blk.lt(h:Blk w g T cs):g<w.heap.size:=h.arr.lt
theorem Blk.cell(h:Blk w g T cs)(k:Nat){u:Value}(hk:cs[k]?=some u):w.cell? ⟨g,k,none⟩=some u:=h.arr.at_ hk
theorem Blk.frozen(h:Blk w g T cs)(k:Nat):w.frozen? ⟨g,k,none⟩=false:=h.arr.frozen k
theorem Blk.new(w:World)(T:TypeId)(cs:List Value):Blk (w.alloc (.cells cs.toArray T)) w.heap.size T cs:=heap_alloc_new w _
theorem Blk.at_size{w:World}(T:TypeId)(cs:List Value){k:Nat}(h:w.heap.size=k):Blk (w.alloc (.cells cs.toArray T)) k T cs:=by subst h;exact Blk.new w T cs
theorem Blk.drew(h:Blk w g T cs):Blk w.drew g T cs:=h
theorem Blk.alloc(h:Blk w g T cs)(o:Obj):Blk (w.alloc o) g T cs:=(Below.heap_alloc w o g h.lt).trans h
theorem Blk.below{B:Nat}(h:Blk w g T cs)(hb:Below B w w')(hg:g<B):Blk w' g T cs:=(hb.block g hg).trans h
theorem Blk.grown{row:Option Nat}(h:Blk w g T cs)(hb:w.grownBy w' row)(hg:some g≠row):Blk w' g T cs:=(hb.block g h.lt hg).trans h
theorem Blk.set_(h:Blk w g T cs)(k:Nat)(u:Value):Blk (w.setCell ⟨g,k,none⟩ u) g T (cs.set k u):=blk_arr (h.arr.set_ k u)
theorem Blk.far(h:Blk w g T cs){p:Addr}(hp:g≠p.block)(u:Value):Blk (w.setCell p u) g T cs:=(Below.heap_setCell w p u g hp).trans h
theorem Blk.cast{ds:List Value}(h:Blk w g T cs)(e:cs=ds):Blk w g T ds:=e▸h
theorem Blk.range(h:Blk w g T cs)(o n:Nat):w.rangeAt g o ((cs.drop o).take n):=by have:=h.arr.range o n;rwa[List.map_id']at this
theorem Blk.whole(h:Blk w g T cs):w.rangeAt g 0 cs:=by have:=h.arr.whole;rwa[List.map_id']at this
theorem Blk.not_row{α:Type}{f:α→Value}{B:Nat}{e:TypeId}{v:Value}{xs:List α}(h:Blk w g T cs)(hte:T≠e)(hr:Own f w B e v xs):some g≠v.ownBlock:=by
 rcases hr.2 with⟨rfl,_⟩|⟨g',cap,cur,rfl,_,hgb,_⟩
 ·simp[Value.ownBlock]
 ·intro e'
  obtain rfl:g=g':=by simpa[Value.ownBlock]using e'
  have:w.heap[g]?=some (.cells cs.toArray T (0,0)):=h
  rw[this]at hgb;cases hgb;exact hte rfl
theorem grownBy_set(W:World)(b k:Nat)(v:Value):W.grownBy (W.setCell ⟨b,k,none⟩ v) (some b):=
 ⟨rfl,rfl,rfl,(KeepsWalks.setCell W _ v).size,fun j _ hj=>Below.heap_setCell _ _ _ j (fun e=>hj (by rw[e]))⟩
end
theorem infoU8:(Tryd.prog.info? 5).map (fun i=>(i.zero,i.size,i.bytes))=some (some (.int .u8 0),1,1):=by kernel_rfl
end Go.Proofs.YtelgjaiknaalkaaDoor
