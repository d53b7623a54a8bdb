/- Lemmas. -/
import Derived.WalkKit
import Derived.Lib.Hide
import Derived.Maps.AppendAt
import Derived.Laws.OwnMore
import Derived.Deep.Draws
import Derived.Laws.BytesString
import Derived.Laws.CopyOwn
import Derived.Laws.Rows
import Derived.Deep.MidRow
import Derived.RangeFuncBox
import Derived.Test.YtelgjaiknaalkaaGreatDoorRows
import Derived.WalkSpells
import Derived.WalkLawsBesides
import Derived.Deep.QuietTactic
import Derived.Deep.RegionHeld3
import Derived.BigQuiet
import Derived.Deep.RegionLaw
import Derived.Deep.RegionWith
import Derived.StillTailTactics
import Derived.Lib.AppendZeros
import Derived.OwnWalk
import Derived.RangeFuncNested
import Derived.RangeFuncBound
import Derived.RangeFuncLeaves
import Derived.Shelf.Abstract
import Derived.Shelf.RegionOpen
import Derived.OwnWalkIn
import Derived.TacticsInMore
import Derived.LoopNIn
import Derived.LoopIn
import Derived.Test.YtelgjaiknaalkaaGreatDoorPuReg
open Go.Proofs.Tryz
open List renaming set_cons_zero → qz
open BitVec renaming eq_of_toNat_eq → JX, ofInt → QU, ofInt_natCast → Zx, toNat_ofNat → Q8, ofNat → QP, toNat_setWidth → Zo, toNat_add → JQ, toNat_sub → ZG, toNat_mul → Zy, toNat_shiftLeft → ZD, toNat_ushiftRight → Zr
open Nat renaming min_eq_left → JJ, shiftRight_eq_div_pow → Zw, lt_of_lt_of_le → Jq, pow_le_pow_right → J7, mod_eq_of_lt → JP, lt_or_ge → Jo, le_refl → QI, zero_add → JD, le_trans → QX, mul_comm → Jw
open OfNat renaming ofNat → Jg
open Go.IntWalk renaming i64_in → Jc
open List renaming length_append → QO, take_append_of_le_length → Zz, length_drop → Jf, length_cons → Jr, replicate → QL, getElem?_eq_getElem → QT, length_take → QV, getElem?_map → Jn, eq_nil_of_length_eq_zero → J2, length_set → Jy, mem_map → QW, size_toArray → Jh, length_map → QN, map_append → Q9, take_of_length_le → Js, length_nil → JE, map_nil → Jt, nil_append → Ji, map_cons → Jd, getD → QR, length_replicate → Jz, set_append_right → Zp, take_succ_eq_append_getElem → Zd, append_assoc → Jb, getElem?_append_left → Zg, getElem?_append_right → JA, take_length → Zh, getElem_mem → Q5, cons_append → JL, mem_cons → Ja, not_mem_nil → JM, getElem?_eq_some_iff → JS, range → Q6
open Array renaming getElem?_eq_none → J3
open Go.World.grownBy renaming refl → J8
open Go.World renaming cell?_of_block → JK, size_alloc → QQ
open Go.Value renaming ownBlock → JF, int → QM
open Go.RowKit.Below renaming refl → QK
set_option linter.unusedVariables false
set_option linter.unusedSimpArgs false
set_option maxRecDepth 100000
set_option maxHeartbeats 8000000
namespace Go.Proofs.YtelgjaiknaalkaaGreatDoor
section
open Go.RowKit
def bv{n:Nat}(x:BitVec n):Int:=(x.toNat:Int)
theorem qeJ{n:Nat}(x:BitVec n):0≤bv x:=by unfold bv;omega
theorem qod{n:Nat}{x y:BitVec n}(h:bv x=bv y):x=y:=by unfold bv at h;exact JX (by omega)
theorem qlz{n:Nat}(x:BitVec n):(bv x).toNat=x.toNat:=by unfold bv;omega
theorem qoW(x:BitVec 8):bv x<256:=by unfold bv;omega
theorem qeK{n:Nat}(x y:BitVec n):(bv x=bv y)=(x=y):=by
 apply propext;exact⟨qod,fun h=>by rw[h]⟩
theorem qh4{n:Nat}(x y:BitVec n):(bv x==bv y)=(x==y):=by
 rw[Bool.eq_iff_iff,beq_iff_eq,beq_iff_eq,qeK]
theorem qlA{n:Nat}(x y:BitVec n):(bv x !=bv y)=(x !=y):=by rw[bne,bne,qh4]
theorem qgm{v n w:Nat}:(v*2^(min n w)) % 2^w=(v<<<n) % 2^w:=by
 rw[Nat.shiftLeft_eq];rcases Nat.le_total n w with h|h
 ·rw[JJ h]
 ·rw[Nat.min_eq_right h]
  obtain⟨m,rfl⟩:=Nat.exists_eq_add_of_le h;rw[Nat.pow_add,←Nat.mul_assoc,Nat.mul_right_comm,Nat.mul_mod_left,Nat.mul_mod_left]
theorem qgn{v n w:Nat}(h:v<2^w):v/2^(min n w)=v>>>n:=by
 rw[Zw];rcases Nat.le_total n w with hn|hn
 ·rw[JJ hn]
 ·rw[Nat.min_eq_right hn,Nat.div_eq_of_lt h,Nat.div_eq_of_lt (Jq h (J7 (by decide) hn))]
theorem qgo(v n w:Nat):(((v:Int)*2^(min n w)) % (2^w:Nat))=(((v<<<n) % 2^w:Nat):Int):=by
 rw[←qgm];simp
theorem qgp(v n w:Nat)(h:v<2^w):((v:Int).fdiv (2^(min n w)))=((v>>>n:Nat):Int):=by
 rw[←qgn h,Int.fdiv_eq_ediv_of_nonneg _ (Int.le_of_lt (Int.pow_pos (by decide)))];simp
theorem qcr(x:BitVec 8):QU 8 (bv x)=x:=by
 unfold bv;apply JX;have:=x.isLt;rw[Zx,Q8];exact JP (by omega)
theorem qkb(m:Nat):QU 8 (@Jg Int m instOfNat)=QP 8 m:=by
 show QU 8 ((m:Nat):Int)=_;rw[Zx]
theorem kK(n:Int):IntKind.u8.wrap n=n % 256:=by simp[IntKind.wrap,IntKind.bits,IntKind.signed]
theorem qfr(r:BitVec 8):IntKind.u8.wrap (bv r)=bv r:=by rw[kK];unfold bv;omega
theorem qoe(x y:BitVec 8):bits .xor .u8 (bv x) (bv y)=bv (x^^^y):=by
 show IntKind.u8.wrap (bv (QU 8 (bv x)^^^QU 8 (bv y)))=_;rw[qcr,qcr];exact qfr _
theorem qh5(x:BitVec 8)(m:Nat):bits .xor .u8 (bv x) (no_index (@Jg Int m instOfNat))=bv (x^^^QP 8 m):=by
 show IntKind.u8.wrap (bv (QU 8 (bv x)^^^QU 8 (@Jg Int m instOfNat)))=_;rw[qcr,qkb];exact qfr _
theorem qkc(x:BitVec 32):IntKind.u8.wrap (bv x)=bv (x.setWidth 8):=by rw[kK];unfold bv;rw[Zo];simp
theorem qkd(x:BitVec 64):IntKind.u8.wrap (bv x)=bv (x.setWidth 8):=by rw[kK];unfold bv;rw[Zo];simp
theorem vK(x:BitVec 32):QU 32 (bv x)=x:=by
 unfold bv;apply JX;have:=x.isLt;rw[Zx,Q8];exact JP (by omega)
theorem qh6(m:Nat):QU 32 (@Jg Int m instOfNat)=QP 32 m:=by
 show QU 32 ((m:Nat):Int)=_;rw[Zx]
theorem vd(n:Int):IntKind.u32.wrap n=n % 4294967296:=by simp[IntKind.wrap,IntKind.bits,IntKind.signed]
theorem qaU(r:BitVec 32):IntKind.u32.wrap (bv r)=bv r:=by rw[vd];unfold bv;omega
theorem qjh(x y:BitVec 32):(bv x+bv y) % 4294967296=bv (x+y):=by unfold bv;rw[JQ];omega
theorem qlB(x y:BitVec 32):IntKind.u32.wrap (bv x+bv y)=bv (x+y):=by rw[vd,qjh]
theorem qbN(x:BitVec 32)(m:Nat):((no_index (@Jg Int m instOfNat))-bv x) % 4294967296=bv (QP 32 m-x):=by
 show(((m:Nat):Int)-bv x) % 4294967296=_;unfold bv;rw[ZG,Q8];omega
theorem qez(x:BitVec 32)(m:Nat):IntKind.u32.wrap ((no_index (@Jg Int m instOfNat))-bv x)=bv (QP 32 m-x):=by rw[vd];exact qbN x m
theorem qcS(x:BitVec 32)(m:Nat):(bv x*(no_index (@Jg Int m instOfNat))) % 4294967296=bv (x*QP 32 m):=by
 show(bv x*((m:Nat):Int)) % 4294967296=_;unfold bv;rw[Zy,Q8];simp
theorem qfs(x:BitVec 32)(m:Nat):IntKind.u32.wrap (bv x*(no_index (@Jg Int m instOfNat)))=bv (x*QP 32 m):=by rw[vd];exact qcS x m
theorem qbO(x:BitVec 32)(m:Nat):((no_index (@Jg Int m instOfNat))*bv x) % 4294967296=bv (QP 32 m*x):=by
 show(((m:Nat):Int)*bv x) % 4294967296=_;unfold bv;rw[Zy,Q8];simp
theorem qeA(x:BitVec 32)(m:Nat):IntKind.u32.wrap ((no_index (@Jg Int m instOfNat))*bv x)=bv (QP 32 m*x):=by rw[vd];exact qbO x m
theorem qnh(x y:BitVec 32):bits .xor .u32 (bv x) (bv y)=bv (x^^^y):=by
 show IntKind.u32.wrap (bv (QU 32 (bv x)^^^QU 32 (bv y)))=_;rw[vK,vK];exact qaU _
theorem qbP(x:BitVec 32)(m:Nat):bits .xor .u32 (no_index (@Jg Int m instOfNat)) (bv x)=bv (QP 32 m^^^x):=by
 show IntKind.u32.wrap (bv (QU 32 (@Jg Int m instOfNat)^^^QU 32 (bv x)))=_;rw[vK,qh6];exact qaU _
theorem qof(x y:BitVec 32):bits .or .u32 (bv x) (bv y)=bv (x|||y):=by
 show IntKind.u32.wrap (bv (QU 32 (bv x)|||QU 32 (bv y)))=_;rw[vK,vK];exact qaU _
theorem qni(x y:BitVec 32):bits .and .u32 (bv x) (bv y)=bv (x&&&y):=by
 show IntKind.u32.wrap (bv (QU 32 (bv x)&&&QU 32 (bv y)))=_;rw[vK,vK];exact qaU _
theorem qgq(t:TypeId)(x:BitVec 32)(yk:IntKind)(n:Nat):binOp .shl t (.int .u32 (bv x)) (.int yk (n:Int))=pure (.int .u32 (bv (x<<<n))):=by
 rw[binOp_shl];have e:IntKind.u32.wrap (bv x*2^(min n 32))=bv (x<<<n):=by
  rw[vd];unfold bv;rw[ZD];exact qgo x.toNat n 32
 unfold Op.shift;rw[if_neg (by omega)];simp only[Int.toNat_natCast];rw[show IntKind.u32.bits=32 from rfl,e]
theorem qft(t:TypeId)(x:BitVec 32)(yk:IntKind)(m:Nat):binOp .shl t (.int .u32 (bv x)) (.int yk (no_index (@Jg Int m instOfNat)))=pure (.int .u32 (bv (x<<<m))):=qgq t x yk m
theorem qdx(t:TypeId)(x:BitVec 32)(yk:IntKind)(n:Nat):binOp .shr t (.int .u32 (bv x)) (.int yk (n:Int))=pure (.int .u32 (bv (x>>>n))):=by
 rw[binOp_shr];have e:(bv x).fdiv (2^(min n 32))=bv (x>>>n):=by
  unfold bv;rw[Zr];exact qgp x.toNat n 32 x.isLt
 unfold Op.shift;rw[if_neg (by omega)];simp only[Int.toNat_natCast];rw[show IntKind.u32.bits=32 from rfl,e]
theorem qfu(t:TypeId)(x:BitVec 32)(yk:IntKind)(m:Nat):binOp .shr t (.int .u32 (bv x)) (.int yk (no_index (@Jg Int m instOfNat)))=pure (.int .u32 (bv (x>>>m))):=qdx t x yk m
theorem qfv(t:TypeId)(x:BitVec 32)(yk:IntKind)(m j:Nat):binOp .shr t (.int .u32 (bv x)) (.int yk ((no_index (@Jg Int m instOfNat))*(j:Int)))=pure (.int .u32 (bv (x>>>(m*j)))):=by
 have:=qdx t x yk (m*j);rw[Int.natCast_mul]at this;exact this
theorem qke(x:BitVec 8):IntKind.u32.wrap (bv x)=bv (x.setWidth 32):=by rw[vd];unfold bv;rw[Zo];simp
theorem qh7(x:BitVec 64):IntKind.u32.wrap (bv x)=bv (x.setWidth 32):=by rw[vd];unfold bv;rw[Zo];simp
theorem qeL(z:Int):IntKind.u32.wrap z=bv (QU 32 z):=by
 rw[vd];unfold bv;rw[BitVec.toNat_ofInt];omega
theorem qak(x:BitVec 64):QU 64 (bv x)=x:=by
 unfold bv;apply JX;have:=x.isLt;rw[Zx,Q8];exact JP (by omega)
theorem qbw(m:Nat):QU 64 (@Jg Int m instOfNat)=QP 64 m:=by
 show QU 64 ((m:Nat):Int)=_;rw[Zx]
theorem ve(n:Int):IntKind.u64.wrap n=n % 18446744073709551616:=by simp[IntKind.wrap,IntKind.bits,IntKind.signed]
theorem qaV(r:BitVec 64):IntKind.u64.wrap (bv r)=bv r:=by rw[ve];unfold bv;omega
theorem qji(x y:BitVec 64):(bv x+bv y) % 18446744073709551616=bv (x+y):=by unfold bv;rw[JQ];omega
theorem qlC(x y:BitVec 64):IntKind.u64.wrap (bv x+bv y)=bv (x+y):=by rw[ve,qji]
theorem qcT(x:BitVec 64)(m:Nat):(bv x-(no_index (@Jg Int m instOfNat))) % 18446744073709551616=bv (x-QP 64 m):=by
 show(bv x-((m:Nat):Int)) % 18446744073709551616=_;unfold bv;rw[ZG,Q8];omega
theorem qfw(x:BitVec 64)(m:Nat):IntKind.u64.wrap (bv x-(no_index (@Jg Int m instOfNat)))=bv (x-QP 64 m):=by rw[ve];exact qcT x m
theorem qjj(x y:BitVec 64):(bv x*bv y) % 18446744073709551616=bv (x*y):=by unfold bv;rw[Zy];simp
theorem qlD(x y:BitVec 64):IntKind.u64.wrap (bv x*bv y)=bv (x*y):=by rw[ve,qjj]
theorem qbQ(x:BitVec 64)(m:Nat):bits .xor .u64 (no_index (@Jg Int m instOfNat)) (bv x)=bv (QP 64 m^^^x):=by
 show IntKind.u64.wrap (bv (QU 64 (@Jg Int m instOfNat)^^^QU 64 (bv x)))=_;rw[qak,qbw];exact qaV _
theorem qog(x y:BitVec 64):bits .or .u64 (bv x) (bv y)=bv (x|||y):=by
 show IntKind.u64.wrap (bv (QU 64 (bv x)|||QU 64 (bv y)))=_;rw[qak,qak];exact qaV _
theorem qaW(x:BitVec 64)(m:Nat):bits .and .u64 (bv x) (no_index (@Jg Int m instOfNat))=bv (x&&&QP 64 m):=by
 show IntKind.u64.wrap (bv (QU 64 (bv x)&&&QU 64 (@Jg Int m instOfNat)))=_;rw[qak,qbw];exact qaV _
theorem qdy(x:BitVec 64)(m:Nat):bits .andNot .u64 (bv x) (no_index (@Jg Int m instOfNat))=bv (x&&& ~~~(QP 64 m)):=by
 show IntKind.u64.wrap (bv (QU 64 (bv x)&&& ~~~(QU 64 (@Jg Int m instOfNat))))=_;rw[qak,qbw];exact qaV _
theorem qdz(t:TypeId)(x:BitVec 64)(yk:IntKind)(n:Nat):binOp .shl t (.int .u64 (bv x)) (.int yk (n:Int))=pure (.int .u64 (bv (x<<<n))):=by
 rw[binOp_shl];have e:IntKind.u64.wrap (bv x*2^(min n 64))=bv (x<<<n):=by
  rw[ve];unfold bv;rw[ZD];exact qgo x.toNat n 64
 unfold Op.shift;rw[if_neg (by omega)];simp only[Int.toNat_natCast];rw[show IntKind.u64.bits=64 from rfl,e]
theorem qfx(t:TypeId)(x:BitVec 64)(yk:IntKind)(m:Nat):binOp .shl t (.int .u64 (bv x)) (.int yk (no_index (@Jg Int m instOfNat)))=pure (.int .u64 (bv (x<<<m))):=qdz t x yk m
theorem qdA(t:TypeId)(x:BitVec 64)(yk:IntKind)(n:Nat):binOp .shr t (.int .u64 (bv x)) (.int yk (n:Int))=pure (.int .u64 (bv (x>>>n))):=by
 rw[binOp_shr];have e:(bv x).fdiv (2^(min n 64))=bv (x>>>n):=by
  unfold bv;rw[Zr];exact qgp x.toNat n 64 x.isLt
 unfold Op.shift;rw[if_neg (by omega)];simp only[Int.toNat_natCast];rw[show IntKind.u64.bits=64 from rfl,e]
theorem qfy(t:TypeId)(x:BitVec 64)(yk:IntKind)(m:Nat):binOp .shr t (.int .u64 (bv x)) (.int yk (no_index (@Jg Int m instOfNat)))=pure (.int .u64 (bv (x>>>m))):=qdA t x yk m
theorem qfz(t:TypeId)(x:BitVec 64)(yk:IntKind)(m j:Nat):binOp .shr t (.int .u64 (bv x)) (.int yk ((no_index (@Jg Int m instOfNat))*(j:Int)))=pure (.int .u64 (bv (x>>>(m*j)))):=by
 have:=qdA t x yk (m*j);rw[Int.natCast_mul]at this;exact this
theorem qkf(x:BitVec 8):IntKind.u64.wrap (bv x)=bv (x.setWidth 64):=by rw[ve];unfold bv;rw[Zo];simp
theorem qcs(z:Int):IntKind.u64.wrap z=bv (QU 64 z):=by
 rw[ve];unfold bv;rw[BitVec.toNat_ofInt];omega
theorem qlE(x:BitVec 8):IntKind.i64.wrap (bv x)=bv x:=by
 have h1:=qeJ x;have h2:bv x<256:=by unfold bv;omega
 exact Jc _ (by omega)
theorem qnj{n:Nat}(x:BitVec n)(m:Nat)(h:m<2^n):(bv x).tdiv (no_index (@Jg Int m instOfNat))=bv (x/QP n m):=by
 show(bv x).tdiv ((m:Nat):Int)=_;rw[Int.tdiv_eq_ediv_of_nonneg (qeJ x)];unfold bv;rw[BitVec.toNat_udiv,Q8,JP h];simp
theorem qh8{n:Nat}(x:BitVec n)(m:Nat)(h:m<2^n):(bv x==(no_index (@Jg Int m instOfNat)))=(x==QP n m):=by
 rw[←qh4];unfold bv;rw[Q8,JP h];rfl
theorem qh9(x:BitVec 64):x/4294967296#64=x>>>32:=by
 apply JX;rw[BitVec.toNat_udiv,Zr,Zw];rfl
theorem qkg(t:TypeId)(yk:IntKind)(n:Nat):binOp .shl t (.int .u64 1) (.int yk (n:Int))=pure (.int .u64 (bv (1#64<<<n))):=qdz t 1#64 yk n
attribute [go_sem] qfr qoe qh5 qaU qjh qlB qbN qez qcS qfs qbO qeA qnh qbP qof qni qaV qji qlC qcT qfw qjj qlD qbQ qog qaW qdy qlE qh4 qlA qeK qnj qh9
attribute [go_sem high] qkc qkd qgq qft qdx qfu qfv qke qh7 qdz qfx qdA qfy qfz qkf qkg
end
structure S8(n:Nat) where
 a:BitVec n
 b:BitVec n
 c:BitVec n
 d:BitVec n
 e:BitVec n
 f:BitVec n
 g:BitVec n
 h:BitVec n
section
variable{n:Nat}
def S8.list(s:S8 n):List (BitVec n):=[s.a,s.b,s.c,s.d,s.e,s.f,s.g,s.h]
theorem S8.list_len(s:S8 n):s.list.length=8:=rfl
def S8.add(s t:S8 n):S8 n:=⟨s.a+t.a,s.b+t.b,s.c+t.c,s.d+t.d,s.e+t.e,s.f+t.f,s.g+t.g,s.h+t.h⟩
structure Sha(n:Nat) where
 S0:BitVec n→BitVec n
 S1:BitVec n→BitVec n
 s0:BitVec n→BitVec n
 s1:BitVec n→BitVec n
 word:qf→Nat→BitVec n
 K:List (BitVec n)
 size:Nat
def Sha.step(c:Sha n)(k w:BitVec n)(s:S8 n):S8 n:=
 let t1:=s.h+c.S1 s.e+(s.e&&&s.f^^^ ~~~s.e&&&s.g)+k+w
 let t2:=c.S0 s.a+(s.a&&&s.b^^^s.a&&&s.c^^^s.b&&&s.c)
 ⟨t1+t2,s.a,s.b,s.c,s.d+t1,s.e,s.f,s.g⟩
def Sha.rounds(c:Sha n)(w:List (BitVec n))(s:S8 n):Nat→S8 n
 |0=>s
 |i+1=>c.step (c.K.getD i 0) (w.getD i 0) (c.rounds w s i)
def Sha.next(c:Sha n)(p:qf)(l:List (BitVec n)):BitVec n:=
 if l.length<16 then c.word p l.length else c.s1 (l.getD (l.length-2) 0)+l.getD (l.length-7) 0+c.s0 (l.getD (l.length-15) 0)+l.getD (l.length-16) 0
def Sha.sched(c:Sha n)(p:qf):Nat→List (BitVec n)
 |0=> []
 |i+1=>c.sched p i++ [c.next p (c.sched p i)]
theorem Sha.sched_len(c:Sha n)(p:qf)(i:Nat):(c.sched p i).length=i:=by
 induction i with
 |zero=>rfl
 |succ i ih=>rw[Sha.sched,QO,ih];rfl
def Sha.piece(c:Sha n)(s:S8 n)(p:qf):S8 n:=s.add (c.rounds (c.sched p c.K.length) s c.K.length)
def Sha.pieces(c:Sha n):Nat→qf→S8 n→S8 n
 |0,_,s=>s
 |k+1,bs,s=>Sha.pieces c k (bs.drop c.size) (c.piece s (bs.take c.size))
theorem Sha.pieces_add(c:Sha n)(j k:Nat)(bs:qf)(s:S8 n):c.pieces (j+k) bs s=c.pieces k (bs.drop (j*c.size)) (c.pieces j bs s):=by
 induction j generalizing bs s with
 |zero=>simp[Sha.pieces]
 |succ j ih=>
  rw[Nat.succ_add,Sha.pieces,Sha.pieces,ih,List.drop_drop]
  congr 2
  rw[Nat.succ_mul];omega
theorem Sha.pieces_app(c:Sha n)(k:Nat)(bs r:qf)(s:S8 n)(h:k*c.size≤bs.length):c.pieces k (bs++r) s=c.pieces k bs s:=by
 induction k generalizing bs s with
 |zero=>rfl
 |succ k ih=>
  rw[Nat.succ_mul]at h;rw[Sha.pieces,Sha.pieces,Zz (by omega),List.drop_append_of_le_length (by omega),ih _ _ (by rw[Jf];omega)]
end
def vz{n:Nat}(x:BitVec n)(k:Nat):BitVec n:=x<<<k|||x>>>(n-k)
def qdB(a b c d:BitVec 8):BitVec 32:=a.setWidth 32<<<24|||b.setWidth 32<<<16|||c.setWidth 32<<<8|||d.setWidth 32
def K64:List (BitVec 64):=[
 0x428a2f98d728ae22,0x7137449123ef65cd,0xb5c0fbcfec4d3b2f,0xe9b5dba58189dbbc,
 0x3956c25bf348b538,0x59f111f1b605d019,0x923f82a4af194f9b,0xab1c5ed5da6d8118,
 0xd807aa98a3030242,0x12835b0145706fbe,0x243185be4ee4b28c,0x550c7dc3d5ffb4e2,
 0x72be5d74f27b896f,0x80deb1fe3b1696b1,0x9bdc06a725c71235,0xc19bf174cf692694,
 0xe49b69c19ef14ad2,0xefbe4786384f25e3,0x0fc19dc68b8cd5b5,0x240ca1cc77ac9c65,
 0x2de92c6f592b0275,0x4a7484aa6ea6e483,0x5cb0a9dcbd41fbd4,0x76f988da831153b5,
 0x983e5152ee66dfab,0xa831c66d2db43210,0xb00327c898fb213f,0xbf597fc7beef0ee4,
 0xc6e00bf33da88fc2,0xd5a79147930aa725,0x06ca6351e003826f,0x142929670a0e6e70,
 0x27b70a8546d22ffc,0x2e1b21385c26c926,0x4d2c6dfc5ac42aed,0x53380d139d95b3df,
 0x650a73548baf63de,0x766a0abb3c77b2a8,0x81c2c92e47edaee6,0x92722c851482353b,
 0xa2bfe8a14cf10364,0xa81a664bbc423001,0xc24b8b70d0f89791,0xc76c51a30654be30,
 0xd192e819d6ef5218,0xd69906245565a910,0xf40e35855771202a,0x106aa07032bbd1b8,
 0x19a4c116b8d2d0c8,0x1e376c085141ab53,0x2748774cdf8eeb99,0x34b0bcb5e19b48a8,
 0x391c0cb3c5c95a63,0x4ed8aa4ae3418acb,0x5b9cca4f7763e373,0x682e6ff3d6b2b8a3,
 0x748f82ee5defb2fc,0x78a5636f43172f60,0x84c87814a1f0ab72,0x8cc702081a6439ec,
 0x90befffa23631e28,0xa4506cebde82bde9,0xbef9a3f7b2c67915,0xc67178f2e372532b,
 0xca273eceea26619c,0xd186b8c721c0c207,0xeada7dd6cde0eb1e,0xf57d4f7fee6ed178,
 0x06f067aa72176fba,0x0a637dc5a2c898a6,0x113f9804bef90dae,0x1b710b35131c471b,
 0x28db77f523047d84,0x32caab7b40c72493,0x3c9ebe0a15c9bebc,0x431d67c49c100d4c,
 0x4cc5d4becb3e42b6,0x597f299cfc657e2a,0x5fcb6fab3ad6faec,0x6c44198c4a475817]
def K32:List (BitVec 32):=(K64.take 64).map fun(x:BitVec 64)=>(x>>>32).setWidth 32
def qJ:Sha 32 where
 S0 x:=vz x 30^^^vz x 19^^^vz x 10
 S1 x:=vz x 26^^^vz x 21^^^vz x 7
 s0 x:=vz x 25^^^vz x 14^^^x>>>3
 s1 x:=vz x 15^^^vz x 13^^^x>>>10
 word p i:=qdB (p.getD (4*i) 0) (p.getD (4*i+1) 0) (p.getD (4*i+2) 0) (p.getD (4*i+3) 0)
 K:=K32
 size:=64
def qbR(x:BitVec 32):qf:=[(x>>>24).setWidth 8,(x>>>16).setWidth 8,(x>>>8).setWidth 8,x.setWidth 8]
def beN(v:Nat):Nat→qf
 |0=> []
 |k+1=>QP 8 (v/256^k)::beN v k
theorem qdj(v k:Nat):(beN v k).length=k:=by
 induction k with
 |zero=>rfl
 |succ k ih=>rw[beN,Jr,ih]
def yu(n piece size:Nat):Nat:=(2*piece-size-1-n % piece) % piece
def zb(rest:qf)(n piece size:Nat):qf:=rest++128#8::(QL (yu rest.length piece size) 0#8++beN (8*n) size)
def jZ:S8 32:=⟨0x6a09e667,0xbb67ae85,0x3c6ef372,0xa54ff53a,0x510e527f,0x9b05688c,0x1f83d9ab,0x5be0cd19⟩
def kH:S8 64:=⟨0x6a09e667f3bcc908,0xbb67ae8584caa73b,0x3c6ef372fe94f82b,0xa54ff53a5f1d36f1,0x510e527fade682d1,0x9b05688c2b3e6c1f,0x1f83d9abfb41bd6b,0x5be0cd19137e2179⟩
def zt(t:qf):qf:=(qJ.pieces ((zb t t.length 64 8).length/64) (zb t t.length 64 8) jZ).list.flatMap qbR
section
open Go.RowKit
theorem qV{w W w':World}(h:Below w.heap.size w W)(hb:Below W.heap.size W w'):Below w.heap.size w w':=h.trans (hb.mono h.size)
theorem je{B:Nat}{a w:World}(h:Below B a w)(n:Nat):Below B a (w.drewN n):=⟨h.os,h.tape,h.output,h.size,h.block⟩
def b8(x:BitVec 8):Value:= .int .u8 (bv x)
theorem qoC(x:BitVec 8):b8 x= .int .u8 (bv x):=rfl
def Rd{α:Type}(f:α→Value)(w:World)(B:Nat)(A:Option Addr)(xs:List α):Prop:=
 0<xs.length→∃b off,A=some ⟨b,off,none⟩∧b<B∧∀j u,xs[j]?=some u→w.cell? ⟨b,off+j,none⟩=some (f u)
section
variable{α:Type}{f:α→Value}{w w':World}{B B':Nat}{A:Option Addr}{xs:List α}
theorem Rd.nil_(f:α→Value)(w:World)(B:Nat)(A:Option Addr):Rd f w B A []:=fun h=>absurd h (by simp)
theorem Rd.at_(h:Rd f w B A xs){k:Nat}(hk:k<xs.length):∃b off,A=some ⟨b,off,none⟩∧b<B∧w.cell? ⟨b,off+k,none⟩=some (f xs[k]):=by
 obtain⟨b,off,e,hb,hc⟩:=h (by omega);exact⟨b,off,e,hb,hc k _ (QT hk)⟩
theorem Rd.keep(h:Rd f w B A xs)(hk:∀p:Addr,p.block<B→w'.cell? p=w.cell? p):Rd f w' B A xs:=fun hn=>by
 obtain⟨b,off,e,hb,hc⟩:=h hn;exact⟨b,off,e,hb,fun j u hu=>(hk _ hb).trans (hc j u hu)⟩
theorem Rd.more(h:Rd f w B A xs)(hB:B≤B'):Rd f w B' A xs:=fun hn=>by
 obtain⟨b,off,e,hb,hc⟩:=h hn;exact⟨b,off,e,by omega,hc⟩
theorem Rd.below(h:Rd f w B A xs)(hb:Below B w w'):Rd f w' B A xs:=h.keep fun _ hp=>hb.cell hp
theorem Rd.drew(h:Rd f w B A xs):Rd f w.drew B A xs:=h
theorem Rd.drewN(h:Rd f w B A xs)(k:Nat):Rd f (w.drewN k) B A xs:=h
theorem Rd.alloc(h:Rd f w B A xs)(hB:B≤w.heap.size)(o:Obj):Rd f (w.alloc o) B A xs:=h.keep fun p hp=>World.cell?_alloc_lt w o p (by omega)
theorem Rd.take(h:Rd f w B A xs)(k:Nat):Rd f w B A (xs.take k):=fun hn=>by
 rw[QV]at hn;obtain⟨b,off,e,hb,hc⟩:=h (by omega);refine⟨b,off,e,hb,fun j u hu=>hc j u ?_⟩;rw[List.getElem?_take]at hu;split at hu
 ·exact hu
 ·cases hu
theorem Rd.drop(h:Rd f w B A xs)(k:Nat):Rd f w B (A.map (·.add k)) (xs.drop k):=fun hn=>by
 rw[Jf]at hn;obtain⟨b,off,rfl,hb,hc⟩:=h (by omega);refine⟨b,off+k,by simp[Addr.add_lit],hb,fun j u hu=>?_⟩;rw[List.getElem?_drop]at hu;rw[Nat.add_assoc];exact hc _ u hu
theorem Rd.cells(h:Rd f w B A xs){a:Addr}(ha:A=some a):∀j u,(xs.map f)[j]?=some u→w.cell? (a.add j)=some u:=by
 intro j u hu;rw[Jn,Option.map_eq_some_iff]at hu;obtain⟨x,hx,rfl⟩:=hu;have hl:j<xs.length:=by
  rcases Jo j xs.length with h|h
  ·exact h
  ·rw[List.getElem?_eq_none h]at hx;cases hx
 obtain⟨b,off,e,hb,hc⟩:=h (by omega);rw[ha]at e;injection e with e;subst e;rw[Addr.add_lit];exact hc j x hx
end
def Own{α:Type}(f:α→Value)(w:World)(B:Nat)(E:TypeId)(v:Value)(xs:List α):Prop:=w.ownsRow B E 1 v xs.length (xs.map f)
section
variable{α:Type}{f:α→Value}{w w':World}{B:Nat}{E:TypeId}{v:Value}{xs:List α}
theorem Own.shape(h:Own f w B E v xs):∃A c,v= .slice A xs.length c∧Rd f w w.heap.size A xs∧(A=none→c=0)∧xs.length≤c∧c≤maxLen:=by
 rcases h.2 with⟨rfl,h0⟩|⟨g,cap,cur,rfl,hb,hg,hn,hm,hs,ht⟩
 ·have e:xs=[]:=J2 h0
  subst e;exact⟨none,0,rfl,Rd.nil_ _ _ _ _,fun _=>rfl,QI _,by simp[maxLen]⟩
 ·refine⟨_,cap,rfl,fun hpos=>⟨g,0,rfl,?_,fun j u hu=>?_⟩,(fun e=>by cases e),hn,hm⟩
  ·rcases Jo g w.heap.size with hl|hl
   ·exact hl
   ·rw[J3 hl]at hg;cases hg
  ·rw[JD,cell_of_row w g j cur E (0,0) hg]
   have h1:(xs.map f)[j]?=some (f u):=by rw[Jn,hu];rfl
   rw[←ht,List.getElem?_take]at h1;split at h1
   ·simpa using h1
   ·cases h1
theorem Own.form(h:Own f w B E v xs)(hn:0<xs.length):∃g cap,v= .slice (some ⟨g,0,none⟩) xs.length cap∧B≤g∧g<w.heap.size∧xs.length≤cap:=by
 rcases h.2 with⟨rfl,h0⟩|⟨g,cap,cur,rfl,hb,hg,hn',hm,hs,ht⟩
 ·omega
 ·refine⟨g,cap,rfl,hb,?_,hn'⟩
  rcases Jo g w.heap.size with hl|hl
  ·exact hl
  ·rw[J3 hl]at hg;cases hg
theorem Own.form'{n:Nat}(h:Own f w B E v xs)(hn:xs.length=n)(hp:0<n):∃g cap,v= .slice (some ⟨g,0,none⟩) n cap∧B≤g∧g<w.heap.size∧n≤cap:=by
 subst hn;exact h.form hp
theorem Own.shape'{n:Nat}(h:Own f w B E v xs)(hn:xs.length=n):∃A c,v= .slice A n c∧Rd f w w.heap.size A xs∧(A=none→c=0)∧n≤c∧c≤maxLen:=by
 subst hn;exact h.shape
theorem Own.at_{g cap n:Nat}(h:Own f w B E (.slice (some ⟨g,0,none⟩) n cap) xs){k:Nat}(hk:k<xs.length):
 w.cell? ⟨g,k,none⟩=some (f xs[k])∧w.frozen? ⟨g,k,none⟩=false:=by
 have hn:n=xs.length:=by
  rcases h.2 with⟨e,_⟩|⟨g',cap',cur,e,_⟩<;>simp at e
  omega
 subst hn;refine⟨?_,World.ownsRow.frozenAt h k⟩;rw[World.ownsRow.cellAt h k (by omega),Jn,QT hk];rfl
theorem Own.set_{g cap n:Nat}(h:Own f w B E (.slice (some ⟨g,0,none⟩) n cap) xs)(k:Nat)(u:α):
 Own f (w.setCell ⟨g,k,none⟩ (f u)) B E (.slice (some ⟨g,0,none⟩) n cap) (xs.set k u)∧w.grownBy (w.setCell ⟨g,k,none⟩ (f u)) (some g):=by
 have hn:n=xs.length:=by
  rcases h.2 with⟨e,_⟩|⟨g',cap',cur,e,_⟩<;>simp at e
  omega
 subst hn;have:=World.ownsRow.stored h k (f u);refine⟨?_,this.2⟩;unfold Own;rw[Jy,List.map_set];exact this.1
theorem Own.alloc(h:Own f w B E v xs)(o:Obj):Own f (w.alloc o) B E v xs:=World.ownsRow.alloc h o
theorem Own.drew(h:Own f w B E v xs):Own f w.drew B E v xs:=h
theorem Own.lt(h:Own f w B E v xs):∀k,v.ownBlock=some k→B≤k∧k<w.heap.size:=World.ownsRow.lt h
theorem Own.kept(h:Own f w B E v xs){row:Option Nat}(hg:w.grownBy w' row)(hne:v.ownBlock=none∨v.ownBlock≠row):Own f w' B E v xs:=World.ownsRow.kept h hg hne
theorem Own.below(h:Own f w B E v xs){C:Nat}(hb:Below C w w')(hC:w.heap.size≤C):Own f w' B E v xs:=
 Own.kept h (row:=none) ⟨hb.os,hb.tape,hb.output,hb.size,fun k hk _=>hb.block k (by omega)⟩ (by
  cases hv:v.ownBlock with
  |none=>exact .inl rfl
  |some k=>exact .inr (by simp))
theorem Own.less(h:Own f w B E v xs){B':Nat}(hB:B'≤B):Own f w B' E v xs:=by
 refine⟨h.1,?_⟩;rcases h.2 with h|⟨g,cap,cur,e,hb,hg,hr⟩
 ·exact .inl h
 ·exact .inr ⟨g,cap,cur,e,by omega,hg,hr⟩
theorem Own.nil_(f:α→Value)(w:World)(B:Nat)(E:TypeId):Own f w B E (.slice none 0 0) []:=World.ownsRow_nil w B E 1
theorem Own.lit(f:α→Value)(w:World)(B:Nat)(E:TypeId)(xs:List α)(hb:B≤w.heap.size)(hm:xs.length≤maxLen):
 Own f (w.alloc (.cells (xs.map f).toArray E)) B E (.slice (some ⟨w.heap.size,0,none⟩) xs.length xs.length) xs:=by
 have:=World.ownsRow_lit (base:=B) (e:=E) (size:=1) w (xs.map f).toArray xs.length hb hm (by simp);simpa[Own]using this
theorem Own.cast{ys:List α}(h:Own f w B E v xs)(e:xs=ys):Own f w B E v ys:=e▸h
end
def kU(w w':World)(v v':Value):Prop:=
 (v'=v∧w'=w)∨(∃g n n' c,v= .slice (some ⟨g,0,none⟩) n c∧v'= .slice (some ⟨g,0,none⟩) n' c∧w.grownBy w' (some g))∨(v'.ownBlock=some w.heap.size∧w.grownBy w' none)
theorem qgr{w w':World}(h:w.grownBy w' none)(row:Option Nat):w.grownBy w' row:=⟨h.os,h.tape,h.output,h.size,fun k hk _=>h.block k hk (by simp)⟩
theorem kU.by_{w w':World}{v v':Value}(h:kU w w' v v'):w.grownBy w' v.ownBlock:=by
 rcases h with⟨_,rfl⟩|⟨g,n,n',c,rfl,rfl,hg⟩|⟨_,hg⟩
 ·exact J8 _ _
 ·exact hg
 ·exact qgr hg _
theorem kU.at_{w w':World}{v v':Value}(h:kU w w' v v'):v'.ownBlock=v.ownBlock∨v'.ownBlock=some w.heap.size:=by
 rcases h with⟨rfl,_⟩|⟨g,n,n',c,rfl,rfl,hg⟩|⟨h,hg⟩
 ·exact .inl rfl
 ·exact .inl rfl
 ·exact .inr h
theorem kU.size{w w':World}{v v':Value}(h:kU w w' v v'):w.heap.size≤w'.heap.size:=h.by_.size
theorem kU.bel{α:Type}{f:α→Value}{w w':World}{v v':Value}{base E:Nat}{xs:List α}(h:kU w w' v v')(hown:Own f w base E v xs)(hbase:base≤w.heap.size){C:Nat}{w0:World}(hC:C≤base)(hb:Below C w0 w):Below C w0 w':=
 hb.grown h.by_ (by omega) (fun k hk=>by have:=(hown.lt k hk).1;omega)
section
variable{α:Type}{f:α→Value}{P:Program}{w:World}
theorem qaS(hf:∀x,(f x).oneCell'=true)(base:Nat)(t ty e:TypeId)(i:TypeInfo)(z:Value)(bytes:Nat)(ht:P.underlying t=some (.slice e))(hi:P.info? e=some i)(hz:i.zero=some z)
 (hsize:i.size=1)(hby:i.bytes=bytes)(hzs:z.cells.size=1)
 (v:Value)(xs:List α)(hown:Own f w base e v xs)
 (B:Nat)(A:Option Addr)(c:Nat)(ys:List α)(hr:Rd f w B A ys)
 (h63:xs.length+ys.length≤maxLen)(hbytes:(xs.length+ys.length)*bytes≤140737488355328)(hbase:base≤w.heap.size):
 ∃v' w',(Builtin.append_ #[t,t] ty #[v,.slice A ys.length c]).run P w= .ok v' w'∧Own f w' base e v' (xs++ys)∧kU w w' v v':=by
 have hnil:ys=[]→(Builtin.append_ #[t,t] ty #[v,.slice none ys.length c]).run P w= .ok v w:=by
  rintro rfl;rcases hown.2 with⟨rfl,_⟩|⟨g,cap,cur,rfl,_,_,hnc,_⟩
  ·simp[Builtin.append_,run_underlying ht,sizeOf,typeInfo,hi,Builtin.lenOf,Builtin.firstCells]
  ·simp[Builtin.append_,run_underlying ht,sizeOf,typeInfo,hi,Builtin.lenOf,Builtin.firstCells,hnc,storeCells]
 rcases A with _|ad
 ·have hm:ys=[]:=by
   rcases Nat.eq_zero_or_pos ys.length with h0|h0
   ·exact J2 h0
   ·obtain⟨b,off,h,_⟩:=hr h0
    cases h
  exact⟨v,w,hnil hm,by subst hm;simpa using hown,.inl ⟨rfl,rfl⟩⟩
 have hcells:=hr.cells rfl;have h1:∀u∈ys.map f,u.oneCell'=true:=by intro u hu;obtain⟨x,_,rfl⟩:=QW.1 hu;exact hf x
 have hsmall:xs.length+ys.length≤9223372036854775807:=by simp only[maxLen]at h63;omega
 have grown:∀(old:Nat),old<xs.length+ys.length→
  Own f (w.drew.alloc (.cells ((xs.map f).toArray++(ys.map f).toArray++Builtin.zeroCells z.cells (grownCap w (xs.length+ys.length) old e-(xs.length+ys.length))) e)) base e
   (.slice (some ⟨w.heap.size,0,none⟩) (xs.length+ys.length) (grownCap w (xs.length+ys.length) old e)) (xs++ys)∧
  w.grownBy (w.drew.alloc (.cells ((xs.map f).toArray++(ys.map f).toArray++Builtin.zeroCells z.cells (grownCap w (xs.length+ys.length) old e-(xs.length+ys.length))) e)) none:=by
  intro old ho;have hge:=grownCap_ge w (xs.length+ys.length) old e;have hcm:=grownCap_le_maxLen w (xs.length+ys.length) old e h63;refine⟨⟨by simp,.inr ⟨w.heap.size,_,_,by rw[QO],hbase,heap_alloc_new w.drew _,by rw[QO];exact hge,hcm,?_,?_⟩⟩,⟨rfl,rfl,rfl,by simp,fun k hk _=>heap_alloc_old w.drew _ hk⟩⟩
  ·simp only[Array.size_append,Jh,QN,size_zeroCells,hzs]
   omega
  ·simp only[Array.toList_append,Nat.mul_one]
   rw[←Q9,Zz (by simp)];exact Js (by simp)
 rcases hown.2 with⟨rfl,h0⟩|⟨g,cap,cur,rfl,hbg,hg,hnc,hcm,hcs,htake⟩
 ·have hx:xs=[]:=J2 h0
  subst hx;rcases Nat.eq_zero_or_pos ys.length with hm|hm
  ·have hy:ys=[]:=J2 hm
   subst hy;refine⟨.slice none 0 0,w,?_,Own.nil_ f w base e,.inl ⟨rfl,rfl⟩⟩;simp[Builtin.append_,run_underlying ht,sizeOf,typeInfo,hi,Builtin.lenOf,Builtin.firstCells,loadCells,loadCellsFrom]
  ·have hr:=run_append_nil (P:=P) w t ty e i z ht hi hz ad ys.length c (ys.map f) (by simp[hsize]) hcells hm (by simp at hsmall;omega) (by rw[hby];have hb:=hbytes;simp only[JE,JD]at hb;omega)
   have hgr:=grown 0 (by simpa using hm);simp only[JE,JD,Jt,Ji,Array.empty_append]at hgr ⊢;exact⟨_,_,hr,hgr.1,.inr (.inr ⟨rfl,hgr.2⟩)⟩
 ·by_cases hroom:xs.length+ys.length≤cap
  ·obtain⟨w',hr,ho,hgr⟩:=run_append_fits (P:=P) w base t ty e i 1 ht hi hsize g xs.length cap (xs.map f) hown ad ys.length c (ys.map f) (by simp) hcells h1 hroom
   exact⟨_,w',hr,by unfold Own;rw[QO,Q9];exact ho,.inr (.inl ⟨g,_,_,cap,rfl,rfl,hgr⟩)⟩
  ·have holds:∀j u,(xs.map f)[j]?=some u→w.cell? ((⟨g,0,none⟩:Addr).add j)=some u:=World.ownsRow.cells (g:=g) hown rfl
   have hr:=run_append_grow (P:=P) w t ty e i z ht hi hz ⟨g,0,none⟩ xs.length cap (xs.map f) (by simp[hsize]) holds ad ys.length c (ys.map f) (by simp[hsize]) hcells (by omega) (by omega) (by rw[hby];exact growslice_fits (by omega) hbytes);have hgr:=grown cap (by omega);exact⟨_,_,hr,hgr.1,.inr (.inr ⟨rfl,hgr.2⟩)⟩
theorem qh{ops:Array Oper}{rest:List Oper}{o:Oper}{a:Act}{Q:Exit→Act→World→Prop}(hgd:o.guard=none)(s x:Operand)(t:TypeId)
 (ho:o.op= .call {callee:= .builtin .append,args:= #[s,x],argTypes:= #[t,t]})
 (hf:∀x,(f x).oneCell'=true)(base:Nat)(e:TypeId)(i:TypeInfo)(z:Value)(bytes:Nat)(ht:P.underlying t=some (.slice e))(hi:P.info? e=some i)(hz:i.zero=some z)
 (hsize:i.size=1)(hby:i.bytes=bytes)(hzs:z.cells.size=1)
 (v:Value)(xs:List α)(hs:a.eval s=v)(hown:Own f w base e v xs)
 (B:Nat)(A:Option Addr)(m c:Nat)(ys:List α)(hx:a.eval x= .slice A m c)(hm:m=ys.length)(hr:Rd f w B A ys)
 (h63:xs.length+ys.length≤maxLen)(hbytes:(xs.length+ys.length)*bytes≤140737488355328)(hbase:base≤w.heap.size)
 (h:∀v' w',Own f w' base e v' (xs++ys)→kU w w' v v'→(∀C w0,C≤base→Below C w0 w→Below C w0 w')→wpList P ops Q rest (a.put o.dst v') w'):wpList P ops Q (o::rest) a w:=by
 subst hm;refine wpList_plain hgd fun K hK=>?_
 obtain⟨v',w',hrun,h2,h3⟩:=qaS (P:=P) hf base t o.type e i z bytes ht hi hz hsize hby hzs v xs hown B A c ys hr h63 hbytes hbase;unfold Oper.wp execOp;simp only[ho,resolve,invoke,builtin,Sem.run_bind,Sem.run_pure,Result.andThen_ok,List.map_toArray,Jd,Jt,hs,hx,hrun];exact hK _ _ (h v' w' h2 h3 (fun C w0 hC hb=>h3.bel hown hbase hC hb))
end
theorem qH(x:BitVec 8):(b8 x).oneCell'=true:=rfl
theorem Rd.new{α:Type}(f:α→Value)(w:World)(E:TypeId)(xs:List α):Rd f (w.alloc (.cells (xs.map f).toArray E)) (w.heap.size+1) (some ⟨w.heap.size,0,none⟩) xs:=fun _=>
 ⟨w.heap.size,0,rfl,by omega,fun j u hu=>by
  rw[JD,cell_of_row _ w.heap.size j (xs.map f).toArray E (0,0) (heap_alloc_new w _)];simp[hu]⟩
theorem jc{α:Type}{f:α→Value}{P:Program}{w:World}{ops:Array Oper}{o:Oper}{a:Act}{K:Act→World→Prop}{Q:Exit→Act→World→Prop}{F:Prop}(hgd:o.guard=none)(s x:Operand)(t:TypeId)
 (ho:o.op= .call {callee:= .builtin .append,args:= #[s,x],argTypes:= #[t,t]})
 (hf:∀x,(f x).oneCell'=true)(base:Nat)(e:TypeId)(i:TypeInfo)(z:Value)(bytes:Nat)(ht:P.underlying t=some (.slice e))(hi:P.info? e=some i)(hz:i.zero=some z)
 (hsize:i.size=1)(hby:i.bytes=bytes)(hzs:z.cells.size=1)
 (v:Value)(xs:List α)(hs:a.eval s=v)(hown:Own f w base e v xs)
 (B:Nat)(A:Option Addr)(m c:Nat)(ys:List α)(hx:a.eval x= .slice A m c)(hm:m=ys.length)(hr:Rd f w B A ys)
 (h63:xs.length+ys.length≤maxLen)(hbytes:(xs.length+ys.length)*bytes≤140737488355328)(hbase:base≤w.heap.size)
 (h:∀v' w',Own f w' base e v' (xs++ys)→kU w w' v v'→(∀C w0,C≤base→Below C w0 w→Below C w0 w')→K (a.put o.dst v') w'):
 if Region.wanted o (yielded ops a.tmps)=true then Oper.wp P o a w K Q else F:=by
 have hw:Region.wanted o (yielded ops a.tmps)=true:=by simp[Region.wanted,hgd]
 rw[if_pos hw];subst hm;obtain⟨v',w',hrun,h2,h3⟩:=qaS (P:=P) hf base t o.type e i z bytes ht hi hz hsize hby hzs v xs hown B A c ys hr h63 hbytes hbase;unfold Oper.wp execOp;simp only[ho,resolve,invoke,builtin,Sem.run_bind,Sem.run_pure,Result.andThen_ok,List.map_toArray,Jd,Jt,hs,hx,hrun];exact h v' w' h2 h3 (fun C w0 hC hb=>h3.bel hown hbase hC hb)
abbrev Sl:=Option Addr×Nat×Nat
def sl(x:Sl):Value:= .slice x.1 x.2.1 x.2.2
theorem Own.rd{α:Type}{f:α→Value}{w:World}{B E:Nat}{A:Option Addr}{n c:Nat}{xs:List α}(h:Own f w B E (.slice A n c) xs):Rd f w w.heap.size A xs:=by
 obtain⟨A',c',e,hr,_⟩:=h.shape;injection e with e1 e2 e3;subst e1;exact hr
theorem Own.len{α:Type}{f:α→Value}{w:World}{B E:Nat}{A:Option Addr}{n c:Nat}{xs:List α}(h:Own f w B E (.slice A n c) xs):n=xs.length:=by
 obtain⟨A',c',e,hr,_⟩:=h.shape;injection e with e1 e2 e3
theorem Rd.grown{α:Type}{f:α→Value}{w w':World}{B:Nat}{A:Option Addr}{xs:List α}{row:Option Nat}(h:Rd f w B A xs)(hg:w.grownBy w' row)(hB:B≤w.heap.size)(hne:∀a:Addr,A=some a→some a.block≠row):Rd f w' B A xs:=fun hn=>by
 obtain⟨b,off,e,hb,hc⟩:=h hn;exact⟨b,off,e,hb,fun j u hu=>(JK (hg.block b (by omega) (hne _ e))).trans (hc j u hu)⟩
theorem qp{a b c:World}{r s:Option Nat}(h:a.grownBy b r)(k:b.grownBy c s)(hs:∀g,s=some g→r=some g∨a.heap.size≤g):a.grownBy c r:=
 ⟨k.os.trans h.os,k.tape.trans h.tape,k.output.trans h.output,QX h.size k.size,fun i hi hne=>
  (k.block i (Jq hi h.size) (fun e=>by
   rcases hs i e.symm with h1|h1
   ·exact hne h1.symm
   ·omega)).trans (h.block i hi hne)⟩
theorem Own.kept'{α:Type}{f:α→Value}{w w':World}{B E:Nat}{v:Value}{xs:List α}(h:Own f w B E v xs){row:Option Nat}(hg:w.grownBy w' row)(hne:∀g,row=some g→v.ownBlock≠some g):Own f w' B E v xs:=
 h.kept hg (by
  cases hv:v.ownBlock with
  |none=>exact .inl rfl
  |some k=>exact .inr (fun e=>hne k e.symm hv))
theorem Own.short{α:Type}{f:α→Value}{w:World}{B E:Nat}{A:Option Addr}{m c:Nat}{ys:List α}(h:Own f w B E (.slice A m c) ys)(n:Nat)(hn:n≤m):Own f w B E (.slice A n c) (ys.take n):=by
 have hm:=h.len;rcases h.2 with⟨e,h0⟩|⟨g,cap,cur,e,hb,hg,hnc,hcm,hs,ht⟩
 ·injection e with e1 e2 e3
  subst e1;subst e2;subst e3;obtain rfl:n=0:=by omega
  exact(Own.nil_ f w B E).cast (by simp)
 ·injection e with e1 e2 e3
  subst e1;subst e3;refine⟨by simp,.inr ⟨g,c,cur,?_,hb,hg,?_,hcm,hs,?_⟩⟩
  ·rw[QV,JJ (by omega)]
  ·rw[QV];omega
  ·rw[List.map_take,←ht,List.take_take,QV]
   congr 1
   omega
def Arr{α:Type}(f:α→Value)(w:World)(g:Nat)(T:TypeId)(xs:List α):Prop:=w.heap[g]?=some (.cells (xs.map f).toArray T (0,0))
section
variable{α:Type}{f:α→Value}{w w':World}{g:Nat}{T:TypeId}{xs:List α}
theorem Arr.lt(h:Arr f w g T xs):g<w.heap.size:=by
 rcases Jo g w.heap.size with hlt|hge
 ·exact hlt
 ·unfold Arr at h;rw[J3 hge]at h;cases h
theorem Arr.at_(h:Arr f w g T xs){k:Nat}{u:α}(hk:xs[k]?=some u):w.cell? ⟨g,k,none⟩=some (f u):=by
 rw[cell_of_row w g k _ T (0,0) h];simp[hk]
theorem Arr.cell(h:Arr f w g T xs){k:Nat}(hk:k<xs.length):w.cell? ⟨g,k,none⟩=some (f xs[k]):=h.at_ (QT hk)
theorem Arr.cellD(h:Arr f w g T xs){k:Nat}(hk:k<xs.length)(d:α):w.cell? ⟨g,k,none⟩=some (f (xs.getD k d)):=h.at_ (by simp[QR,QT hk])
theorem Arr.frozen(h:Arr f w g T xs)(k:Nat):w.frozen? ⟨g,k,none⟩=false:=frozen_of_row w g k _ T h
theorem Arr.new(f:α→Value)(w:World)(T:TypeId)(xs:List α):Arr f (w.alloc (.cells (xs.map f).toArray T)) w.heap.size T xs:=heap_alloc_new w _
theorem Arr.at_size(f:α→Value){w:World}(T:TypeId)(xs:List α){k:Nat}(h:w.heap.size=k):Arr f (w.alloc (.cells (xs.map f).toArray T)) k T xs:=by subst h;exact Arr.new f w T xs
theorem Arr.drew(h:Arr f w g T xs):Arr f w.drew g T xs:=h
theorem Arr.drewN(h:Arr f w g T xs)(k:Nat):Arr f (w.drewN k) g T xs:=h
theorem Arr.alloc(h:Arr f w g T xs)(o:Obj):Arr f (w.alloc o) g T xs:=(Below.heap_alloc w o g h.lt).trans h
theorem Arr.set_(h:Arr f w g T xs)(k:Nat)(u:α):Arr f (w.setCell ⟨g,k,none⟩ (f u)) g T (xs.set k u):=by
 unfold Arr at h ⊢;rw[heap_setCell_same w g k _ T (f u) h]
 congr 2
 apply Array.ext';simp[List.map_set]
theorem Arr.far(h:Arr f w g T xs){p:Addr}(hp:g≠p.block)(u:Value):Arr f (w.setCell p u) g T xs:=(Below.heap_setCell w p u g hp).trans h
theorem Arr.below{B:Nat}(h:Arr f w g T xs)(hb:Below B w w')(hg:g<B):Arr f w' g T xs:=(hb.block g hg).trans h
theorem Arr.grown{row:Option Nat}(h:Arr f w g T xs)(hb:w.grownBy w' row)(hg:some g≠row):Arr f w' g T xs:=(hb.block g h.lt hg).trans h
theorem Arr.cast{ys:List α}(h:Arr f w g T xs)(e:xs=ys):Arr f w g T ys:=e▸h
theorem Arr.range(h:Arr f w g T xs)(o n:Nat):w.rangeAt g o (((xs.map f).drop o).take n):=fun j v hv=>by
 rw[List.getElem?_take]at hv;split at hv
 ·rw[List.getElem?_drop,Jn,Option.map_eq_some_iff]at hv
  obtain⟨u,hu,rfl⟩:=hv;exact h.at_ hu
 ·cases hv
theorem Arr.whole(h:Arr f w g T xs):w.rangeAt g 0 (xs.map f):=fun j v hv=>by
 rw[Jn,Option.map_eq_some_iff]at hv;obtain⟨u,hu,rfl⟩:=hv;rw[JD];exact h.at_ hu
theorem Arr.there(h:Arr f w g T xs){o n:Nat}(hn:o+n≤xs.length):w.there g o n:=fun j hj=>⟨by rw[h.cell (k:=o+j) (by omega)];rfl,h.frozen _⟩
theorem Arr.rd(h:Arr f w g T xs)(o:Nat):Rd f w (g+1) (some ⟨g,o,none⟩) (xs.drop o):=fun _=>⟨g,o,rfl,by omega,fun j u hu=>by
 rw[List.getElem?_drop]at hu;exact h.at_ hu⟩
end
def jL{α:Type}(f:α→Value)(xs:List α):Value:= .agg (xs.map f).toArray
theorem qn{α:Type}(f:α→Value)(xs:List α):jL f xs= .agg (xs.map f).toArray:=rfl
theorem zA{α:Type}{f:α→Value}{g:Nat}{T:TypeId}:∀(ys:List α) (pre old:List α) (w:World),old.length=ys.length→Arr f w g T (pre++old)→Arr f (w.setCells g pre.length (ys.map f)) g T (pre++ys)∧w.grownBy (w.setCells g pre.length (ys.map f)) (some g)
 | [],pre,[],w,_,h=>⟨h,J8 _ _⟩
 |y::ys,pre,x::old,w,hl,h=>by
  have h1:=h.set_ pre.length y;have e:(pre++x::old).set pre.length y=(pre++ [y])++old:=by
   rw[List.set_append];simp
  rw[e]at h1;have ih:=zA ys (pre++ [y]) old _ (by simpa using hl) h1;rw[QO,List.length_singleton]at ih;simp only[Jd];rw[World.setCells];refine⟨ih.1.cast (by simp),?_⟩;have hg:w.grownBy (w.setCell ⟨g,pre.length,none⟩ (f y)) (some g):=⟨rfl,rfl,rfl,by rw[World.size_setCell];exact QI _,fun k _ hk=>Below.heap_setCell w ⟨g,pre.length,none⟩ (f y) k (fun e=>hk (by rw[e]))⟩
  exact qp hg ih.2 (fun _ e=> .inl e)
theorem qk{P:Program}{α:Type}{f:α→Value}{ops:Array Oper}{rest:List Oper}{op:Oper}{a:Act}{w:World}{Q:Exit→Act→World→Prop}(hgd:op.guard=none)(ty:TypeId)(x y:Operand)(ho:op.op= .store ty x y)
 (g:Nat)(hx:a.eval x= .pointer (some ⟨g,0,none⟩))(ys:List α)(hy:a.eval y= .agg (ys.map f).toArray)(T:TypeId)(xs:List α)(hA:Arr f w g T xs)(hl:xs.length=ys.length)
 (hi:(P.info? ty).map (·.size)=some ys.length)(h1:∀u,(f u).oneCell'=true)
 (h:∀w',Arr f w' g T ys→w.grownBy w' (some g)→wpList P ops Q rest (a.put op.dst undef) w'):wpList P ops Q (op::rest) a w:=by
 obtain⟨h2,h3⟩:=zA (f:=f) ys [] xs w hl hA;refine wpList_store_mid hgd ty x y ho g 0 (ys.map f).toArray hx hy ?_ ?_ ?_ ?_
 ·exact hA.there (by simp[hl])
 ·rw[hi];simp
 ·exact all_oneCell_toArray (fun v hv=>by obtain⟨u,_,rfl⟩:=QW.1 hv;exact h1 u)
 ·simp only
  exact h _ h2 h3
theorem qm{P:Program}{α:Type}{f:α→Value}{ops:Array Oper}{rest:List Oper}{op:Oper}{a:Act}{w:World}{Q:Exit→Act→World→Prop}(hgd:op.guard=none)(ty:TypeId)(x:Operand)(ho:op.op= .load ty x)
 (g:Nat)(hx:a.eval x= .pointer (some ⟨g,0,none⟩))(T:TypeId)(xs:List α)(hA:Arr f w g T xs)(d:TypeDesc)
 (hu:P.underlying ty=some d)(hd:d.isRow=true)(hi:(P.info? ty).map (·.size)=some xs.length)
 (h:wpList P ops Q rest (a.put op.dst (.agg (xs.map f).toArray)) w):wpList P ops Q (op::rest) a w:=
 wpList_load_mid hgd ty x ho g 0 hx (xs.map f) d hA.whole hu hd (by rw[hi,QN]) h
theorem jW{P:Program}{α:Type}{f:α→Value}{fn:Func}{p u:Tmp}{ty:TypeId}(h:fn.results= #[.cell p ty,.tmp u])(tmps:Array Value)(w:World)(g:Nat)(T:TypeId)(xs:List α)(d:TypeDesc)(v:Value)
 (hp:tmps.getD p undef= .pointer (some ⟨g,0,none⟩))(hv:tmps.getD u undef=v)(hA:Arr f w g T xs)(hu:P.underlying ty=some d)(hd:d.isRow=true)(hi:(P.info? ty).map (·.size)=some xs.length):
 (results fn tmps).run P w= .ok (.tuple #[.agg (xs.map f).toArray,v]) w:=by
 subst hv;have hp':tmps[p]?.getD undef= .pointer (some ⟨g,0,none⟩):=by simpa using hp
 have hl:=run_loadVar_mid (P:=P) w g 0 ty (xs.map f) d hA.whole hu hd (by rw[hi,QN]);simp[results,h,hp',asAddr,hl]
theorem qY{P:Program}{α:Type}{f:α→Value}{fn:Func}{p:Tmp}{ty:TypeId}(h:fn.results= #[.cell p ty])(tmps:Array Value)(w:World)(g:Nat)(T:TypeId)(xs:List α)(d:TypeDesc)
 (hp:tmps.getD p undef= .pointer (some ⟨g,0,none⟩))(hA:Arr f w g T xs)(hu:P.underlying ty=some d)(hd:d.isRow=true)(hi:(P.info? ty).map (·.size)=some xs.length):
 (results fn tmps).run P w= .ok (.agg (xs.map f).toArray) w:=by
 have hp':tmps[p]?.getD undef= .pointer (some ⟨g,0,none⟩):=by simpa using hp
 have hl:=run_loadVar_mid (P:=P) w g 0 ty (xs.map f) d hA.whole hu hd (by rw[hi,QN]);simp[results,h,hp',asAddr,hl]
def cI(z:Int):Value:= .int .i64 z
theorem qoh(z:Int):(cI z).oneCell'=true:=rfl
theorem qU(x:BitVec 8):(b8 x).oneCell'=true:=rfl
def Blk(w:World)(g:Nat)(T:TypeId)(cs:List Value):Prop:=w.heap[g]?=some (.cells cs.toArray T (0,0))
section
variable{w w':World}{g:Nat}{T:TypeId}{cs:List Value}
theorem Blk.arr(h:Blk w g T cs):Arr (fun v:Value=>v) w g T cs:=by unfold Arr;rw[List.map_id'];exact h
theorem qjk(h:Arr (fun v:Value=>v) w g T cs):Blk w g T cs:=by unfold Arr at h;rw[List.map_id']at h;exact h
theorem Blk.lt(h:Blk w g T cs):g<w.heap.size:=h.arr.lt
theorem Blk.cell(h:Blk w g T cs)(k:Nat){u:Value}(hk:cs[k]?=some u):w.cell? ⟨g,k,none⟩=some u:=h.arr.at_ hk
theorem Blk.frozen(h:Blk w g T cs)(k:Nat):w.frozen? ⟨g,k,none⟩=false:=h.arr.frozen k
theorem Blk.new(w:World)(T:TypeId)(cs:List Value):Blk (w.alloc (.cells cs.toArray T)) w.heap.size T cs:=heap_alloc_new w _
theorem Blk.at_size{w:World}(T:TypeId)(cs:List Value){k:Nat}(h:w.heap.size=k):Blk (w.alloc (.cells cs.toArray T)) k T cs:=by subst h;exact Blk.new w T cs
theorem Blk.drewN(h:Blk w g T cs)(k:Nat):Blk (w.drewN k) g T cs:=h
theorem Blk.drew(h:Blk w g T cs):Blk w.drew g T cs:=h
theorem Blk.alloc(h:Blk w g T cs)(o:Obj):Blk (w.alloc o) g T cs:=(Below.heap_alloc w o g h.lt).trans h
theorem Blk.below{B:Nat}(h:Blk w g T cs)(hb:Below B w w')(hg:g<B):Blk w' g T cs:=(hb.block g hg).trans h
theorem Blk.grown{row:Option Nat}(h:Blk w g T cs)(hb:w.grownBy w' row)(hg:some g≠row):Blk w' g T cs:=(hb.block g h.lt hg).trans h
theorem Blk.set_(h:Blk w g T cs)(k:Nat)(u:Value):Blk (w.setCell ⟨g,k,none⟩ u) g T (cs.set k u):=qjk (h.arr.set_ k u)
theorem Blk.far(h:Blk w g T cs){p:Addr}(hp:g≠p.block)(u:Value):Blk (w.setCell p u) g T cs:=(Below.heap_setCell w p u g hp).trans h
theorem Blk.cast{ds:List Value}(h:Blk w g T cs)(e:cs=ds):Blk w g T ds:=e▸h
theorem Blk.range(h:Blk w g T cs)(o n:Nat):w.rangeAt g o ((cs.drop o).take n):=by have:=h.arr.range o n;rwa[List.map_id']at this
theorem Blk.whole(h:Blk w g T cs):w.rangeAt g 0 cs:=by have:=h.arr.whole;rwa[List.map_id']at this
theorem Blk.not_row{α:Type}{f:α→Value}{B:Nat}{e:TypeId}{v:Value}{xs:List α}(h:Blk w g T cs)(hte:T≠e)(hr:Own f w B e v xs):some g≠v.ownBlock:=by
 rcases hr.2 with⟨rfl,_⟩|⟨g',cap,cur,rfl,_,hgb,_⟩
 ·simp[JF]
 ·intro e'
  obtain rfl:g=g':=by simpa[JF]using e'
  have:w.heap[g]?=some (.cells cs.toArray T (0,0)):=h;rw[this]at hgb;cases hgb;exact hte rfl
theorem qM(W:World)(b k:Nat)(v:Value):W.grownBy (W.setCell ⟨b,k,none⟩ v) (some b):=
 ⟨rfl,rfl,rfl,(KeepsWalks.setCell W _ v).size,fun j _ hj=>Below.heap_setCell _ _ _ j (fun e=>hj (by rw[e]))⟩
end
theorem jN:(prog.info? 5).map (fun i=>(i.zero,i.size,i.bytes))=some (some (.int .u8 0),1,1):=by kernel_rfl
def w32(x:BitVec 32):Value:= .int .u32 (bv x)
def w64(x:BitVec 64):Value:= .int .u64 (bv x)
theorem ug(x:BitVec 32):(w32 x).oneCell'=true:=rfl
theorem qfA(x:BitVec 64):(w64 x).oneCell'=true:=rfl
theorem qkh(k:Int):bits .and .u64 (IntKind.u64.wrap k) 31=(((k % 32).toNat:Nat):Int):=by
 rw[qcs,show(31:Int)=@Jg Int 31 instOfNat from rfl,qaW];unfold bv;rw[BitVec.toNat_and,show(QP 64 31).toNat=2^5-1 from rfl,Nat.and_two_pow_sub_one_eq_mod,BitVec.toNat_ofInt];omega
theorem qal(x:BitVec 32)(k:Int)(w:World):
 Calls prog 130 #[.int .u32 (bv x),.int .i64 k] w fun e w'=>e= .returned (.int .u32 (bv (vz x (k % 32).toNat)))∧w=w':=by
 have hc:=qkh k;generalize hs:(k % 32).toNat=s at hc ⊢;have h1:s≤31:=by omega
 have h2:((32:Int)-(s:Int))=((32-s:Nat):Int):=by omega
 clear hs;go_enter func130,ntmps130
 go_wp2
 go_ret;exact⟨rfl,rfl⟩
theorem qeM(x:BitVec 32)(a b c:Int)(ha: -100≤a∧a≤100)(hb: -100≤b∧b≤100)(hc: -100≤c∧c≤100)(w:World):
 Calls prog 158 #[.int .u32 (bv x),.int .i64 a,.int .i64 b,.int .i64 c] w fun e w'=>e= .returned (.int .u32 (bv (vz x (-a % 32).toNat^^^vz x (-b % 32).toNat^^^vz x (-c % 32).toNat)))∧w=w':=by
 have ha':wrap64 (-a)= -a:=IntWalk.wrap64_in _ (by omega);have hb':wrap64 (-b)= -b:=IntWalk.wrap64_in _ (by omega);have hc':wrap64 (-c)= -c:=IntWalk.wrap64_in _ (by omega);clear ha hb hc;go_enter func158,ntmps158
 go_wp2_with (go_at_call 130;refine(qal _ _ _).mono ?_;rintro e w' ⟨rfl,rfl⟩)
 go_ret;exact⟨rfl,rfl⟩
theorem qnk(x:BitVec 32)(w:World):Calls prog 158 #[.int .u32 (bv x),.int .i64 6,.int .i64 11,.int .i64 25] w fun e w'=>e= .returned (.int .u32 (bv (qJ.S1 x)))∧w=w':=qeM x 6 11 25 (by decide) (by decide) (by decide) w
theorem qnl(x:BitVec 32)(w:World):Calls prog 158 #[.int .u32 (bv x),.int .i64 2,.int .i64 13,.int .i64 22] w fun e w'=>e= .returned (.int .u32 (bv (qJ.S0 x)))∧w=w':=qeM x 2 13 22 (by decide) (by decide) (by decide) w
theorem qia{P:Program}{ops:Array Oper}{rest:List Oper}{op:Oper}{a:Act}{w:World}{Q:Exit→Act→World→Prop}(hgd:op.guard=none)(v:Value)(h:∀a w,(execOp (Act.eval a) op).run P w= .ok (.value v) w)
 (k:wpList P ops Q rest (a.put op.dst v) w):wpList P ops Q (op::rest) a w:=by
 refine wpList_plain hgd fun K hK=>?_
 unfold Oper.wp;rw[h a w];exact hK _ _ k
def ul:Array Value:=((QL 80 0#64).map w64).toArray
theorem qki(w:World):Calls prog 157 #[] w fun e w'=>e= .returned (.agg (K64.map w64).toArray)∧Below w.heap.size w w':=by
 have hz:∀w,(zeroValue 246).run prog w= .ok (.agg ul) w:=fun _=>by kernel_rfl
 have HX0:=qe (show Arr w64 (w.alloc (.cells ul 246)) w.heap.size 246 (QL 80 0#64)from Arr.new w64 w _ _);go_enter func157,ntmps157
 go_wp2_with (first
  |refine qia rfl (.agg (K64.map w64).toArray) (fun a w=>by as_aux_lemma=>kernel_rfl) ?_
  |(refine qk rfl 246 _ _ rfl w.heap.size rfl K64 rfl _ _ HX0.1 rfl (by kernel_rfl) qfA ?_;intro w1 hx1 hg1))
 refine bodyPost_ret (v:= .agg (K64.map w64).toArray) (qY (g:=w.heap.size) rfl _ _ _ _ _ rfl hx1 underlying246 rfl (by kernel_rfl)) rfl ?_;exact⟨rfl,((QK _ _).alloc (QI _) _).grown hg1 (by simp) (fun k e=>by cases e;simp)⟩
theorem qkj(w:World):Calls prog 153 #[] w fun e w'=>e= .returned (.agg (kH.list.map w64).toArray)∧Below w.heap.size w w':=by
 have HX0:=qe (show Arr w64 (w.alloc (.cells ((QL 8 0#64).map w64).toArray 239)) w.heap.size 239 (QL 8 0#64)from Arr.new w64 w _ _);go_enter func153,ntmps153
 go_wp2_with (refine qk rfl 239 _ _ rfl w.heap.size rfl kH.list (by kernel_rfl) _ _ HX0.1 rfl (by kernel_rfl) qfA ?_;intro w1 hx1 hg1)
 refine bodyPost_ret (v:= .agg (kH.list.map w64).toArray) (qY (g:=w.heap.size) rfl _ _ _ _ _ rfl hx1 underlying239 rfl (by kernel_rfl)) rfl ?_;exact⟨rfl,((QK _ _).alloc (QI _) _).grown hg1 (by simp) (fun k e=>by cases e;simp)⟩
def yX(k:Nat):List (BitVec 32):=K32.take k++QL (64-k) 0#32
theorem j9:K32.length=64:=by kernel_rfl
theorem qdk:K64.length=80:=by kernel_rfl
theorem qkk(k:Nat)(hk:k≤64):(yX k).length=64:=by
 unfold yX;rw[QO,QV,Jz,j9];omega
theorem qkl(k:Nat)(hk:k<64):(yX k).set k (K32.getD k 0#32)=yX (k+1):=by
 have e:64-k=(64-(k+1))+1:=by omega
 have hl:(K32.take k).length=k:=by rw[QV,j9];omega
 unfold yX;rw[e,List.replicate_succ,Zp _ _ (by omega),hl,Nat.sub_self,qz,Zd (by rw[j9];exact hk),Jb];simp[QR,QT (show k<K32.length by rw[j9];exact hk)]
theorem qlF(k:Nat)(hk:k<64):K32.getD k 0#32=(K64.getD k 0#64>>>32).setWidth 32:=by
 have h1:k<K64.length:=by rw[qdk];omega
 unfold K32;rw[QR,QR,Jn,List.getElem?_take,if_pos hk,QT h1];rfl
theorem qdC:(prog.info? 241).map (·.size)=some 64:=by kernel_rfl
theorem qoi:(prog.info? 246).map (·.size)=some 80:=by kernel_rfl
theorem qoj:∀w,(zeroValue 246).run prog w= .ok (.agg ul) w:=fun _=>by kernel_rfl
theorem qdD(w:World):Calls prog 154 #[] w fun e w'=>e= .returned (.agg (K32.map w32).toArray)∧Below w.heap.size w w':=by
 have hz:=qoj;go_enter func154,ntmps154
 go_wp2_with fail
 refine(qki _).mono ?_;rintro e w1 ⟨rfl,hb1⟩;have ho0:Arr w32 (w.alloc (.cells ((QL 64 0#32).map w32).toArray 241)) w.heap.size 241 (QL 64 0#32):=Arr.new w32 w _ _;have hs1:w.heap.size<w1.heap.size:=by have:=hb1.size;simp at this;omega
 have HO:=qe ((ho0.below hb1 (by simp)).alloc (.cells ul 246));have HL:=qe (show Arr w64 (w1.alloc (.cells ul 246)) w1.heap.size 246 (QL 80 0#64)from Arr.new w64 w1 _ _);have HB:=qe ((Below.trans ((QK _ w).alloc (QI _) _) (hb1.mono (by simp))).alloc (Nat.le_of_lt hs1) (.cells ul 246));clear ho0 hb1;go_wp2_with (refine qk rfl 246 _ _ rfl w1.heap.size rfl K64 rfl _ _ HL.1 rfl qoi qfA ?_;intro w2 hx2 hg2)
 have hA:Arr w32 w2 w.heap.size 241 (yX 0):=(HO.1.grown hg2 (by simp;omega)).cast (by decide);have hB:Below w.heap.size w w2:=HB.1.grown hg2 (by simp;omega) (fun k e=>by cases e;omega);have HA:=qe hA;have HB2:=qe hB;have HX:=qe hx2;clear hA hB hx2 hg2 HO HL HB;go_loopw [4] (fun i wr=>∃k:Nat,k≤64∧i= .int .i64 k∧Arr w32 wr w.heap.size 241 (yX k)∧Arr w64 wr w1.heap.size 246 K64∧Below w.heap.size w wr) (fun i _=>64-(intOf i).toNat)
 case atStart=>exact⟨0,by omega,rfl,HA.1,HX.1,HB2.1⟩
 case round=>
  clear HA HX HB2;obtain⟨k,hk,rfl,ha,hx,hb⟩:=hrel;have HA:=qe ha;have HX:=qe hx;have HB:=qe hb;clear ha hx hb;by_cases hlt:k<64
  ·have c1:=HX.1.cellD (k:=k) (by rw[qdk];omega) 0#64
   have c2:=HA.1.cellD (k:=k) (by rw[qkk k hk];omega) 0#32;have f2:=HA.1.frozen k;generalize hx:K64.getD k 0#64=x at c1;have Hx:=qe hx;clear hx;simp only[w32,w64]at c1 c2;go_wp2_with fail
   go_roundw
   case rel=>
    have h2:=HA.1.set_ k (K32.getD k 0#32);refine⟨k+1,by omega,by go_num,?_,?_,?_⟩
    ·rw[qkl k hlt,qlF k hlt,Hx.1]at h2;exact h2
    ·exact HX.1.far (by simp;omega) _
    ·exact HB.1.setCell (p:=⟨w.heap.size,k,none⟩) (QI _) _
   case measure=>simp[intOf];omega
  ·obtain rfl:k=64:=by omega
   have ek:yX 64=K32:=by unfold yX;rw[Js (by rw[j9];omega)];simp
   have HA2:=qe (HA.1.cast ek);clear ek HA;rw[show(((64:Nat)):Int)=64 from rfl];go_wp2_with (first
    |refine qm rfl 241 _ rfl w.heap.size rfl _ K32 HA2.1 _ underlying241 rfl (by rw[qdC,j9]) ?_
    |(refine qk rfl 241 _ _ rfl w.heap.size rfl K32 rfl _ _ HA2.1 rfl (by rw[qdC,j9]) ug ?_;intro w9 hx9 hg9))
   refine bodyPost_ret (v:= .agg (K32.map w32).toArray) (qY (g:=w.heap.size) rfl _ _ _ _ _ rfl hx9 underlying241 rfl (by rw[qdC,j9])) rfl ?_;exact⟨rfl,HB.1.grown hg9 (by have:=HA2.1.lt;omega) (fun k e=>by cases e;omega)⟩
def Dig(w:World)(g:Nat)(s:List (BitVec 32))(rv:Value)(n:Int):Prop:=s.length=8∧Blk w g 238 (s.map w32++ [rv,.int .i64 n])
section
variable{w w':World}{g:Nat}{s:List (BitVec 32)}{rv:Value}{n:Int}
theorem Dig.lt(h:Dig w g s rv n):g<w.heap.size:=h.2.lt
theorem Dig.frozen(h:Dig w g s rv n)(k:Nat):w.frozen? ⟨g,k,none⟩=false:=h.2.frozen k
theorem Dig.word(h:Dig w g s rv n){k:Nat}(hk:k<8):w.cell? ⟨g,k,none⟩=some (w32 (s.getD k 0#32)):=h.2.cell k (by
 rw[Zg (by rw[QN,h.1];exact hk),Jn,QT (by rw[h.1];exact hk)];simp[QR,QT (show k<s.length by rw[h.1];exact hk)])
theorem Dig.rest(h:Dig w g s rv n):w.cell? ⟨g,8,none⟩=some rv:=h.2.cell 8 (by
 rw[JA (by rw[QN,h.1];omega),QN,h.1];rfl)
theorem Dig.count(h:Dig w g s rv n):w.cell? ⟨g,9,none⟩=some (.int .i64 n):=h.2.cell 9 (by
 rw[JA (by rw[QN,h.1];omega),QN,h.1];rfl)
theorem Dig.setWord(h:Dig w g s rv n){k:Nat}(hk:k<8)(u:BitVec 32):Dig (w.setCell ⟨g,k,none⟩ (.int .u32 (bv u))) g (s.set k u) rv n:=
 ⟨by rw[Jy];exact h.1,(h.2.set_ k (w32 u)).cast (by rw[List.set_append_left _ _ (by rw[QN,h.1];exact hk),←List.map_set])⟩
theorem Dig.setRest(h:Dig w g s rv n)(u:Value):Dig (w.setCell ⟨g,8,none⟩ u) g s u n:=
 ⟨h.1,(h.2.set_ 8 u).cast (by rw[Zp _ _ (by rw[QN,h.1];omega),QN,h.1];rfl)⟩
theorem Dig.setCount(h:Dig w g s rv n)(u:Int):Dig (w.setCell ⟨g,9,none⟩ (.int .i64 u)) g s rv u:=
 ⟨h.1,(h.2.set_ 9 _).cast (by rw[Zp _ _ (by rw[QN,h.1];omega),QN,h.1];rfl)⟩
theorem Dig.drew(h:Dig w g s rv n):Dig w.drew g s rv n:=h
theorem Dig.alloc(h:Dig w g s rv n)(o:Obj):Dig (w.alloc o) g s rv n:=⟨h.1,h.2.alloc o⟩
theorem Dig.below{B:Nat}(h:Dig w g s rv n)(hb:Below B w w')(hg:g<B):Dig w' g s rv n:=⟨h.1,h.2.below hb hg⟩
theorem Dig.grown{row:Option Nat}(h:Dig w g s rv n)(hb:w.grownBy w' row)(hg:some g≠row):Dig w' g s rv n:=⟨h.1,h.2.grown hb hg⟩
theorem Dig.cast{t:List (BitVec 32)}(h:Dig w g s rv n)(e:s=t):Dig w g t rv n:=e▸h
end
theorem qkm{xs:List (BitVec 64)}{i:Nat}(hx:xs.length=8)(hi:i<8)(w:World):(Instr.index 239 (.agg (xs.map w64).toArray) (.int .i64 i)).run prog w= .ok (w64 (xs.getD i 0#64)) w:=by
 have hu:=underlying239;have h1:(xs.map w64).toArray[i]?=some (w64 (xs.getD i 0#64)):=by simp[QR,hx,hi]
 have h2:(0:Int)≤i∧(i:Int)<8:=by omega
 have h3:i<8:=hi;have h4:xs[i]?=some (xs.getD i 0#64):=by simp[QR,hx,hi]
 simp[Instr.index,run_underlying hu,asIntOf,h3,go_sem];rw[h4];simp[go_sem,QR]
def Qe(k:Nat):List (BitVec 32):=jZ.list.take k++QL (8-k) 0#32
theorem qkn(k:Nat)(hk:k≤8):(Qe k).length=8:=by
 unfold Qe;rw[QO,QV,Jz,S8.list_len];omega
theorem qeN(k:Nat)(hk:k<8):(Qe k).set k ((kH.list.getD k 0#64>>>32).setWidth 32)=Qe (k+1):=by
 match k,hk with
 |0,_=>rfl
 |1,_=>rfl
 |2,_=>rfl
 |3,_=>rfl
 |4,_=>rfl
 |5,_=>rfl
 |6,_=>rfl
 |7,_=>rfl
theorem qjl(w:World):Calls prog 147 #[] w fun e w'=>e= .returned (.pointer (some ⟨w.heap.size,0,none⟩))∧Dig w' w.heap.size jZ.list (.slice none 0 0) 0∧Below w.heap.size w w':=by
 obtain⟨B,hB⟩:∃B,B=kH.list:=⟨_,rfl⟩;have hBl:B.length=8:=by rw[hB];rfl
 have cb:=fun w=>qkj w
 simp only[←hB]at cb;have CB:=qe cb;have HB:=qe hB;have HBl:=qe hBl;clear cb hB hBl;go_enter func147,ntmps147
 go_wp2_with fail
 refine(CB.1 _).mono ?_;rintro e w1 ⟨rfl,hb1⟩;have hd0:Dig (w.alloc (.cells ((QL 8 0#32).map w32++ [Value.slice none 0 0,QM .i64 0]).toArray 238)) w.heap.size (QL 8 0#32) (.slice none 0 0) 0:=⟨rfl,Blk.new w _ _⟩;have HD:=qe ((hd0.below hb1 (by simp)).cast (show QL 8 0#32=Qe 0 by decide));have HW:=qe (Below.trans ((QK _ w).alloc (QI _) _) (hb1.mono (by simp)))
 have hsz:w.heap.size<w1.heap.size:=by have:=hb1.size;simp at this;omega
 clear hd0 hb1;go_wp2_with fail
 go_loopw [7] (fun i wr=>∃k:Nat,k≤8∧i= .int .i64 k∧Dig wr w.heap.size (Qe k) (.slice none 0 0) 0∧Below w.heap.size w wr) (fun i _=>8-(intOf i).toNat)
 case atStart=>exact⟨0,by omega,rfl,HD.1,HW.1⟩
 case round=>
  clear HD HW;obtain⟨k,hk,rfl,hd,hb⟩:=hrel;have HD:=qe hd;have HW:=qe hb;clear hd hb;by_cases hlt:k<8
  ·have ci:=fun w=>qkm (i:=k) HBl.1 hlt w
   have c1:=HD.1.word (k:=k) hlt;have f1:=HD.1.frozen k;generalize hx:B.getD k 0#64=x at ci;have Hx:=qe hx;clear hx;simp only[w32,w64]at c1 ci;go_wp2_with fail
   go_roundw
   case rel=>
    have h2:=HD.1.setWord hlt ((x>>>32).setWidth 32);exact⟨k+1,by omega,by go_num,h2.cast (by rw[←Hx.1,HB.1];exact qeN k hlt),HW.1.setCell (p:=⟨w.heap.size,k,none⟩) (QI _) _⟩
   case measure=>simp[intOf];omega
  ·obtain rfl:k=8:=by omega
   rw[show(((8:Nat)):Int)=8 from rfl];go_wp2_with fail
   go_ret;exact⟨rfl,HD.1.cast (by decide),HW.1⟩
section
variable{n:Nat}
def vf(c:Sha n)(p:qf)(m k:Nat):List (BitVec n):=c.sched p k++QL (m-k) 0#n
theorem qaX(c:Sha n)(p:qf)(m k:Nat)(hk:k≤m):(vf c p m k).length=m:=by
 unfold vf;rw[QO,Sha.sched_len,Jz];omega
theorem qcU(c:Sha n)(p:qf)(m k:Nat)(hk:k<m):(vf c p m k).set k (c.next p (c.sched p k))=vf c p m (k+1):=by
 have e:m-k=(m-(k+1))+1:=by omega
 unfold vf;rw[e,List.replicate_succ,Zp _ _ (by rw[Sha.sched_len];exact QI _),Sha.sched_len,Nat.sub_self,qz,Sha.sched,Jb];rfl
theorem qib(c:Sha n)(p:qf)(m k j:Nat)(hj:j<k):(vf c p m k).getD j 0#n=(c.sched p k).getD j 0#n:=by
 unfold vf;rw[QR,Zg (by rw[Sha.sched_len];exact hj)];rfl
theorem qgs(c:Sha n)(p:qf)(m:Nat):vf c p m m=c.sched p m:=by
 unfold vf;rw[Nat.sub_self];simp
theorem qeO(c:Sha n)(p:qf)(k:Nat)(hk:k<16):c.next p (c.sched p k)=c.word p k:=by
 unfold Sha.next;rw[Sha.sched_len,if_pos hk]
theorem qgt(c:Sha n)(p:qf)(k a b d e:Nat)(hk:16≤k)(h2:k=a+2)(h7:k=b+7)(h15:k=d+15)(h16:k=e+16):
 c.next p (c.sched p k)=c.s1 ((c.sched p k).getD a 0)+(c.sched p k).getD b 0+c.s0 ((c.sched p k).getD d 0)+(c.sched p k).getD e 0:=by
 unfold Sha.next;rw[Sha.sched_len,if_neg (by omega),show k-2=a by omega,show k-7=b by omega,show k-15=d by omega,show k-16=e by omega]
def yY(s t:S8 n)(k:Nat):List (BitVec n):=(s.add t).list.take k++s.list.drop k
theorem qko(s t:S8 n)(k:Nat)(hk:k≤8):(yY s t k).length=8:=by
 unfold yY;rw[QO,QV,Jf,S8.list_len,S8.list_len];omega
theorem qeP(s t:S8 n)(k:Nat)(hk:k<8):(yY s t k).set k (s.list.getD k 0#n+t.list.getD k 0#n)=yY s t (k+1):=by
 match k,hk with
 |0,_=>rfl
 |1,_=>rfl
 |2,_=>rfl
 |3,_=>rfl
 |4,_=>rfl
 |5,_=>rfl
 |6,_=>rfl
 |7,_=>rfl
theorem qgu(s t:S8 n)(k:Nat)(hk:k<8):(yY s t k).getD k 0#n=s.list.getD k 0#n:=by
 match k,hk with
 |0,_=>rfl
 |1,_=>rfl
 |2,_=>rfl
 |3,_=>rfl
 |4,_=>rfl
 |5,_=>rfl
 |6,_=>rfl
 |7,_=>rfl
end
theorem qoX(x:BitVec 32)(w:World):Calls prog 130 #[.int .u32 (bv x),.int .i64 (-7)] w fun e w'=>e= .returned (.int .u32 (bv (vz x 25)))∧w=w':=qal x (-7) w
theorem qoD(x:BitVec 32)(w:World):Calls prog 130 #[.int .u32 (bv x),.int .i64 (-18)] w fun e w'=>e= .returned (.int .u32 (bv (vz x 14)))∧w=w':=qal x (-18) w
theorem qoE(x:BitVec 32)(w:World):Calls prog 130 #[.int .u32 (bv x),.int .i64 (-17)] w fun e w'=>e= .returned (.int .u32 (bv (vz x 15)))∧w=w':=qal x (-17) w
theorem qoF(x:BitVec 32)(w:World):Calls prog 130 #[.int .u32 (bv x),.int .i64 (-19)] w fun e w'=>e= .returned (.int .u32 (bv (vz x 13)))∧w=w':=qal x (-19) w
theorem qjm(s:S8 32)(p:qf):qJ.piece s p=s.add (qJ.rounds (qJ.sched p 64) s 64):=by
 unfold Sha.piece;rw[show qJ.K=K32 from rfl,j9]
theorem zg{w w':World}{r:Option Nat}(h:w.grownBy w' r)(k:Nat):w.grownBy (w'.drewN k) r:=⟨h.os,h.tape,h.output,h.size,h.block⟩
theorem jJ{w w':World}{r:Option Nat}(h:w.grownBy w' r){p:Addr}(hp:some p.block=r∨w.heap.size≤p.block)(u:Value):w.grownBy (w'.setCell p u) r:=
 ⟨h.os,h.tape,h.output,by rw[World.size_setCell];exact h.size,fun i hi hne=>(Below.heap_setCell w' p u i (fun e=>by
  rcases hp with h1|h1
  ·exact hne (by rw[e];exact h1)
  ·omega)).trans (h.block i hi hne)⟩
theorem qaY{w w':World}{r:Option Nat}(h:w.grownBy w' r)(o:Obj):w.grownBy (w'.alloc o) r:=
 ⟨h.os,h.tape,h.output,by rw[QQ];exact Nat.le_succ_of_le h.size,fun i hi hne=>(Below.heap_alloc w' o i (Jq hi h.size)).trans (h.block i hi hne)⟩
theorem qdE{w w':World}{r:Option Nat}(h:w.grownBy w' r){a:Addr}(ha:a.block<w.heap.size)(hne:some a.block≠r):w'.cell? a=w.cell? a:=JK (h.block a.block ha hne)
theorem qnm(x:BitVec 32):bits .xor .u32 IntKind.u32.max (bv x)=bv (~~~x):=by
 rw[show IntKind.u32.max=@Jg Int 4294967295 instOfNat from rfl,qbP,show QP 32 4294967295=BitVec.allOnes 32 from rfl,BitVec.allOnes_xor]
attribute [go_sem] qnm
theorem qlG(a b c d:BitVec 32):(bv a+bv b+bv c+bv d) % 4294967296=bv (a+b+c+d):=by
 unfold bv;simp only[JQ];omega
theorem qaZ{a b c:World}{s:Nat}(h:a.grownBy b none)(k:b.grownBy c (some s))(hs:a.heap.size≤s):a.grownBy c none:=
 ⟨k.os.trans h.os,k.tape.trans h.tape,k.output.trans h.output,QX h.size k.size,fun i hi hne=>
  (k.block i (Jq hi h.size) (by simp;omega)).trans (h.block i hi hne)⟩
theorem qa0{P:Program}{f:FuncId}{args:Array Value}{w:World}{n:Nat}{v:Value}(h:Calls P f args (w.drewN n) fun e w'=>e= .returned v∧w.drewN n=w'):Calls P f args (w.drewN n) fun e w''=>e= .returned v∧∃m,w''=w.drewN m:=
 Calls.quiet_of_same (h.mono fun _ _ h=>⟨h.1,h.2.symm⟩)
theorem Dig.range{w:World}{g:Nat}{s:List (BitVec 32)}{rv:Value}{n:Int}(h:Dig w g s rv n):w.rangeAt g 0 (s.map w32):=by
 have:=h.2.range 0 8;rwa[List.drop_zero,Zz (by rw[QN,h.1];exact QI _),Js (by rw[QN,h.1];exact QI _)]at this
theorem Qs:(prog.info? 229).map (·.size)=some 8:=by kernel_rfl
theorem qeQ(g gk b off c:Nat)(s:S8 32)(rv:Value)(n:Int)(p:qf)(w:World)(hd:Dig w g s.list rv n)(hk:Arr w32 w gk 241 K32)(hp:p.length=64)(hb:b<w.heap.size)(hcell:∀j,j<64→w.cell? ⟨b,off+j,none⟩=some (b8 (p.getD j 0#8))):
 Calls prog 155 #[.pointer (some ⟨g,0,none⟩),.slice (some ⟨b,off,none⟩) 64 c,.pointer (some ⟨gk,0,none⟩)] w fun e w'=>e= .returned (.tuple #[])∧Dig w' g (qJ.piece s p).list rv n∧w.grownBy w' (some g):=by
 have HD:=qe hd;have HK:=qe hk;have HC:=qe hcell;have HP:=qe hp;clear hd hk hcell hp;go_enter func155,ntmps155
 go_wp2_with fail
 have hX0:=qe (show Arr w32 (w.alloc (.cells ((QL 64 0#32).map w32).toArray 241)) w.heap.size 241 (vf qJ p 64 0)from Arr.new w32 w _ _);have hG0:=qe (show w.grownBy (w.alloc (.cells ((QL 64 0#32).map w32).toArray 241)) none from World.grownBy_alloc w _ none);go_loopw [18] (fun i wr=>∃k:Nat,k≤16∧i= .int .i64 k∧Arr w32 wr w.heap.size 241 (vf qJ p 64 k)∧w.grownBy wr none) (fun i _=>16-(intOf i).toNat)
 case atStart=>exact⟨0,by omega,rfl,hX0.out,hG0.out⟩
 case round=>
  clear hX0 hG0;obtain⟨k,hk,rfl,hX,hG⟩:=hrel;have HX:=qe hX;have HG:=qe hG;clear hX hG;by_cases hlt:k<16
  ·have hc:∀j,j<64→wr.cell? ⟨b,off+j,none⟩=some (b8 (p.getD j 0#8)):=fun j hj=>(qdE HG.1 hb (by simp)).trans (HC.1 j hj)
   obtain⟨p0,hp0⟩:∃m,m=4*k:=⟨_,rfl⟩;obtain⟨p1,hp1⟩:∃m,m=p0+1:=⟨_,rfl⟩;obtain⟨p2,hp2⟩:∃m,m=p0+2:=⟨_,rfl⟩;obtain⟨p3,hp3⟩:∃m,m=p0+3:=⟨_,rfl⟩;have c0:=hc p0 (by omega);have c1:=hc p1 (by omega);have c2:=hc p2 (by omega);have c3:=hc p3 (by omega);have hw:qJ.next p (qJ.sched p k)=qdB (p.getD p0 0#8) (p.getD p1 0#8) (p.getD p2 0#8) (p.getD p3 0#8):=by
    rw[qeO _ _ _ hlt,hp1,hp2,hp3,hp0];rfl
   generalize p.getD p0 0#8=x0 at c0 hw;generalize p.getD p1 0#8=x1 at c1 hw;generalize p.getD p2 0#8=x2 at c2 hw;generalize p.getD p3 0#8=x3 at c3 hw;simp only[b8]at c0 c1 c2 c3;have e0:IntKind.i64.wrap (4*(k:Int))=(p0:Int):=by rw[Jc _ (by omega)];omega
   have e1:IntKind.i64.wrap ((p0:Int)+1)=(p1:Int):=by rw[Jc _ (by omega)];omega
   have e2:IntKind.i64.wrap ((p0:Int)+2)=(p2:Int):=by rw[Jc _ (by omega)];omega
   have e3:IntKind.i64.wrap ((p0:Int)+3)=(p3:Int):=by rw[Jc _ (by omega)];omega
   have l0:(p0:Int)<64:=by omega
   have l1:(p1:Int)<64:=by omega
   have l2:(p2:Int)<64:=by omega
   have l3:(p3:Int)<64:=by omega
   have lk:(k:Int)<64:=by omega
   have cx:=HX.1.cellD (k:=k) (by rw[qaX _ _ _ _ (by omega)];omega) 0#32;have fx:=HX.1.frozen k;have Hw:=qe hw;clear hw hc hp0 hp1 hp2 hp3;go_wp2_with fail
   go_still_tail 35,(by kernel_rfl)
   clear e0 e1 e2 e3 c0 c1 c2 c3;go_wp2_with fail
   go_roundw
   case rel=>
    refine⟨k+1,by omega,by go_num,?_,?_⟩
    ·have h2:=HX.1.drew.set_ k (qJ.next p (qJ.sched p k))
     rw[qcU _ _ _ _ (by omega),Hw.1]at h2;exact h2
    ·exact jJ (zg HG.1 1) (.inr (QI _)) _
   case measure=>simp[intOf];omega
  ·obtain rfl:k=16:=by omega
   rw[show(((16:Nat)):Int)=16 from rfl];clear hlt hk;go_wp2_with fail
   go_loopw [8] (fun i wr=>∃k:Nat,16≤k∧k≤64∧i= .int .i64 k∧Arr w32 wr w.heap.size 241 (vf qJ p 64 k)∧w.grownBy wr none) (fun i _=>64-(intOf i).toNat)
   case atStart=>exact⟨16,by omega,by omega,rfl,HX.1,HG.1⟩
   case round=>
    clear HX HG;obtain⟨k,hk16,hk,rfl,hX,hG⟩:=hrel;have HX:=qe hX;have HG:=qe hG;clear hX hG;by_cases hlt:k<64
    ·obtain⟨k2,hk2⟩:∃m,k=m+2:=⟨k-2,by omega⟩
     obtain⟨k7,hk7⟩:∃m,k=m+7:=⟨k-7,by omega⟩;obtain⟨k15,hk15⟩:∃m,k=m+15:=⟨k-15,by omega⟩;obtain⟨k16,hk16'⟩:∃m,k=m+16:=⟨k-16,by omega⟩;have hl:=qaX qJ p 64 k hk;have c2:=HX.1.cellD (k:=k2) (by omega) 0#32;have c7:=HX.1.cellD (k:=k7) (by omega) 0#32;have c15:=HX.1.cellD (k:=k15) (by omega) 0#32;have c16:=HX.1.cellD (k:=k16) (by omega) 0#32;have hw:=qgt qJ p k k2 k7 k15 k16 hk16 hk2 hk7 hk15 hk16'
     rw[qib _ _ _ _ _ (by omega)]at c2 c7 c15 c16;generalize(qJ.sched p k).getD k2 0#32=x2 at c2 hw;generalize(qJ.sched p k).getD k7 0#32=x7 at c7 hw;generalize(qJ.sched p k).getD k15 0#32=x15 at c15 hw;generalize(qJ.sched p k).getD k16 0#32=x16 at c16 hw;simp only[w32]at c2 c7 c15 c16;have e2:IntKind.i64.wrap ((k:Int)-2)=(k2:Int):=by rw[Jc _ (by omega)];omega
     have e7:IntKind.i64.wrap ((k:Int)-7)=(k7:Int):=by rw[Jc _ (by omega)];omega
     have e15:IntKind.i64.wrap ((k:Int)-15)=(k15:Int):=by rw[Jc _ (by omega)];omega
     have e16:IntKind.i64.wrap ((k:Int)-16)=(k16:Int):=by rw[Jc _ (by omega)];omega
     have l2:(k2:Int)<64:=by omega
     have l7:(k7:Int)<64:=by omega
     have l15:(k15:Int)<64:=by omega
     have l16:(k16:Int)<64:=by omega
     have lk:(k:Int)<64:=by omega
     have cx:=HX.1.cellD (k:=k) (by omega) 0#32;have fx:=HX.1.frozen k;have Hw:=qe hw;clear hw hk2 hk7 hk15 hk16' hl;go_wp2_with fail
     go_quiet (fail)
     have HX2:=qe (HX.1.drewN nq);have HG2:=qe (zg HG.1 nq);clear HX HG;have D7:=qe (show(wr.drewN nq).cell? ⟨w.heap.size,k7,none⟩=some (.int .u32 (bv x7))from c7);have D16:=qe (show(wr.drewN nq).cell? ⟨w.heap.size,k16,none⟩=some (.int .u32 (bv x16))from c16);clear c2 c7 c15 c16 cx fx;generalize wr.drewN nq=wv at HX2 HG2 D7 D16 ⊢;have c7:=D7.1;have c16:=D16.1;have cx:=HX2.1.cellD (k:=k) (by rw[qaX qJ p 64 k hk];omega) 0#32
     have fx:=HX2.1.frozen k;clear D7 D16;go_wp2_with (first
      |((with_reducible refine(qoX _ _).mono ?_);rintro e w' ⟨rfl,rfl⟩)
      |((with_reducible refine(qoD _ _).mono ?_);rintro e w' ⟨rfl,rfl⟩)
      |((with_reducible refine(qoE _ _).mono ?_);rintro e w' ⟨rfl,rfl⟩)
      |((with_reducible refine(qoF _ _).mono ?_);rintro e w' ⟨rfl,rfl⟩))
     go_still_tail 15,(by kernel_rfl)
     clear e2 e7 e15 e16 c7 c16;go_wp2_with fail
     go_roundw
     case rel=>
      refine⟨k+1,by omega,by omega,by go_num,?_,?_⟩
      ·have h2:=HX2.1.drew.set_ k (qJ.next p (qJ.sched p k))
       rw[qcU _ _ _ _ (by omega),Hw.1]at h2;exact h2
      ·exact jJ (zg HG2.1 1) (.inr (QI _)) _
     case measure=>simp[intOf];omega
    ·obtain rfl:k=64:=by omega
     rw[show(((64:Nat)):Int)=64 from rfl];obtain⟨X,hX⟩:∃X,X=qJ.sched p 64:=⟨_,rfl⟩;have hXl:X.length=64:=by rw[hX,Sha.sched_len]
     have hd:=HD.1.grown HG.1 (by simp);have hk1:=HK.1.grown HG.1 (by simp);have HX2:=qe (HX.1.cast (show vf qJ p 64 64=X by rw[qgs,hX]));have HXe:=qe hX;have HXl:=qe hXl;have HD2:=qe hd;have HK2:=qe hk1;clear hX hXl hd hk1 HX hlt hk hk16;have hgw:w.heap.size<wr.heap.size:=HX2.1.lt;have hgs:g<wr.heap.size:=HD2.1.lt;have hgk:gk<wr.heap.size:=HK2.1.lt;obtain⟨gs,hgsz⟩:∃gs,gs=wr.heap.size:=⟨_,rfl⟩
     have HS0:=qe (show Arr w32 (wr.alloc (.cells ((QL 8 0#32).map w32).toArray 229)) gs 229 (QL 8 0#32)from hgsz▸Arr.new w32 wr _ _);have hgsw:w.heap.size<gs:=by omega
     have hgsg:g<gs:=by omega
     have hgsk:gk<gs:=by omega
     have HGz:=qe hgsz;clear hgsz;go_wp2_with (first
      |refine wpList_load_mid rfl 229 (.tmp 102) rfl g 0 rfl (s.list.map w32) _ HD2.1.range underlying229 rfl (by rw[QN,S8.list_len];exact Qs) ?_
      |(rw[←HGz.1];refine qk rfl 229 (.tmp 13) (.tmp 103) rfl gs rfl s.list rfl _ _ HS0.1 rfl Qs ug ?_;intro w5 hx5 hg5))
     have HS5:=qe hx5;have HG5:=qe (show w.grownBy w5 none from⟨hg5.os.trans HG.1.os,hg5.tape.trans HG.1.tape,hg5.output.trans HG.1.output,by have:=hg5.size;rw[QQ]at this;omega,fun i hi hne=>((hg5.block i (by rw[QQ];omega) (by simp;omega)).trans (Below.heap_alloc wr _ i (by omega))).trans (HG.1.block i hi hne)⟩);have HX5:=qe ((HX2.1.alloc (.cells ((QL 8 0#32).map w32).toArray 229)).grown hg5 (by simp;omega))
     clear hx5 hg5 HX2 HG HD2 HK2 HS0;go_loopw [104] (fun i wr=>∃k:Nat,k≤64∧i= .int .i64 k∧Arr w32 wr gs 229 (qJ.rounds X s k).list∧Arr w32 wr w.heap.size 241 X∧w.grownBy wr none) (fun i _=>64-(intOf i).toNat)
     case atStart=>exact⟨0,by omega,rfl,HS5.1,HX5.1,HG5.1⟩
     case round=>
      clear HS5 HX5 HG5;obtain⟨k,hk,rfl,hS,hX,hG⟩:=hrel;have HSr:=qe hS;have HX:=qe hX;have HG:=qe hG;clear hS hX hG;by_cases hlt:k<64
      ·have hck:=HK.1.grown HG.1 (by simp)
       have cw:=HX.1.cellD (k:=k) (by rw[HXl.1];exact hlt) 0#32;have ck:=hck.cellD (k:=k) (by rw[j9];exact hlt) 0#32;have hstep:qJ.rounds X s (k+1)=qJ.step (K32.getD k 0#32) (X.getD k 0#32) (qJ.rounds X s k):=rfl;have hSr:=HSr.1;generalize X.getD k 0#32=xw at cw hstep;generalize K32.getD k 0#32=xk at ck hstep;clear HSr;generalize qJ.rounds X s k=R at hSr hstep;obtain⟨y0,y1,y2,y3,y4,y5,y6,y7⟩:=R
       have s0:=hSr.at_ (k:=0) (u:=y0) rfl;have s1:=hSr.at_ (k:=1) (u:=y1) rfl;have s2:=hSr.at_ (k:=2) (u:=y2) rfl;have s3:=hSr.at_ (k:=3) (u:=y3) rfl;have s4:=hSr.at_ (k:=4) (u:=y4) rfl;have s5:=hSr.at_ (k:=5) (u:=y5) rfl;have s6:=hSr.at_ (k:=6) (u:=y6) rfl;have s7:=hSr.at_ (k:=7) (u:=y7) rfl;simp only[w32]at cw ck s0 s1 s2 s3 s4 s5 s6 s7;have lk:(k:Int)<64:=by omega
       have Hst:=qe hstep;have HSr:=qe hSr;clear hck hstep hSr;go_wp2_with fail
       go_quiet ((go_at_call 158;exact qa0 (qnk _ _)))
       have HX2:=qe (HX.1.drewN nq);have HG2:=qe (zg HG.1 nq);have HSr2:=qe (HSr.1.drewN nq);have D:=qe (show(wr.drewN nq).cell? ⟨gs,0,none⟩=some (.int .u32 (bv y0))∧(wr.drewN nq).cell? ⟨gs,1,none⟩=some (.int .u32 (bv y1))∧(wr.drewN nq).cell? ⟨gs,2,none⟩=some (.int .u32 (bv y2))∧(wr.drewN nq).cell? ⟨gs,3,none⟩=some (.int .u32 (bv y3))∧(wr.drewN nq).cell? ⟨gs,4,none⟩=some (.int .u32 (bv y4))∧(wr.drewN nq).cell? ⟨gs,5,none⟩=some (.int .u32 (bv y5))∧(wr.drewN nq).cell? ⟨gs,6,none⟩=some (.int .u32 (bv y6))from⟨s0,s1,s2,s3,s4,s5,s6⟩)
       clear HX HG HSr cw ck s0 s1 s2 s3 s4 s5 s6 s7;generalize wr.drewN nq=wv at HX2 HG2 HSr2 D ⊢;obtain⟨s0,s1,s2,s3,s4,s5,s6⟩:=D.1;clear D;go_wp2_with fail
       go_quiet ((go_at_call 158;exact qa0 (qnl _ _)))
       rw[qlG];generalize hT1:y7+qJ.S1 y4+(y4&&&y5^^^ ~~~y4&&&y6)+xk+xw=T1;have HT1:=qe hT1;clear hT1;generalize hT2:qJ.S0 y0+(y0&&&y1^^^y0&&&y2^^^y1&&&y2)=T2;have HT2:=qe hT2;clear hT2;have HX3:=qe (HX2.1.drewN nq);have HG3:=qe (zg HG2.1 nq);have HSr3:=qe (HSr2.1.drewN nq);have D:=qe (show(wv.drewN nq).cell? ⟨gs,0,none⟩=some (.int .u32 (bv y0))∧(wv.drewN nq).cell? ⟨gs,1,none⟩=some (.int .u32 (bv y1))∧(wv.drewN nq).cell? ⟨gs,2,none⟩=some (.int .u32 (bv y2))∧(wv.drewN nq).cell? ⟨gs,3,none⟩=some (.int .u32 (bv y3))∧(wv.drewN nq).cell? ⟨gs,4,none⟩=some (.int .u32 (bv y4))∧(wv.drewN nq).cell? ⟨gs,5,none⟩=some (.int .u32 (bv y5))∧(wv.drewN nq).cell? ⟨gs,6,none⟩=some (.int .u32 (bv y6))from⟨s0,s1,s2,s3,s4,s5,s6⟩)
       clear HX2 HG2 HSr2 s0 s1 s2 s3 s4 s5 s6;generalize wv.drewN nq=wu at HX3 HG3 HSr3 D ⊢;obtain⟨s0,s1,s2,s3,s4,s5,s6⟩:=D.1;clear D;go_wp2_with (refine qk rfl 229 (.tmp 13) (.tmp 176) rfl gs rfl [T1+T2,y0,y1,y2,y3+T1,y4,y5,y6] rfl _ _ HSr3.1 rfl Qs ug ?_;intro w6 hx6 hg6)
       have HX6:=qe (HX3.1.grown hg6 (by simp;omega));have HG6:=qe (show w.grownBy w6 none from qaZ HG3.1 hg6 (by omega));clear HX3 HG3 HSr3 hg6 s0 s1 s2 s3 s4 s5 s6;go_wp2_with fail
       go_roundw
       case rel=>
        refine⟨k+1,by omega,by go_num,?_,HX6.1,HG6.1⟩;rw[Hst.1];exact hx6.cast (by rw[←HT1.1,←HT2.1];rfl)
       case measure=>simp[intOf];omega
      ·obtain rfl:k=64:=by omega
       rw[show(((64:Nat)):Int)=64 from rfl];obtain⟨R,hR⟩:∃R,R=qJ.rounds X s 64:=⟨_,rfl⟩;have hd:=HD.1.grown HG.1 (by simp);have hS2:=HSr.1;rw[←hR]at hS2;have HR:=qe hR;have HD3:=qe (show Dig wr g (yY s R 0) rv n from hd);have HR3:=qe hS2;have hgne:gs≠g:=by omega
       have HNe:=qe hgne;have HG3:=qe (show w.grownBy wr (some g)from⟨HG.1.os,HG.1.tape,HG.1.output,HG.1.size,fun i hi _=>HG.1.block i hi (by simp)⟩);clear hR hd hS2 hgne HX HG HSr hlt hk;go_wp2_with fail
       go_loopw [178] (fun i wr=>∃k:Nat,k≤8∧i= .int .i64 k∧Dig wr g (yY s R k) rv n∧Arr w32 wr gs 229 R.list∧w.grownBy wr (some g)) (fun i _=>8-(intOf i).toNat)
       case atStart=>exact⟨0,by omega,rfl,HD3.1,HR3.1,HG3.1⟩
       case round=>
        clear HD3 HR3 HG3;obtain⟨k,hk,rfl,hd,hr,hG⟩:=hrel;have HD3:=qe hd;have HR3:=qe hr;have HG3:=qe hG;clear hd hr hG;by_cases hlt:k<8
        ·have c1:=HD3.1.word hlt
         have f1:=HD3.1.frozen k;have c2:=HR3.1.cellD (k:=k) (by rw[S8.list_len];exact hlt) 0#32;rw[qgu _ _ _ hlt]at c1;have hs:=qeP s R k hlt;generalize s.list.getD k 0#32=x1 at c1 hs;generalize R.list.getD k 0#32=x2 at c2 hs;simp only[w32]at c1 c2;have lk:(k:Int)<8:=by omega
         have Hs:=qe hs;clear hs;go_wp2_with fail
         go_still_tail 13,(by kernel_rfl)
         go_wp2_with fail
         go_roundw
         case rel=>
          refine⟨k+1,by omega,by go_num,?_,?_,?_⟩
          ·exact(HD3.1.drew.setWord hlt (x1+x2)).cast Hs.1
          ·exact HR3.1.drew.far (by exact HNe.1) _
          ·exact jJ (zg HG3.1 1) (.inl rfl) _
         case measure=>simp[intOf];omega
        ·obtain rfl:k=8:=by omega
         rw[show(((8:Nat)):Int)=8 from rfl];go_wp2_with fail
         go_end0
         refine⟨rfl,?_,HG3.1⟩;rw[qjm,←HXe.1,←HR.1];exact HD3.1
theorem qlH(n:Nat)(hn:n≤100000000)(w:World):Calls prog 94 #[.slice none 0 0,.int .i64 (n:Int)] w fun e w'=>∃v,e= .returned v∧Own b8 w' w.heap.size 5 v []∧Below w.heap.size w w':=by
 obtain⟨i0,hi0,hz0,hz1,hz2⟩:=info_parts jN;by_cases h0:n=0
 ·subst h0
  go_enter func94,ntmps94
  go_wp2
  go_ret;exact⟨_,rfl,Own.nil_ _ _ _ _,QK _ _⟩
 ·have hpos:0<n:=by omega
  have hnn:¬((n:Int)<0):=by omega
  have hrz:=fun ty=>Lib.run_append_nil_zeros (P:=prog) w 28 3 ty 5 i0 _ .i64 .i64 underlying28 underlying3 hi0 hz0 n hpos (by omega) (by omega) (by rw[hz2];omega)
  have hge:=grownCap_ge w n 0 5;have hmx:=grownCap_le_maxLen w n 0 5 (by unfold maxLen;omega);generalize grownCap w n 0 5=G at hrz hge hmx;have HRZ:=qe hrz;have HMX:=qe hmx;clear hrz h0 hmx;have hp:decide ((n:Int)>0)=true:=by simp;omega
  go_enter func94,ntmps94
  go_wp2_with (at_builtin;refine Lib.wpList_append_run _ rfl _ _ _ _ rfl _ _ rfl rfl _ _ (HRZ.1 _) ?_)
  all_goals
   go_ret;refine⟨_,rfl,⟨by simp,.inr ⟨w.heap.size,G,_,rfl,QI _,heap_alloc_new w.drew _,Nat.zero_le _,HMX.1,?_,by simp⟩⟩,by(repeat' (first|assumption|exact QK _ _|refine Below.drew ?_|refine Below.alloc ?_ ?_ _|omega|(simp;done)|(simp;omega)))⟩;simp only[Array.size_append,size_zeroCells];simp[Value.cells];omega
abbrev Pt:=Sl×qf
def kZ(ps:List Pt)(k:Nat):Nat:=((ps.take k).map fun p=>p.2.length).sum
def vV(ps:List Pt)(k:Nat):qf:=(ps.take k).flatMap fun p=>p.2
theorem qbx(ps:List Pt)(k:Nat)(hk:k<ps.length):vV ps (k+1)=vV ps k++ps[k].2:=by
 unfold vV;rw[Zd hk,List.flatMap_append];simp
theorem qaD(ps:List Pt)(k:Nat)(hk:k<ps.length):kZ ps (k+1)=kZ ps k+ps[k].2.length:=by
 unfold kZ;rw[Zd hk,Q9,List.sum_append];simp
theorem qbj(ps:List Pt)(k:Nat):(vV ps k).length=kZ ps k:=by
 unfold vV kZ;rw[List.length_flatMap]
theorem qax(ps:List Pt):kZ ps ps.length=(ps.flatMap fun p=>p.2).length:=by
 rw[←qbj];unfold vV;rw[Zh]
theorem qaE(ps:List Pt)(k j:Nat)(h:k≤j):kZ ps k≤kZ ps j:=by
 unfold kZ;have:ps.take k=(ps.take j).take k:=by rw[List.take_take,JJ h]
 rw[this];clear this h;generalize ps.take j=l
 induction l generalizing k with
 |nil=>simp
 |cons a l ih=>cases k with
  |zero=>simp
  |succ k=>simp only[List.take_succ_cons,Jd,List.sum_cons];have:=ih k;omega
structure Pts(w:World)(B:Nat)(b off:Nat)(ps:List Pt):Prop where
 row:∀k u,ps[k]?=some u→w.cell? ⟨b,off+k,none⟩=some (sl u.1)
 lt:b<w.heap.size
 rd:∀u∈ps,Rd b8 w B u.1.1 u.2
 len:∀u∈ps,u.1.2.1=u.2.length
theorem Pts.below{w w':World}{B C b off:Nat}{ps:List Pt}(h:Pts w B b off ps)(hb:Below C w w')(hB:B≤C)(hbC:b<C):Pts w' B b off ps:=
 ⟨fun k u hu=>(hb.cell (p:=⟨b,off+k,none⟩) hbC).trans (h.row k u hu),by have:=hb.size;have:=h.lt;omega,fun u hu=>(h.rd u hu).below (hb.mono hB),h.len⟩
theorem qam(w:World)(B b off c n:Nat)(ps:List Pt)(hp:Pts w B b off ps)(hB:B≤w.heap.size)(hn:n=ps.length)(hn2:n≤100000)(htot:(ps.flatMap fun p=>p.2).length≤50000000):
 Calls prog 61 #[.slice (some ⟨b,off,none⟩) n c] w fun e w'=>∃v,e= .returned v∧Own b8 w' w.heap.size 5 v (ps.flatMap fun p=>p.2)∧Below w.heap.size w w':=by
 obtain⟨i0,hi0,hz0,hz1,hz2⟩:=info_parts jN;have HP:=qe hp;have HN:=qe hn;have HT:=qe htot;clear hp hn htot;go_enter func61,ntmps61
 go_wp2_with fail
 go_loop [3,11] (fun t i=>∃k:Nat,k≤n∧i= .int .i64 k∧t= .int .i64 (kZ ps k:Nat)) (fun _ i=>n-(intOf i).toNat)
 case atStart=>exact⟨0,by omega,rfl,rfl⟩
 case round=>
  obtain⟨k,hk,rfl,rfl⟩:=hrel;by_cases hlt:k<n
  ·have hk':k<ps.length:=by rw[←HN.1];exact hlt
   obtain⟨⟨⟨A,m,cc⟩,xs⟩,hu⟩:∃u,ps[k]=u:=⟨_,rfl⟩;have h1:=HP.1.row k _ (QT hk');have h2:=HP.1.len _ (Q5 hk');have h3:=qaD ps k hk';have h4:=qaE ps (k+1) ps.length (by omega);rw[qax]at h4;have h5:=HT.1;rw[hu]at h1 h2 h3;simp only[sl]at h1 h2 h3;have hneg:¬(((kZ ps k:Nat):Int)+(m:Int)<0):=by omega
   have hbnd:((kZ ps k:Nat):Int)+(m:Int)≤50000000:=by omega
   have H3:=qe (show kZ ps (k+1)=kZ ps k+m by omega);clear h2 h3 h4 h5 hu;go_wp2_with fail
   go_round
   case rel=>exact⟨k+1,by omega,by go_num,by rw[H3.1];go_num⟩
   case measure=>simp[intOf];omega
  ·obtain rfl:k=n:=by omega
   have hl:kZ ps k≤50000000:=by rw[HN.1,qax];exact HT.1
   generalize kZ ps k=tot at hl;go_wp2_with fail
   refine(qlH tot (by omega) _).mono ?_;rintro e w1 ⟨v1,rfl,hown,hb1⟩;have HO:=qe hown;have HB:=qe hb1;clear hown hb1;go_wp2_with fail
   go_loopw [6,27] (fun v i wr=>∃j:Nat,j≤k∧i= .int .i64 j∧Own b8 wr w.heap.size 5 v (vV ps j)∧Below w.heap.size w wr) (fun _ i _=>k-(intOf i).toNat)
   case atStart=>exact⟨0,by omega,rfl,HO.1,HB.1⟩
   case round=>
    clear HO HB;obtain⟨j,hj,rfl,hown,hb⟩:=hrel;by_cases hlt2:j<k
    ·have hj':j<ps.length:=by rw[←HN.1];exact hlt2
     have hp2:=HP.1.below hb hB HP.1.lt;have h1:=hp2.row j _ (QT hj');have h2:=hp2.len _ (Q5 hj');have h3:=hp2.rd _ (Q5 hj');have h4:=qaE ps (j+1) ps.length (by omega);rw[qax,qaD ps j hj']at h4;have h5:=HT.1;have h6:=qbx ps j hj';obtain⟨⟨⟨A,m,cc⟩,xs⟩,hu⟩:∃u,ps[j]=u:=⟨_,rfl⟩;rw[hu]at h1 h2 h3 h4 h6;simp only[sl]at h1 h2 h3 h4 h6
     have H2:=qe h2;have H3:=qe h3;have H6:=qe h6;have HO:=qe hown;have HB:=qe hb;have hlen:=qbj ps j;have HL:=qe (show(vV ps j).length+xs.length≤50000000 by omega);have hz:=hb.size;clear hp2 h2 h3 h4 h5 h6 hu hown hb hlen;go_wp2_with (at_builtin;refine qh rfl _ _ 28 rfl qH w.heap.size 5 i0 _ 1 underlying28 hi0 hz0 hz1 hz2 rfl _ _ rfl HO.1 B A m cc xs rfl H2.1 H3.1 (by have:=HL.1;unfold maxLen;omega) (by have:=HL.1;omega) hz ?_;intro v7 w7 hown7 hg7 hbb7)
     go_roundw
     case rel=>exact⟨j+1,by omega,by go_num,by rw[H6.1];exact hown7,hbb7 _ _ (QI _) HB.1⟩
     case measure=>simp[intOf];omega
    ·obtain rfl:j=k:=by omega
     go_wp2_with fail
     go_ret;exact⟨_,rfl,hown.cast (by unfold vV;rw[HN.1,Zh]),hb⟩
theorem qct(w:World)(B:Nat)(A:Option Addr)(c n:Nat)(xs:qf)(hr:Rd b8 w B A xs)(hB:B≤w.heap.size)(hn:n=xs.length)(hA:A=none→n=0∧c=0)(hbig:n≤100000000):
 Calls prog 69 #[.slice A n c] w fun e w'=>∃v,e= .returned v∧Own b8 w' w.heap.size 5 v xs∧Below w.heap.size w w':=by
 obtain⟨i0,hi0,hz0,hz1,hz2⟩:=info_parts jN;have HR:=qe hr;have HN:=qe hn;clear hr hn;cases A with
 |none=>
  obtain⟨rfl,rfl⟩:=hA rfl;have HX:=qe (show xs=[]from J2 HN.1.symm);have hne:=fun w=>Lib.run_eql_slice_nil (P:=prog) w 28 5 none 0 0 0 0 underlying28
  go_enter func69,ntmps69
  go_wp2_with fail
  go_ret;exact⟨_,rfl,by rw[HX.1];exact Own.nil_ _ _ _ _,QK _ _⟩
 |some a=>
  clear hA;have hne:=fun w=>Lib.run_eql_slice_nil (P:=prog) w 28 5 (some a) n c 0 0 underlying28
  have HO:=qe (show Own b8 (w.alloc (.cells #[] 5)) w.heap.size 5 (.slice (some ⟨w.heap.size,0,none⟩) 0 0) []from
   ⟨by simp,.inr ⟨w.heap.size,0,#[],rfl,QI _,heap_alloc_new w _,by simp,by simp[maxLen],by simp,by simp⟩⟩)
  go_enter func69,ntmps69
  go_wp2_with (at_builtin;refine qh rfl _ _ 28 rfl qH w.heap.size 5 i0 _ 1 underlying28 hi0 hz0 hz1 hz2 rfl _ _ rfl HO.1 B (some a) n c xs rfl HN.1 (HR.1.alloc hB _) (by have:=HN.1;unfold maxLen;simp;omega) (by have:=HN.1;simp;omega) (by simp) ?_;intro v7 w7 hown7 hg7 hbb7)
  go_ret;exact⟨_,rfl,hown7,hbb7 _ _ (QI _) (by(repeat' (first|assumption|exact QK _ _|refine Below.drew ?_|refine Below.alloc ?_ ?_ _|omega|(simp;done)|(simp;omega))))⟩
theorem qby{w:World}{B N:Nat}{v:Value}(h:w.ownsRow B 5 1 v N (madeCells (QM .u8 0).cells (N*1)).toList):Own b8 w B 5 v (QL N 0#8):=by
 unfold Own;rw[Jz];have e:(madeCells (QM .u8 0).cells (N*1)).toList=QL N (b8 0#8):=by rw[Nat.mul_one];exact toList_madeCells_one _ _
 rw[e]at h;rw[List.map_replicate];exact h
def Qi(v size k:Nat):qf:=QL (size-k) 0#8++beN v k
theorem qgv(v size k:Nat)(hk:k≤size):(Qi v size k).length=size:=by
 unfold Qi;rw[QO,Jz,qdj];omega
theorem qlI(v size k j:Nat)(hj:size=j+1+k):(Qi v size k).set j (QP 8 (v/256^k))=Qi v size (k+1):=by
 subst hj;unfold Qi;rw[show j+1+k-k=j+1 by omega,show j+1+k-(k+1)=j by omega,List.replicate_succ',Jb,Zp _ _ (by rw[Jz];exact QI _),Jz,Nat.sub_self];rfl
theorem qgw(n k:Nat)(h:8*n<9223372036854775808):((QU 64 (n:Int)<<<3)>>>(8*k)).setWidth 8=QP 8 (8*n/256^k):=by
 apply JX;rw[Zo,Zr,ZD,Zx,Q8,Q8,Zw,Nat.shiftLeft_eq,JP (a:=n) (by omega),show n*2^3=8*n by omega,JP (a:=8*n) (by omega),Nat.pow_mul]
theorem qjn(n:Nat)(h:8*n<9223372036854775808):(QU 64 (n:Int)>>>61).setWidth 8=0#8:=by
 apply JX;rw[Zo,Zr,Zx,Q8,Zw,JP (a:=n) (by omega),Nat.div_eq_of_lt (by omega)];rfl
theorem qjo(v k:Nat)(h:v<256^8):∀j,j≤k→beN v (8+j)=QL j 0#8++beN v 8
 |0,_=>rfl
 |j+1,hj=>by
  rw[show 8+(j+1)=(8+j)+1 from rfl,beN,qjo v k h j (by omega),List.replicate_succ,JL]
  congr 1
  rw[Nat.div_eq_of_lt (Jq h (J7 (by omega) (by omega)))]
theorem qlJ(v size:Nat)(hs:size=8∨size=16)(h:v<256^8):Qi v size 8=beN v size:=by
 rcases hs with rfl|rfl
 ·rfl
 ·rw[show 16=8+8 from rfl,qjo v 8 h 8 (QI _)];rfl
theorem qlK(v:Nat):(Qi v 16 8).set 7 0#8=Qi v 16 8:=by
 unfold Qi;rfl
theorem qic(n size:Nat)(hs:size=8∨size=16)(hn:n≤1000000000)(w:World):
 Calls prog 159 #[.int .i64 (n:Int),.int .i64 (size:Int)] w fun e w'=>∃v,e= .returned v∧Own b8 w' w.heap.size 5 v (beN (8*n) size)∧Below w.heap.size w w':=by
 obtain⟨i0,hi0,hz0,hz1,hz2⟩:=info_parts jN;have hs2:8≤size∧size≤16:=by omega
 have HS:=qe hs;clear hs;have hcv:=qcs (n:Int);go_enter func159,ntmps159
 go_wp2_with (refine wpList_make_full _ rfl (.tmp 7) (.tmp 7) 28 rfl w.heap.size 5 i0 _ 1 underlying28 hi0 hz0 hz1 .i64 .i64 (size:Int) (size:Int) size rfl rfl rfl rfl (by rw[hz2];omega) (by simp[maxLen];omega) (by simp) ?_;intro w3 hown3 hg3;have HO3:=qe (show Own b8 w3 w.heap.size 5 _ (Qi (8*n) size 0)from(qby hown3).cast (by unfold Qi beN;simp));have HG3:=qe (Below.grown (QK _ w) hg3 (QI _) (fun k e=>by cases e));clear hown3 hg3)
 go_loopw [9] (fun i wr=>∃k:Nat,k≤8∧i= .int .i64 k∧Own b8 wr w.heap.size 5 (.slice (some ⟨w.heap.size,0,none⟩) size size) (Qi (8*n) size k)∧Below w.heap.size w wr) (fun i _=>8-(intOf i).toNat)
 case atStart=>exact⟨0,by omega,rfl,HO3.1,HG3.1⟩
 case round=>
  clear HO3 HG3;obtain⟨k,hk,rfl,hown,hb⟩:=hrel;have HO:=qe hown;have HB:=qe hb;clear hown hb;by_cases hlt:k<8
  ·obtain⟨j,hj⟩:∃j,size=j+1+k:=⟨size-1-k,by omega⟩
   have hl:=qgv (8*n) size k (by omega);obtain⟨u,c1,f1⟩:∃u,wr.cell? ⟨w.heap.size,j,none⟩=some (b8 u)∧wr.frozen? ⟨w.heap.size,j,none⟩=false:=⟨_,HO.1.at_ (k:=j) (by omega)⟩;have e1:((size:Int)-1-(k:Int))=(j:Int):=by omega
   have jlt:j<size:=by omega
   have HJ:=qe hj;have HL:=qe hl;clear hl hj;go_wp2_with fail
   go_roundw
   case rel=>
    refine⟨k+1,by omega,by go_num,?_,?_⟩
    ·have h2:=(HO.1.set_ j (QP 8 (8*n/256^k))).1
     rw[←qgw n k (by omega)]at h2;exact h2.cast (by rw[qgw n k (by omega)];exact qlI _ _ _ _ HJ.1)
    ·exact HB.1.setCell (p:=⟨w.heap.size,j,none⟩) (QI _) _
   case measure=>simp[intOf];omega
  ·obtain rfl:k=8:=by omega
   rw[show(((8:Nat)):Int)=8 from rfl];rcases HS.1 with rfl|rfl
   ·go_wp2_with fail
    go_ret;exact⟨_,rfl,HO.1.cast (qlJ _ 8 (.inl rfl) (by omega)),HB.1⟩
   ·have hl:=qgv (8*n) 16 8 (by omega)
    obtain⟨u,c1,f1⟩:∃u,wr.cell? ⟨w.heap.size,7,none⟩=some (b8 u)∧wr.frozen? ⟨w.heap.size,7,none⟩=false:=⟨_,HO.1.at_ (k:=7) (by omega)⟩;clear hl;go_wp2_with fail
    go_ret;refine⟨_,rfl,?_,HB.1.setCell (p:=⟨w.heap.size,7,none⟩) (QI _) _⟩;have h2:=(HO.1.set_ 7 0#8).1;rw[←qjn n (by omega)]at h2;exact h2.cast (by rw[qjn n (by omega),qlK];exact qlJ _ 16 (.inr rfl) (by omega))
def ut:Value→Int
 | .slice _ n _=>n
 |_=>0
theorem qgx(n piece size k:Nat)(h:(piece=64∧size=8)∨(piece=128∧size=16))(hk:k<yu n piece size):(n+1+k) % piece≠piece-size:=by
 unfold yu at hk;rcases h with⟨rfl,rfl⟩|⟨rfl,rfl⟩<;>omega
theorem qbS(n piece size:Nat)(h:(piece=64∧size=8)∨(piece=128∧size=16)):(n+1+yu n piece size) % piece=piece-size:=by
 unfold yu;rcases h with⟨rfl,rfl⟩|⟨rfl,rfl⟩<;>omega
theorem qdl(n piece size:Nat)(h:(piece=64∧size=8)∨(piece=128∧size=16)):yu n piece size<128:=by
 unfold yu;rcases h with⟨rfl,rfl⟩|⟨rfl,rfl⟩<;>omega
theorem qid(xs:qf)(n m piece size:Nat)(hps:(piece=64∧size=8)∨(piece=128∧size=16))(hn:n≤1000000000)(w:World)(B:Nat)(A:Option Addr)(c:Nat)(hr:Rd b8 w B A xs)(hB:B≤w.heap.size)(hm:m=xs.length)(hA:A=none→m=0∧c=0)(hbig:m≤100000000):
 Calls prog 156 #[.slice A m c,.int .i64 (n:Int),.int .i64 (piece:Int),.int .i64 (size:Int)] w fun e w'=>∃v,e= .returned v∧Own b8 w' w.heap.size 5 v (zb xs n piece size)∧Below w.heap.size w w':=by
 obtain⟨i0,hi0,hz0,hz1,hz2⟩:=info_parts jN;have HM:=qe hm;have HR:=qe hr;have HA:=qe hA;have HPS:=qe hps;have hb2:8≤size∧size≤16∧64≤piece∧piece≤128:=by omega
 clear hm hr hA hps;go_enter func156,ntmps156
 go_wp2_with fail
 refine(qct w B A c m xs HR.1 hB HM.1 HA.1 hbig).mono ?_;rintro e w1 ⟨v1,rfl,hown1,hb1⟩;have HO1:=qe hown1;have HB1:=qe hb1;have hz1':=hb1.size;clear hown1 hb1;go_wp2_with (at_builtin;refine qh rfl _ _ 28 rfl qH w.heap.size 5 i0 _ 1 underlying28 hi0 hz0 hz1 hz2 rfl _ _ rfl (HO1.1.alloc _) (w1.heap.size+1) _ 1 1 [128#8] rfl rfl (Rd.new b8 w1 5 [128#8]) (by have:=HM.1;simp[maxLen];omega) (by have:=HM.1;simp;omega) (by simp;omega) ?_;intro v2 w2 hown2 hg2 hbb2;have HO2:=qe hown2;have HB2:=qe (hbb2 _ _ (QI _) (HB1.1.alloc hz1' _));clear hown2 hg2 hbb2)
 go_loopw [9] (fun v wr=>∃k:Nat,k≤yu m piece size∧Own b8 wr w.heap.size 5 v (xs++128#8::QL k 0#8)∧Below w.heap.size w wr) (fun v _=>m+1+128-(ut v).toNat)
 case atStart=>exact⟨0,Nat.zero_le _,HO2.1,HB2.1⟩
 case round=>
  clear HO2 HB2;obtain⟨k,hk,hown,hb⟩:=hrel;obtain⟨L,hL⟩:∃L,L=m+1+k:=⟨_,rfl⟩;have hlen:(xs++128#8::QL k 0#8).length=L:=by simp;rw[hL,HM.1];omega
  have hpl:=qdl m piece size HPS.1;obtain⟨A1,c1,rfl,-,-,-,-⟩:=hown.shape' hlen;have hz:=hb.size;have HO:=qe hown;have HB:=qe hb;have HLn:=qe hlen;clear hown hb hlen;have hlb:L≤200000000:=by omega
  have hdiv:(L:Int).tmod (piece:Int)=((L % piece:Nat):Int):=by rw[Int.tmod_eq_emod_of_nonneg (by omega)];omega
  by_cases hlt:k<yu m piece size
  ·have hne:=qgx m piece size k HPS.1 hlt
   rw[←hL]at hne;have HL:=qe hL;have hcmp:(((L % piece:Nat):Int) !=(piece:Int)-(size:Int))=true:=by simp only[bne_iff_ne,ne_eq];omega
   clear hL hne hk;generalize L % piece=q at hdiv hcmp;go_wp2_with (at_builtin;refine qh rfl _ _ 28 rfl qH w.heap.size 5 i0 _ 1 underlying28 hi0 hz0 hz1 hz2 rfl _ _ rfl (HO.1.alloc _) (wr.heap.size+1) _ 1 1 [0#8] rfl rfl (Rd.new b8 wr 5 [0#8]) (by have:=HLn.1;rw[this];simp[maxLen];omega) (by have:=HLn.1;rw[this];simp;omega) (by simp;omega) ?_;intro v7 w7 hown7 hg7 hbb7)
   have hlen7:((xs++128#8::QL k 0#8)++ [0#8]).length=L+1:=by rw[QO,HLn.1];rfl
   obtain⟨A7,c7,rfl,-,-,-,-⟩:=hown7.shape' hlen7;go_roundw
   case rel=>exact⟨k+1,by omega,by rw[List.replicate_succ',←JL,←Jb];exact hown7,hbb7 _ _ (QI _) (HB.1.alloc hz _)⟩
   case measure=>have:=HL.1;simp[ut];omega
  ·have hke:k=yu m piece size:=by omega
   have hhit:=qbS m piece size HPS.1;rw[←hke,←hL]at hhit;have hcmp:(((L % piece:Nat):Int) !=(piece:Int)-(size:Int))=false:=by simp only[bne_eq_false_iff_eq];omega
   have HL:=qe hL;have HK:=qe hke;clear hL hke hhit hk hlt;generalize L % piece=q at hdiv hcmp;have hsz:size=8∨size=16:=by have:=HPS.1;omega
   have HSz:=qe hsz;clear hsz;go_wp2_with fail
   refine(qic n size HSz.1 hn _).mono ?_;rintro e w5 ⟨v5,rfl,hown5,hb5⟩;have hbl:=qdj (8*n) size;obtain⟨A5,c5,rfl,-,-,-,-⟩:=hown5.shape' hbl;have HO5:=qe hown5;have HB5:=qe hb5;have HBl:=qe hbl;have HOk:=qe (HO.1.below hb5 (QI _));have hz5:=hb5.size;clear hown5 hb5 hbl;go_wp2_with (at_builtin;refine qh rfl _ _ 28 rfl qH w.heap.size 5 i0 _ 1 underlying28 hi0 hz0 hz1 hz2 rfl _ _ rfl HOk.1 w5.heap.size A5 size c5 (beN (8*n) size) rfl HBl.1.symm HO5.1.rd (by have:=HLn.1;rw[this,HBl.1];simp[maxLen];omega) (by have:=HLn.1;rw[this,HBl.1];simp;omega) (by omega) ?_;intro v7 w7 hown7 hg7 hbb7)
   go_ret;refine⟨_,rfl,hown7.cast ?_,hbb7 _ _ (QI _) (HB.1.trans (HB5.1.mono hz))⟩;unfold zb;rw[←HM.1,HK.1];simp
theorem qa1{n:Nat}(c:Sha n)(j:Nat)(bs:qf)(s:S8 n):c.pieces (j+1) bs s=c.piece (c.pieces j bs s) ((bs.drop (j*c.size)).take c.size):=by
 rw[Sha.pieces_add];rfl
def uL(w:World)(g B:Nat)(t:qf):Prop:=∃rv,Dig w g (qJ.pieces (t.length/64) t jZ).list rv (t.length:Nat)∧Own b8 w B 5 rv (t.drop (64*(t.length/64)))
theorem uL.lt{w:World}{g B:Nat}{t:qf}(h:uL w g B t):g<w.heap.size:=by obtain⟨rv,h1,_⟩:=h;exact h1.lt
theorem uL.below{w w':World}{g B C:Nat}{t:qf}(h:uL w g B t)(hb:Below C w w')(hC:w.heap.size≤C):uL w' g B t:=by
 obtain⟨rv,h1,h2⟩:=h;exact⟨rv,h1.below hb (Jq h1.lt hC),h2.below hb hC⟩
theorem uL.less{w:World}{g B B':Nat}{t:qf}(h:uL w g B t)(hB:B'≤B):uL w g B' t:=by
 obtain⟨rv,h1,h2⟩:=h;exact⟨rv,h1,h2.less hB⟩
theorem uL.nil_{w:World}{g B:Nat}(h:Dig w g jZ.list (.slice none 0 0) 0):uL w g B []:=⟨_,h,Own.nil_ _ _ _ _⟩
theorem Dig.not_row{α:Type}{f:α→Value}{w:World}{g B e:Nat}{s:List (BitVec 32)}{rv v:Value}{n:Int}{xs:List α}(h:Dig w g s rv n)(hte:238≠e)(hr:Own f w B e v xs):some g≠v.ownBlock:=h.2.not_row hte hr
theorem qlL(t xs:qf):let h:=t.length/64;let a:=t.drop (64*h)++xs;let j:=a.length/64;
 qJ.pieces j a (qJ.pieces h t jZ)=qJ.pieces ((t++xs).length/64) (t++xs) jZ∧a.drop (64*j)=(t++xs).drop (64*((t++xs).length/64)):=by
 intro h a j;have hh:64*h≤t.length:=Nat.mul_div_le _ _;have hd:(t++xs).drop (64*h)=a:=by rw[List.drop_append_of_le_length hh]
 have ha:a.length=t.length-64*h+xs.length:=by show(t.drop (64*h)++xs).length=_;rw[QO,Jf]
 have e:(t++xs).length/64=h+j:=by
  show _=h+a.length/64;rw[QO,ha];omega
 rw[e,Sha.pieces_add,show qJ.size=64 from rfl,Jw h 64,hd,Sha.pieces_app qJ h t xs jZ (by show h*64≤_;omega)];refine⟨rfl,?_⟩;rw[←hd,List.drop_drop];congr 1;omega
theorem qan(a:qf)(o m i:Nat)(h:i<m)(h2:o+i<a.length):((a.drop o).take m).getD i 0#8=a[o+i]:=by
 rw[QR,List.getElem?_take,if_pos h,List.getElem?_drop,QT h2];rfl
theorem j2{a w w':World}{r:Option Nat}(h:a.grownBy w r)(hb:Below w.heap.size w w'):a.grownBy w' r:=⟨hb.os.trans h.os,hb.tape.trans h.tape,hb.output.trans h.output,QX h.size hb.size,fun i hi hne=>(hb.block i (Jq hi h.size)).trans (h.block i hi hne)⟩
theorem qfB(w:World)(g B Bx n c:Nat)(A:Option Addr)(t xs:qf)(hd:uL w g B t)(hB:B≤w.heap.size)(hr:Rd b8 w Bx A xs)(hBx:Bx≤w.heap.size)(hn:n=xs.length)(hgx:∀a,0<xs.length→A=some a→a.block≠g)(hbig:t.length+xs.length≤50000000):
 Calls prog 148 #[.pointer (some ⟨g,0,none⟩),.slice A n c] w fun e w'=>e= .returned (.tuple #[])∧uL w' g w.heap.size (t++xs)∧w.grownBy w' (some g):=by
 obtain⟨rv,hd,hown⟩:=hd;obtain⟨h,hh⟩:∃h,h=t.length/64:=⟨_,rfl⟩;rw[←hh]at hd hown;obtain⟨nr,hnr⟩:∃nr,nr=(t.drop (64*h)).length:=⟨_,rfl⟩;obtain⟨Ar,cr,rfl,hrr,hAr,hcr,-⟩:=hown.shape' hnr.symm;have hlaw:=qlL t xs;simp only[←hh]at hlaw;obtain⟨S,hS⟩:∃S,S=qJ.pieces h t jZ:=⟨_,rfl⟩;obtain⟨N,hN⟩:∃N,N=t.length:=⟨_,rfl⟩;rw[←hS,←hN]at hd;rw[←hS]at hlaw;have hNn:N+n≤50000000:=by omega
 have c8:=hd.rest;have c9:=hd.count;have f9:=hd.frozen 9;have f8:=hd.frozen 8;have hnb:=hd.not_row (by decide) hown;have HNb:=qe hnb;have HD:=qe hd;have HO:=qe hown;have HR:=qe hr;have HRr:=qe hrr;have HN:=qe hn;have HNr:=qe hnr;have HG:=qe hgx;have HLaw:=qe hlaw;have HNN:=qe hN;have Hh:=qe hh;have hgl:=hd.lt;clear hd hown hr hrr hn hnr hgx hlaw hS hh hnb hAr hbig hN
 go_enter func148,ntmps148
 go_wp2_with fail
 obtain⟨W1,hW1⟩:∃W1,W1=w.setCell ⟨g,9,none⟩ (.int .i64 ((N:Int)+(n:Int))):=⟨_,rfl⟩;have hG1:w.grownBy W1 (some g):=by rw[hW1];exact jJ (J8 w _) (.inl rfl) _
 have hD1:Dig W1 g S.list (.slice Ar nr cr) ((N:Int)+(n:Int)):=by rw[hW1];exact HD.1.setCount _
 have hO1:Own b8 W1 B 5 (.slice Ar nr cr) (t.drop (64*h)):=HO.1.kept hG1 (.inr (fun e=>HNb.1 e.symm));have hR1:Rd b8 W1 Bx A xs:=fun hn=>by
  obtain⟨b,off,e,hb,hc⟩:=HR.1 hn;exact⟨b,off,e,hb,fun j u hu=>(qdE hG1 (a:=⟨b,off+j,none⟩) (by show b<_;omega) (by have:=HG.1 _ hn e;simpa using this)).trans (hc j u hu)⟩
 have hz1:W1.heap.size=w.heap.size:=by rw[hW1,World.size_setCell]
 rw[←hW1];generalize hW2:W1.alloc (.cells #[.slice Ar nr cr,.slice A n c] 28)=W2;have hP:Pts W2 W1.heap.size W1.heap.size 0 [((Ar,nr,cr),t.drop (64*h)),((A,n,c),xs)]:=by
  refine⟨?_,by rw[←hW2];simp,?_,?_⟩
  ·intro k u hu
   rw[←hW2,JD,cell_of_row _ W1.heap.size k _ 28 (0,0) (heap_alloc_new W1 _)]
   match k,hu with
   |0,hu=>cases hu;rfl
   |1,hu=>cases hu;rfl
  ·intro u hu
   rw[←hW2];simp only[Ja,JM,or_false]at hu;rcases hu with rfl|rfl
   ·exact(hO1.rd.alloc (QI _) _)
   ·exact(hR1.alloc (by omega) _).more (by omega)
  ·intro u hu
   simp only[Ja,JM,or_false]at hu;rcases hu with rfl|rfl
   ·exact HNr.1
   ·exact HN.1
 have hD2:Dig W2 g S.list (.slice Ar nr cr) ((N:Int)+(n:Int)):=by rw[←hW2];exact hD1.alloc _
 have hG2:w.grownBy W2 (some g):=by rw[←hW2];exact qaY hG1 _
 have hz2:W2.heap.size=w.heap.size+1:=by rw[←hW2,QQ,hz1]
 obtain⟨a,ha⟩:∃a,a=t.drop (64*h)++xs:=⟨_,rfl⟩;have hal:a.length≤50000000:=by rw[ha,QO,←HNr.1,←HN.1];have:=HNN.1;have:=HNr.1;rw[Jf]at this;omega
 have hcat:=qam W2 W1.heap.size W1.heap.size 0 2 2 _ hP (by omega) rfl (by omega) (by rw[show(List.flatMap (fun p:Pt=>p.2) [((Ar,nr,cr),t.drop (64*h)),((A,n,c),xs)])=a by rw[ha];simp];exact hal);rw[show(List.flatMap (fun p:Pt=>p.2) [((Ar,nr,cr),t.drop (64*h)),((A,n,c),xs)])=a by rw[ha];simp]at hcat;rw[hz1]at hcat;have HCat:=qe hcat;have HD2:=qe hD2;have HG2:=qe hG2;have HA:=qe ha
 have HZ2:=qe hz2;have HAl:=qe hal;clear hW1 hG1 hD1 hO1 hR1 hz1 hW2 hP hD2 hG2 hcat ha hz2 hal;refine HCat.1.mono ?_;rintro e w3 ⟨v3,rfl,hown3,hb3⟩;obtain⟨T,hT⟩:∃T,T=a.length:=⟨_,rfl⟩;obtain⟨A3,c3,rfl,hr3,hA3,hc3,hm3⟩:=hown3.shape' hT.symm;have hz3:=hb3.size;have hD3:=HD2.1.below hb3 (by have:=HZ2.1;omega);have hG3:=j2 HG2.1 hb3;have HO3:=qe hown3;have HD3:=qe hD3;have HG3:=qe hG3
 have HT:=qe hT;have HA3:=qe hA3;have hz3':w.heap.size<w3.heap.size:=by have:=HZ2.1;omega
 have HZ3:=qe hz3;clear hown3 hb3 hD3 hG3 hT hA3 hr3 hz3 HCat HD2 HG2;have hTb:T≤50000000:=by rw[HT.1];exact HAl.1
 go_wp2_with fail
 refine(qdD _).mono ?_;rintro e w4 ⟨rfl,hb4⟩;have hz4:=hb4.size;have HK0:=qe (show Arr w32 (w4.alloc (.cells ((QL 64 0#32).map w32).toArray 241)) w4.heap.size 241 (QL 64 0#32)from Arr.new w32 w4 _ _);have HO4:=qe (HO3.1.below hb4 (QI _));have HD4:=qe ((HD3.1.below hb4 (by omega)).alloc (.cells ((QL 64 0#32).map w32).toArray 241));have HG4:=qe (qaY (j2 HG3.1 hb4) (.cells ((QL 64 0#32).map w32).toArray 241))
 clear hb4 HO3 HD3 HG3;go_wp2_with (refine qk rfl 241 _ _ rfl w4.heap.size rfl K32 rfl _ _ HK0.1 (by kernel_rfl) (by rw[qdC,j9]) ug ?_;intro w5 hx5 hg5)
 have hz5:w4.heap.size+1≤w5.heap.size:=by have:=hg5.size;rw[QQ]at this;exact this
 have HK5:=qe hx5;have HO5:=qe ((HO4.1.alloc _).kept' hg5 (fun g' e hv=>by cases e;have:=(HO4.1.lt _ hv).2;omega));have HD5:=qe (HD4.1.grown hg5 (by simp;omega));have HG5:=qe (show w.grownBy w5 (some g)from qp HG4.1 hg5 (fun g' e=>by cases e;exact .inr (by omega)));clear hx5 hg5 HK0 HO4 HD4 HG4;have hgkg:g<w4.heap.size:=by omega
 go_frame
 go_loopw [4] (fun v wr=>∃(j:Nat) (A':Option Addr) (c':Nat),v= .slice A' (T-64*j) c'∧64*j≤T∧T-64*j≤c'∧(0<T-64*j→∃b,A3=some ⟨b,0,none⟩∧A'=some ⟨b,64*j,none⟩)∧(A'=none→T-64*j=0∧c'=0)∧
  Own b8 wr w.heap.size 5 (.slice A3 T c3) a∧Dig wr g (qJ.pieces j a S).list (.slice Ar nr cr) ((N:Int)+(n:Int))∧Arr w32 wr w4.heap.size 241 K32∧w.grownBy wr (some g)) (fun v _=>(ut v).toNat)
 case atStart=>
  refine⟨0,A3,c3,by simp,by omega,by omega,?_,fun e=>?_,HO5.1.less (by have:=HZ2.1;omega),HD5.1,HK5.1,HG5.1⟩
  ·intro hp
   obtain⟨g',cap,e,-⟩:=HO5.1.form' HT.1.symm (by omega);injection e with e1;exact⟨g',e1,by rw[e1]⟩
  ·have h0:=HA3.1 e
   omega
 case round=>
  obtain⟨j,A',c',rfl,hjT,hjc,hA',hAn,ho,hdg,hka,hgr⟩:=hrel;clear HO5 HD5 HG5 HK5;have HOa:=qe ho;have HDa:=qe hdg;have HKa:=qe hka;have HGa:=qe hgr;have HA':=qe hA';have HAn:=qe hAn;have hgw:=hgr.size;clear ho hdg hka hgr hA' hAn;obtain⟨L,hL⟩:∃L,L=T-64*j:=⟨_,rfl⟩;rw[←hL]at hjc ⊢;have HL:=qe hL;clear hL;by_cases hlt:64≤L
  ·obtain⟨b,e3,rfl⟩:=HA'.1 (by rw[←HL.1];omega)
   have hLT:64*j+L=T:=by have:=HL.1;omega
   have hc64:64≤c':=by omega
   have hge:¬((L:Int)<64):=by omega
   have hcell:∀i,i<64→wr.cell? ⟨b,64*j+i,none⟩=some (b8 (((a.drop (64*j)).take 64).getD i 0#8)):=fun i hi=>by
    have h1:=HOa.1;rw[e3]at h1;have h2:64*j+i<a.length:=by rw[←HT.1];omega
    rw[qan _ _ _ _ hi h2];exact(h1.at_ h2).1
   have hpl:((a.drop (64*j)).take 64).length=64:=by rw[QV,Jf,←HT.1];omega
   have hbl:b<wr.heap.size∧w.heap.size≤b:=by
    have h1:=HOa.1;rw[e3]at h1;have:=h1.lt b rfl;omega
   have hpc:=qeQ g w4.heap.size b (64*j) c' (qJ.pieces j a S) (.slice Ar nr cr) ((N:Int)+(n:Int)) ((a.drop (64*j)).take 64) wr HDa.1 HKa.1 hpl hbl.1 hcell;rw[show qJ.piece (qJ.pieces j a S) ((a.drop (64*j)).take 64)=qJ.pieces (j+1) a S by rw[qa1,show qJ.size=64 from rfl,Jw j 64]]at hpc;have HPc:=qe hpc;have HE3:=qe e3;clear hcell hpl hpc e3;go_wp2_with fail
   refine HPc.1.mono ?_;rintro e w6 ⟨rfl,hd6,hg6⟩;have hbg:b≠g:=by omega
   have HO6:=qe (HOa.1.kept' hg6 (fun g' e hv=>by cases e;rw[HE3.1]at hv;exact hbg (by simpa[JF]using hv)));have HK6:=qe (HKa.1.grown hg6 (by simp;omega));have HG6:=qe (show w.grownBy w6 (some g)from qp HGa.1 hg6 (fun g' e=> .inl e));have HD6:=qe hd6;clear hd6 hg6;have hL64:((L-64:Nat):Int)=(L:Int)-64:=by omega
   by_cases hcc:c'=64
   ·subst hcc
    obtain rfl:L=64:=by omega
    go_wp2_with fail
    go_roundw
    case rel=>exact⟨j+1,_,0,by congr 1;omega,by omega,by omega,fun h=>by omega,(fun e=>by cases e),HO6.1,HD6.1,HK6.1,HG6.1⟩
    case measure=>simp[ut]
   ·have hcn:¬(64=c'):=fun e=>hcc e.symm
    go_wp2_with fail
    go_roundw
    case rel=>exact⟨j+1,_,c'-64,by congr 1;omega,by omega,by omega,fun _=>⟨b,HE3.1,by rw[Nat.mul_succ]⟩,(fun e=>by cases e),HO6.1,HD6.1,HK6.1,HG6.1⟩
    case measure=>simp[ut];omega
  ·have hge:(L:Int)<64:=by omega
   have hjj:j=a.length/64:=by have:=HL.1;have:=HT.1;omega
   have hrd:Rd b8 wr wr.heap.size A' (a.drop (64*j)):=fun hp=>by
    rw[Jf,←HT.1]at hp;obtain⟨b,e3,e4⟩:=HA'.1 (by omega);have h1:=HOa.1;rw[e3]at h1;refine⟨b,64*j,e4,(h1.lt b rfl).2,fun i u hu=>?_⟩;rw[List.getElem?_drop]at hu;have:=(h1.at_ (JS.1 hu).1).1;rw[(JS.1 hu).2]at this;exact this
   have hcl:=qct wr wr.heap.size A' c' L (a.drop (64*j)) hrd (QI _) (by rw[Jf,←HT.1];exact HL.1) (fun e=>by have:=HAn.1 e;have:=HL.1;omega) (by omega);have HCl:=qe hcl;have HJ:=qe hjj;clear hrd hcl hjj;go_wp2_with fail
   refine HCl.1.mono ?_;rintro e w6 ⟨v6,rfl,hown6,hb6⟩;obtain⟨n6,hn6⟩:∃n6,n6=(a.drop (64*j)).length:=⟨_,rfl⟩;obtain⟨A6,c6,rfl,-,-,-,-⟩:=hown6.shape' hn6.symm;have HD6:=qe (HDa.1.below hb6 (by omega));have HO6:=qe hown6;have HG6:=qe (j2 HGa.1 hb6);have c8':=HD6.1.rest;have f8':=HD6.1.frozen 8;clear hown6 hb6 hn6;go_wp2_with fail
   go_end0
   have hset:=HD6.1.setRest (.slice A6 n6 c6);obtain⟨law1,law2⟩:=HLaw.1;rw[←HA.1,←HJ.1]at law1 law2;refine⟨rfl,⟨.slice A6 n6 c6,?_,?_⟩,jJ HG6.1 (.inl rfl) _⟩
   ·rw[←law1]
    have e:(((t++xs).length:Nat):Int)=(N:Int)+(n:Int):=by rw[QO,HNN.1,HN.1];omega
    rw[e];exact hset
   ·rw[←law2]
    exact(HO6.1.kept (jJ (J8 w6 (some g)) (.inl rfl) (.slice A6 n6 c6) (p:=⟨g,8,none⟩)) (.inr (fun e=>(HD6.1.not_row (by decide) HO6.1) e.symm))).less (by have:=HGa.1.size;omega)
attribute [local go_sem] Oper.semAt_some
theorem qeR(A:Option Addr)(n c q:Nat)(hq:1≤q)(hq2:q≤1000)(w:World):
 Calls prog 114 #[.slice A n c,.int .i64 (q:Int)] w fun e w'=>e= .returned (.func (.func 131) #[] #[.pointer (some ⟨w.heap.size,0,none⟩),.pointer (some ⟨w.heap.size+1,0,none⟩)])∧
  w'=(w.alloc (.cells #[.slice A n c] 28)).alloc (.cells #[.int .i64 (q:Int)] 3):=by
 have h1:¬((q:Int)<1):=by omega
 go_enter func114,ntmps114
 go_wp2_with fail
 go_ret;exact⟨rfl,rfl⟩
abbrev Ci(N:Nat):={i:Nat//i<N}
def qnn(b q:Nat){N:Nat}(x:Ci N):Array Value:= #[.slice (some ⟨b,q*x.1,none⟩) q q]
def KpC(n₀ bs bn:Nat)(A B:World):Prop:=Below n₀ A B∧B.heap[bs]?=A.heap[bs]?∧B.heap[bn]?=A.heap[bn]?
theorem KpC.t{n₀ bs bn:Nat}{A B C:World}(h:KpC n₀ bs bn A B)(k:KpC n₀ bs bn B C):KpC n₀ bs bn A C:=⟨h.1.trans k.1,k.2.1.trans h.2.1,k.2.2.trans h.2.2⟩
theorem zQ{w w':World}{B:Nat}{t:TypeId}{v:Value}(h:Boxed w B t v)(hb:Below w.heap.size w w'):Boxed w' B t v:=(hb.block B h.lt).trans h
theorem qgy{w w':World}(hb:Below w.heap.size w w'):w.grownBy w' none:=⟨hb.os,hb.tape,hb.output,hb.size,fun k hk _=>hb.block k hk⟩
theorem qkp(m:Nat)(hm:3≤m)(b c q N l bs bn n₀:Nat)(hq:1≤q)(hq2:q≤1000)(hN:q*N≤1000000000)(hc:q*N≤c)(J Jx:List (Ci N)→World→Prop)(W:World)(hJ:AbidesFrom W.heap.size J)
 (hY:∀pre y W1,J pre W1→pre.length<N→YieldAt Fence.wide (m-1) prog l (qnn b q y) W1 fun e W'=>
  (e= .returned (.bool true)∧J (pre++ [y]) W'∧KpC n₀ bs bn W1 W')∨(e= .returned (.bool false)∧Jx (pre++ [y]) W'))
 (hbs:Boxed W bs 28 (.slice (some ⟨b,0,none⟩) (q*N) c))(hbn:Boxed W bn 3 (.int .i64 (q:Int)))(h0:J [] W):
 CallsIn Fence.wide m prog 131 #[.func (.yield l) #[] #[],.pointer (some ⟨bs,0,none⟩),.pointer (some ⟨bn,0,none⟩)] W fun e W'=>(∃v,e= .returned v)∧
  ((∃ys:List (Ci N),ys.map Subtype.val=Q6 N∧J ys W')∨(∃pre:List (Ci N),True∧Jx pre W')):=by
 refine callsIn_of_wp func131 rfl trivial ?_ rfl;simp only[ntmps131,Jh,Jr,JE,Nat.reduceAdd,Nat.reduceSub,Array.replicate_succ,Array.replicate_zero,List.push_toArray,List.append_toArray,Ji,JL];obtain⟨L,hL⟩:∃L,L=q*N:=⟨_,rfl⟩;rw[←hL]at hbs hN hc;have HJ:=qe hJ;have HY:=qe hY;have H0:=qe h0;have HBs:=qe hbs;have HBn:=qe hbn
 have HL:=qe hL;have hm1:1≤m:=by omega
 have hm2:1≤m-1:=by omega
 clear hJ hY h0 hbs hbn hL;gi_wp2_with fail
 gi_loopw [4] (fun v wr=>∃(k p:Nat) (pre:List (Ci N)),p=q*k∧v= .int .i64 (p:Int)∧k≤N∧p≤L∧pre.map Subtype.val=Q6 k∧J pre wr∧Boxed wr bs 28 (.slice (some ⟨b,0,none⟩) L c)∧Boxed wr bn 3 (.int .i64 (q:Int))) (fun v _=>(L-intOf v).toNat)
 case atStart=>exact⟨0,0,[],by simp,rfl,by omega,by omega,rfl,H0.1,HBs.1,HBn.1⟩
 case round=>
  obtain⟨k,p,pre,hp,rfl,hkN,hpL,hpre,hJs,hbs,hbn⟩:=hrel;have cs:=hbs.cell;have cn:=hbn.cell;have HBs2:=qe hbs;have HBn2:=qe hbn;have HJs:=qe hJs;have Hpre:=qe hpre;have Hp:=qe hp;clear hbs hbn hJs hpre hp;by_cases hlt:k<N
  ·have hle:p+q≤L:=by
    rw[Hp.1,HL.1,←Nat.mul_succ];exact Nat.mul_le_mul_left q hlt
   have hmin:min (q:Int) ((L-p:Nat):Int)=(q:Int):=by omega
   have hpc:¬(c=p):=by omega
   gi_wp2_with fail
   refine wpIn_wide.2 ?_;go_quiet (fail)
   have HJ2:=qe (HJ.1 _ _ _ none HJs.1 (show wr.grownBy (wr.drewN nq) none from⟨rfl,rfl,rfl,QI _,fun _ _ _=>rfl⟩) (fun r e=>by cases e));have HBs3:=qe (show Boxed (wr.drewN nq) bs 28 (.slice (some ⟨b,0,none⟩) L c)from HBs2.1);have HBn3:=qe (show Boxed (wr.drewN nq) bn 3 (.int .i64 (q:Int))from HBn2.1);clear HJs HBs2 HBn2 cs cn;generalize wr.drewN nq=wv at HJ2 HBs3 HBn3 ⊢;have cs:=HBs3.1.cell
   have cn:=HBn3.1.cell;obtain⟨fn,tmps,assign,body,hy,hR⟩:=HY.1 pre ⟨k,hlt⟩ wv HJ2.1 (by have:=congrArg List.length Hpre.1;rw[QN,List.length_range]at this;omega);dsimp only[qnn]at hy;rw[←Hp.1]at hy;have HRn:=qe hR;clear hR;gi_wp2_with fail
   refine HRn.1.mono ?_;rintro e w3 (⟨rfl,hJ3,hk3,hks,hkn⟩|⟨rfl,hJx3⟩)
   ·have hbs3:Boxed w3 bs 28 (.slice (some ⟨b,0,none⟩) L c):=hks.trans HBs3.1
    have hbn3:Boxed w3 bn 3 (.int .i64 (q:Int)):=hkn.trans HBn3.1;have cn3:=hbn3.cell;have HB1:=qe hbs3;have HB2:=qe hbn3;have HJ3:=qe hJ3;clear hbs3 hbn3 hks hkn hJ3 hk3;gi_wp2_with fail
    go_roundw
    case rel=>
     refine⟨k+1,p+q,pre++ [⟨k,hlt⟩],by rw[Hp.1,Nat.mul_succ],by go_num,hlt,hle,?_,HJ3.1,HB1.1,HB2.1⟩;rw[Q9,Hpre.1,List.range_succ];rfl
    case measure=>simp[intOf];omega
   ·gi_wp2_with fail
    refine bodyPost_ret (results_none rfl _ _ _) rfl ?_;exact⟨⟨_,rfl⟩,.inr ⟨_,trivial,hJx3⟩⟩
  ·obtain rfl:k=N:=by omega
   have hpL2:p=L:=by rw[Hp.1,HL.1]
   subst hpL2;gi_wp2_with fail
   go_end0
   exact⟨⟨_,rfl⟩,.inl ⟨pre,Hpre.1,HJs.1⟩⟩
theorem qgz(m:Nat)(hm:3≤m)(b c q N bs bn n₀:Nat)(hq:1≤q)(hq2:q≤1000)(hN:q*N≤1000000000)(hc:q*N≤c)(w:World)
 (hbs:Boxed w bs 28 (.slice (some ⟨b,0,none⟩) (q*N) c))(hbn:Boxed w bn 3 (.int .i64 (q:Int))):
 SeqStopsK Fence.wide m prog 131 #[.pointer (some ⟨bs,0,none⟩),.pointer (some ⟨bn,0,none⟩)] (fun x:Ci N=>qnn b q x) (KpC n₀ bs bn) (fun ys=>ys.map Subtype.val=Q6 N) (fun _=>True) N w:=fun l J Jx W hW hJ _ hY h0=>
 qkp m hm b c q N l bs bn n₀ hq hq2 hN hc J Jx W hJ hY (zQ hbs hW) (zQ hbn hW) h0
end
end Go.Proofs.YtelgjaiknaalkaaGreatDoor
