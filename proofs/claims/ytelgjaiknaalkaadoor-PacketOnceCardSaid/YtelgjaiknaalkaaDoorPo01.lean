/- Lemmas, joined and made smaller by a program. -/
import Derived.WalkKit
set_option linter.unusedVariables false
set_option linter.unusedSimpArgs false
namespace Go.Proofs.YtelgjaiknaalkaaDoor
open Go.RowKit
def bv{n:Nat}(x:BitVec n):Int:=(x.toNat:Int)
theorem bv_nonneg{n:Nat}(x:BitVec n):0≤bv x:=by unfold bv;omega
theorem bv_inj{n:Nat}{x y:BitVec n}(h:bv x=bv y):x=y:=by unfold bv at h;exact BitVec.eq_of_toNat_eq (by omega)
theorem bv_toNat{n:Nat}(x:BitVec n):(bv x).toNat=x.toNat:=by unfold bv;omega
theorem bv8_lt(x:BitVec 8):bv x<256:=by unfold bv;omega
theorem bv32_lt(x:BitVec 32):bv x<4294967296:=by unfold bv;omega
theorem bv_eq_iff{n:Nat}(x y:BitVec n):(bv x=bv y)=(x=y):=by
 apply propext;exact⟨bv_inj,fun h=>by rw[h]⟩
theorem bv_beq{n:Nat}(x y:BitVec n):(bv x==bv y)=(x==y):=by
 rw[Bool.eq_iff_iff,beq_iff_eq,beq_iff_eq,bv_eq_iff]
theorem bv_bne{n:Nat}(x y:BitVec n):(bv x !=bv y)=(x !=y):=by rw[bne,bne,bv_beq]
theorem pow_min_shl{v n w:Nat}:(v*2^(min n w)) % 2^w=(v<<<n) % 2^w:=by
 rw[Nat.shiftLeft_eq]
 rcases Nat.le_total n w with h|h
 ·rw[Nat.min_eq_left h]
 ·rw[Nat.min_eq_right h]
  obtain⟨m,rfl⟩:=Nat.exists_eq_add_of_le h
  rw[Nat.pow_add,←Nat.mul_assoc,Nat.mul_right_comm,Nat.mul_mod_left,Nat.mul_mod_left]
theorem pow_min_shr{v n w:Nat}(h:v<2^w):v/2^(min n w)=v>>>n:=by
 rw[Nat.shiftRight_eq_div_pow]
 rcases Nat.le_total n w with hn|hn
 ·rw[Nat.min_eq_left hn]
 ·rw[Nat.min_eq_right hn,Nat.div_eq_of_lt h,Nat.div_eq_of_lt (Nat.lt_of_lt_of_le h (Nat.pow_le_pow_right (by decide) hn))]
theorem cast_shl(v n w:Nat):(((v:Int)*2^(min n w)) % (2^w:Nat))=(((v<<<n) % 2^w:Nat):Int):=by
 rw[←pow_min_shl];simp
theorem cast_shr(v n w:Nat)(h:v<2^w):((v:Int).fdiv (2^(min n w)))=((v>>>n:Nat):Int):=by
 rw[←pow_min_shr h,Int.fdiv_eq_ediv_of_nonneg _ (Int.le_of_lt (Int.pow_pos (by decide)))];simp
theorem ofInt_u8v(x:BitVec 8):BitVec.ofInt 8 (bv x)=x:=by
 unfold bv
 apply BitVec.eq_of_toNat_eq
 have:=x.isLt
 rw[BitVec.ofInt_natCast,BitVec.toNat_ofNat];exact Nat.mod_eq_of_lt (by omega)
theorem ofInt_u8l(m:Nat):BitVec.ofInt 8 (@OfNat.ofNat Int m instOfNat)=BitVec.ofNat 8 m:=by
 show BitVec.ofInt 8 ((m:Nat):Int)=_
 rw[BitVec.ofInt_natCast]
theorem wrap_u8v(n:Int):IntKind.u8.wrap n=n % 256:=by simp[IntKind.wrap,IntKind.bits,IntKind.signed]
theorem back_u8(r:BitVec 8):IntKind.u8.wrap (bv r)=bv r:=by rw[wrap_u8v];unfold bv;omega
theorem mod_u8(r:BitVec 8):bv r % 256=bv r:=by unfold bv;omega
theorem add_u8(x y:BitVec 8):(bv x+bv y) % 256=bv (x+y):=by unfold bv;rw[BitVec.toNat_add];omega
theorem addw_u8(x y:BitVec 8):IntKind.u8.wrap (bv x+bv y)=bv (x+y):=by rw[wrap_u8v,add_u8]
theorem add_u8_lit(x:BitVec 8)(m:Nat):(bv x+(no_index (@OfNat.ofNat Int m instOfNat))) % 256=bv (x+BitVec.ofNat 8 m):=by
 show(bv x+((m:Nat):Int)) % 256=_
 unfold bv;rw[BitVec.toNat_add,BitVec.toNat_ofNat];simp
theorem addw_u8_lit(x:BitVec 8)(m:Nat):IntKind.u8.wrap (bv x+(no_index (@OfNat.ofNat Int m instOfNat)))=bv (x+BitVec.ofNat 8 m):=by rw[wrap_u8v];exact add_u8_lit x m
theorem add_u8_litl(x:BitVec 8)(m:Nat):((no_index (@OfNat.ofNat Int m instOfNat))+bv x) % 256=bv (BitVec.ofNat 8 m+x):=by
 show(((m:Nat):Int)+bv x) % 256=_
 unfold bv;rw[BitVec.toNat_add,BitVec.toNat_ofNat];simp
theorem addw_u8_litl(x:BitVec 8)(m:Nat):IntKind.u8.wrap ((no_index (@OfNat.ofNat Int m instOfNat))+bv x)=bv (BitVec.ofNat 8 m+x):=by rw[wrap_u8v];exact add_u8_litl x m
theorem sub_u8(x y:BitVec 8):(bv x-bv y) % 256=bv (x-y):=by unfold bv;rw[BitVec.toNat_sub];omega
theorem subw_u8(x y:BitVec 8):IntKind.u8.wrap (bv x-bv y)=bv (x-y):=by rw[wrap_u8v,sub_u8]
theorem sub_u8_lit(x:BitVec 8)(m:Nat):(bv x-(no_index (@OfNat.ofNat Int m instOfNat))) % 256=bv (x-BitVec.ofNat 8 m):=by
 show(bv x-((m:Nat):Int)) % 256=_
 unfold bv;rw[BitVec.toNat_sub,BitVec.toNat_ofNat];omega
theorem subw_u8_lit(x:BitVec 8)(m:Nat):IntKind.u8.wrap (bv x-(no_index (@OfNat.ofNat Int m instOfNat)))=bv (x-BitVec.ofNat 8 m):=by rw[wrap_u8v];exact sub_u8_lit x m
theorem sub_u8_litl(x:BitVec 8)(m:Nat):((no_index (@OfNat.ofNat Int m instOfNat))-bv x) % 256=bv (BitVec.ofNat 8 m-x):=by
 show(((m:Nat):Int)-bv x) % 256=_
 unfold bv;rw[BitVec.toNat_sub,BitVec.toNat_ofNat];omega
theorem subw_u8_litl(x:BitVec 8)(m:Nat):IntKind.u8.wrap ((no_index (@OfNat.ofNat Int m instOfNat))-bv x)=bv (BitVec.ofNat 8 m-x):=by rw[wrap_u8v];exact sub_u8_litl x m
theorem mul_u8(x y:BitVec 8):(bv x*bv y) % 256=bv (x*y):=by unfold bv;rw[BitVec.toNat_mul];simp
theorem mulw_u8(x y:BitVec 8):IntKind.u8.wrap (bv x*bv y)=bv (x*y):=by rw[wrap_u8v,mul_u8]
theorem mul_u8_lit(x:BitVec 8)(m:Nat):(bv x*(no_index (@OfNat.ofNat Int m instOfNat))) % 256=bv (x*BitVec.ofNat 8 m):=by
 show(bv x*((m:Nat):Int)) % 256=_
 unfold bv;rw[BitVec.toNat_mul,BitVec.toNat_ofNat];simp
theorem mulw_u8_lit(x:BitVec 8)(m:Nat):IntKind.u8.wrap (bv x*(no_index (@OfNat.ofNat Int m instOfNat)))=bv (x*BitVec.ofNat 8 m):=by rw[wrap_u8v];exact mul_u8_lit x m
theorem mul_u8_litl(x:BitVec 8)(m:Nat):((no_index (@OfNat.ofNat Int m instOfNat))*bv x) % 256=bv (BitVec.ofNat 8 m*x):=by
 show(((m:Nat):Int)*bv x) % 256=_
 unfold bv;rw[BitVec.toNat_mul,BitVec.toNat_ofNat];simp
theorem mulw_u8_litl(x:BitVec 8)(m:Nat):IntKind.u8.wrap ((no_index (@OfNat.ofNat Int m instOfNat))*bv x)=bv (BitVec.ofNat 8 m*x):=by rw[wrap_u8v];exact mul_u8_litl x m
theorem xor_u8(x y:BitVec 8):bits .xor .u8 (bv x) (bv y)=bv (x^^^y):=by
 show IntKind.u8.wrap (bv (BitVec.ofInt 8 (bv x)^^^BitVec.ofInt 8 (bv y)))=_
 rw[ofInt_u8v,ofInt_u8v];exact back_u8 _
theorem xor_u8_lit(x:BitVec 8)(m:Nat):bits .xor .u8 (bv x) (no_index (@OfNat.ofNat Int m instOfNat))=bv (x^^^BitVec.ofNat 8 m):=by
 show IntKind.u8.wrap (bv (BitVec.ofInt 8 (bv x)^^^BitVec.ofInt 8 (@OfNat.ofNat Int m instOfNat)))=_
 rw[ofInt_u8v,ofInt_u8l];exact back_u8 _
theorem xor_u8_litl(x:BitVec 8)(m:Nat):bits .xor .u8 (no_index (@OfNat.ofNat Int m instOfNat)) (bv x)=bv (BitVec.ofNat 8 m^^^x):=by
 show IntKind.u8.wrap (bv (BitVec.ofInt 8 (@OfNat.ofNat Int m instOfNat)^^^BitVec.ofInt 8 (bv x)))=_
 rw[ofInt_u8v,ofInt_u8l];exact back_u8 _
theorem or_u8(x y:BitVec 8):bits .or .u8 (bv x) (bv y)=bv (x|||y):=by
 show IntKind.u8.wrap (bv (BitVec.ofInt 8 (bv x)|||BitVec.ofInt 8 (bv y)))=_
 rw[ofInt_u8v,ofInt_u8v];exact back_u8 _
theorem or_u8_lit(x:BitVec 8)(m:Nat):bits .or .u8 (bv x) (no_index (@OfNat.ofNat Int m instOfNat))=bv (x|||BitVec.ofNat 8 m):=by
 show IntKind.u8.wrap (bv (BitVec.ofInt 8 (bv x)|||BitVec.ofInt 8 (@OfNat.ofNat Int m instOfNat)))=_
 rw[ofInt_u8v,ofInt_u8l];exact back_u8 _
theorem or_u8_litl(x:BitVec 8)(m:Nat):bits .or .u8 (no_index (@OfNat.ofNat Int m instOfNat)) (bv x)=bv (BitVec.ofNat 8 m|||x):=by
 show IntKind.u8.wrap (bv (BitVec.ofInt 8 (@OfNat.ofNat Int m instOfNat)|||BitVec.ofInt 8 (bv x)))=_
 rw[ofInt_u8v,ofInt_u8l];exact back_u8 _
theorem and_u8(x y:BitVec 8):bits .and .u8 (bv x) (bv y)=bv (x&&&y):=by
 show IntKind.u8.wrap (bv (BitVec.ofInt 8 (bv x)&&&BitVec.ofInt 8 (bv y)))=_
 rw[ofInt_u8v,ofInt_u8v];exact back_u8 _
theorem and_u8_lit(x:BitVec 8)(m:Nat):bits .and .u8 (bv x) (no_index (@OfNat.ofNat Int m instOfNat))=bv (x&&&BitVec.ofNat 8 m):=by
 show IntKind.u8.wrap (bv (BitVec.ofInt 8 (bv x)&&&BitVec.ofInt 8 (@OfNat.ofNat Int m instOfNat)))=_
 rw[ofInt_u8v,ofInt_u8l];exact back_u8 _
theorem and_u8_litl(x:BitVec 8)(m:Nat):bits .and .u8 (no_index (@OfNat.ofNat Int m instOfNat)) (bv x)=bv (BitVec.ofNat 8 m&&&x):=by
 show IntKind.u8.wrap (bv (BitVec.ofInt 8 (@OfNat.ofNat Int m instOfNat)&&&BitVec.ofInt 8 (bv x)))=_
 rw[ofInt_u8v,ofInt_u8l];exact back_u8 _
theorem andNot_u8(x y:BitVec 8):bits .andNot .u8 (bv x) (bv y)=bv (x&&& ~~~(y)):=by
 show IntKind.u8.wrap (bv (BitVec.ofInt 8 (bv x)&&& ~~~(BitVec.ofInt 8 (bv y))))=_
 rw[ofInt_u8v,ofInt_u8v];exact back_u8 _
theorem andNot_u8_lit(x:BitVec 8)(m:Nat):bits .andNot .u8 (bv x) (no_index (@OfNat.ofNat Int m instOfNat))=bv (x&&& ~~~(BitVec.ofNat 8 m)):=by
 show IntKind.u8.wrap (bv (BitVec.ofInt 8 (bv x)&&& ~~~(BitVec.ofInt 8 (@OfNat.ofNat Int m instOfNat))))=_
 rw[ofInt_u8v,ofInt_u8l];exact back_u8 _
theorem andNot_u8_litl(x:BitVec 8)(m:Nat):bits .andNot .u8 (no_index (@OfNat.ofNat Int m instOfNat)) (bv x)=bv (BitVec.ofNat 8 m&&& ~~~(x)):=by
 show IntKind.u8.wrap (bv (BitVec.ofInt 8 (@OfNat.ofNat Int m instOfNat)&&& ~~~(BitVec.ofInt 8 (bv x))))=_
 rw[ofInt_u8v,ofInt_u8l];exact back_u8 _
theorem bshl_u8(t:TypeId)(x:BitVec 8)(yk:IntKind)(n:Nat):binOp .shl t (.int .u8 (bv x)) (.int yk (n:Int))=pure (.int .u8 (bv (x<<<n))):=by
 rw[binOp_shl]
 have e:IntKind.u8.wrap (bv x*2^(min n 8))=bv (x<<<n):=by
  rw[wrap_u8v];unfold bv;rw[BitVec.toNat_shiftLeft];exact cast_shl x.toNat n 8
 unfold Op.shift
 rw[if_neg (by omega)]
 simp only[Int.toNat_natCast]
 rw[show IntKind.u8.bits=8 from rfl,e]
theorem bshl_u8_lit(t:TypeId)(x:BitVec 8)(yk:IntKind)(m:Nat):binOp .shl t (.int .u8 (bv x)) (.int yk (no_index (@OfNat.ofNat Int m instOfNat)))=pure (.int .u8 (bv (x<<<m))):=bshl_u8 t x yk m
theorem bshl_u8_bv{q:Nat}(t:TypeId)(x:BitVec 8)(yk:IntKind)(y:BitVec q):binOp .shl t (.int .u8 (bv x)) (.int yk (bv y))=pure (.int .u8 (bv (x<<<y.toNat))):=bshl_u8 t x yk y.toNat
theorem bshl_u8_mul(t:TypeId)(x:BitVec 8)(yk:IntKind)(m j:Nat):binOp .shl t (.int .u8 (bv x)) (.int yk ((no_index (@OfNat.ofNat Int m instOfNat))*(j:Int)))=pure (.int .u8 (bv (x<<<(m*j)))):=by
 have:=bshl_u8 t x yk (m*j)
 rw[Int.natCast_mul]at this
 exact this
theorem bshr_u8(t:TypeId)(x:BitVec 8)(yk:IntKind)(n:Nat):binOp .shr t (.int .u8 (bv x)) (.int yk (n:Int))=pure (.int .u8 (bv (x>>>n))):=by
 rw[binOp_shr]
 have e:(bv x).fdiv (2^(min n 8))=bv (x>>>n):=by
  unfold bv;rw[BitVec.toNat_ushiftRight];exact cast_shr x.toNat n 8 x.isLt
 unfold Op.shift
 rw[if_neg (by omega)]
 simp only[Int.toNat_natCast]
 rw[show IntKind.u8.bits=8 from rfl,e]
theorem bshr_u8_lit(t:TypeId)(x:BitVec 8)(yk:IntKind)(m:Nat):binOp .shr t (.int .u8 (bv x)) (.int yk (no_index (@OfNat.ofNat Int m instOfNat)))=pure (.int .u8 (bv (x>>>m))):=bshr_u8 t x yk m
theorem bshr_u8_bv{q:Nat}(t:TypeId)(x:BitVec 8)(yk:IntKind)(y:BitVec q):binOp .shr t (.int .u8 (bv x)) (.int yk (bv y))=pure (.int .u8 (bv (x>>>y.toNat))):=bshr_u8 t x yk y.toNat
theorem bshr_u8_mul(t:TypeId)(x:BitVec 8)(yk:IntKind)(m j:Nat):binOp .shr t (.int .u8 (bv x)) (.int yk ((no_index (@OfNat.ofNat Int m instOfNat))*(j:Int)))=pure (.int .u8 (bv (x>>>(m*j)))):=by
 have:=bshr_u8 t x yk (m*j)
 rw[Int.natCast_mul]at this
 exact this
theorem conv_16_8(x:BitVec 16):IntKind.u8.wrap (bv x)=bv (x.setWidth 8):=by rw[wrap_u8v];unfold bv;rw[BitVec.toNat_setWidth];simp
theorem convm_16_8(x:BitVec 16):bv x % 256=bv (x.setWidth 8):=by unfold bv;rw[BitVec.toNat_setWidth];simp
theorem conv_32_8(x:BitVec 32):IntKind.u8.wrap (bv x)=bv (x.setWidth 8):=by rw[wrap_u8v];unfold bv;rw[BitVec.toNat_setWidth];simp
theorem convm_32_8(x:BitVec 32):bv x % 256=bv (x.setWidth 8):=by unfold bv;rw[BitVec.toNat_setWidth];simp
theorem conv_64_8(x:BitVec 64):IntKind.u8.wrap (bv x)=bv (x.setWidth 8):=by rw[wrap_u8v];unfold bv;rw[BitVec.toNat_setWidth];simp
theorem convm_64_8(x:BitVec 64):bv x % 256=bv (x.setWidth 8):=by unfold bv;rw[BitVec.toNat_setWidth];simp
theorem ofInt_u16v(x:BitVec 16):BitVec.ofInt 16 (bv x)=x:=by
 unfold bv
 apply BitVec.eq_of_toNat_eq
 have:=x.isLt
 rw[BitVec.ofInt_natCast,BitVec.toNat_ofNat];exact Nat.mod_eq_of_lt (by omega)
theorem ofInt_u16l(m:Nat):BitVec.ofInt 16 (@OfNat.ofNat Int m instOfNat)=BitVec.ofNat 16 m:=by
 show BitVec.ofInt 16 ((m:Nat):Int)=_
 rw[BitVec.ofInt_natCast]
theorem wrap_u16v(n:Int):IntKind.u16.wrap n=n % 65536:=by simp[IntKind.wrap,IntKind.bits,IntKind.signed]
theorem back_u16(r:BitVec 16):IntKind.u16.wrap (bv r)=bv r:=by rw[wrap_u16v];unfold bv;omega
theorem mod_u16(r:BitVec 16):bv r % 65536=bv r:=by unfold bv;omega
theorem add_u16(x y:BitVec 16):(bv x+bv y) % 65536=bv (x+y):=by unfold bv;rw[BitVec.toNat_add];omega
theorem addw_u16(x y:BitVec 16):IntKind.u16.wrap (bv x+bv y)=bv (x+y):=by rw[wrap_u16v,add_u16]
theorem add_u16_lit(x:BitVec 16)(m:Nat):(bv x+(no_index (@OfNat.ofNat Int m instOfNat))) % 65536=bv (x+BitVec.ofNat 16 m):=by
 show(bv x+((m:Nat):Int)) % 65536=_
 unfold bv;rw[BitVec.toNat_add,BitVec.toNat_ofNat];simp
theorem addw_u16_lit(x:BitVec 16)(m:Nat):IntKind.u16.wrap (bv x+(no_index (@OfNat.ofNat Int m instOfNat)))=bv (x+BitVec.ofNat 16 m):=by rw[wrap_u16v];exact add_u16_lit x m
theorem add_u16_litl(x:BitVec 16)(m:Nat):((no_index (@OfNat.ofNat Int m instOfNat))+bv x) % 65536=bv (BitVec.ofNat 16 m+x):=by
 show(((m:Nat):Int)+bv x) % 65536=_
 unfold bv;rw[BitVec.toNat_add,BitVec.toNat_ofNat];simp
theorem addw_u16_litl(x:BitVec 16)(m:Nat):IntKind.u16.wrap ((no_index (@OfNat.ofNat Int m instOfNat))+bv x)=bv (BitVec.ofNat 16 m+x):=by rw[wrap_u16v];exact add_u16_litl x m
theorem sub_u16(x y:BitVec 16):(bv x-bv y) % 65536=bv (x-y):=by unfold bv;rw[BitVec.toNat_sub];omega
theorem subw_u16(x y:BitVec 16):IntKind.u16.wrap (bv x-bv y)=bv (x-y):=by rw[wrap_u16v,sub_u16]
theorem sub_u16_lit(x:BitVec 16)(m:Nat):(bv x-(no_index (@OfNat.ofNat Int m instOfNat))) % 65536=bv (x-BitVec.ofNat 16 m):=by
 show(bv x-((m:Nat):Int)) % 65536=_
 unfold bv;rw[BitVec.toNat_sub,BitVec.toNat_ofNat];omega
theorem subw_u16_lit(x:BitVec 16)(m:Nat):IntKind.u16.wrap (bv x-(no_index (@OfNat.ofNat Int m instOfNat)))=bv (x-BitVec.ofNat 16 m):=by rw[wrap_u16v];exact sub_u16_lit x m
theorem sub_u16_litl(x:BitVec 16)(m:Nat):((no_index (@OfNat.ofNat Int m instOfNat))-bv x) % 65536=bv (BitVec.ofNat 16 m-x):=by
 show(((m:Nat):Int)-bv x) % 65536=_
 unfold bv;rw[BitVec.toNat_sub,BitVec.toNat_ofNat];omega
theorem subw_u16_litl(x:BitVec 16)(m:Nat):IntKind.u16.wrap ((no_index (@OfNat.ofNat Int m instOfNat))-bv x)=bv (BitVec.ofNat 16 m-x):=by rw[wrap_u16v];exact sub_u16_litl x m
theorem mul_u16(x y:BitVec 16):(bv x*bv y) % 65536=bv (x*y):=by unfold bv;rw[BitVec.toNat_mul];simp
theorem mulw_u16(x y:BitVec 16):IntKind.u16.wrap (bv x*bv y)=bv (x*y):=by rw[wrap_u16v,mul_u16]
theorem mul_u16_lit(x:BitVec 16)(m:Nat):(bv x*(no_index (@OfNat.ofNat Int m instOfNat))) % 65536=bv (x*BitVec.ofNat 16 m):=by
 show(bv x*((m:Nat):Int)) % 65536=_
 unfold bv;rw[BitVec.toNat_mul,BitVec.toNat_ofNat];simp
theorem mulw_u16_lit(x:BitVec 16)(m:Nat):IntKind.u16.wrap (bv x*(no_index (@OfNat.ofNat Int m instOfNat)))=bv (x*BitVec.ofNat 16 m):=by rw[wrap_u16v];exact mul_u16_lit x m
theorem mul_u16_litl(x:BitVec 16)(m:Nat):((no_index (@OfNat.ofNat Int m instOfNat))*bv x) % 65536=bv (BitVec.ofNat 16 m*x):=by
 show(((m:Nat):Int)*bv x) % 65536=_
 unfold bv;rw[BitVec.toNat_mul,BitVec.toNat_ofNat];simp
theorem mulw_u16_litl(x:BitVec 16)(m:Nat):IntKind.u16.wrap ((no_index (@OfNat.ofNat Int m instOfNat))*bv x)=bv (BitVec.ofNat 16 m*x):=by rw[wrap_u16v];exact mul_u16_litl x m
theorem xor_u16(x y:BitVec 16):bits .xor .u16 (bv x) (bv y)=bv (x^^^y):=by
 show IntKind.u16.wrap (bv (BitVec.ofInt 16 (bv x)^^^BitVec.ofInt 16 (bv y)))=_
 rw[ofInt_u16v,ofInt_u16v];exact back_u16 _
theorem xor_u16_lit(x:BitVec 16)(m:Nat):bits .xor .u16 (bv x) (no_index (@OfNat.ofNat Int m instOfNat))=bv (x^^^BitVec.ofNat 16 m):=by
 show IntKind.u16.wrap (bv (BitVec.ofInt 16 (bv x)^^^BitVec.ofInt 16 (@OfNat.ofNat Int m instOfNat)))=_
 rw[ofInt_u16v,ofInt_u16l];exact back_u16 _
theorem xor_u16_litl(x:BitVec 16)(m:Nat):bits .xor .u16 (no_index (@OfNat.ofNat Int m instOfNat)) (bv x)=bv (BitVec.ofNat 16 m^^^x):=by
 show IntKind.u16.wrap (bv (BitVec.ofInt 16 (@OfNat.ofNat Int m instOfNat)^^^BitVec.ofInt 16 (bv x)))=_
 rw[ofInt_u16v,ofInt_u16l];exact back_u16 _
theorem or_u16(x y:BitVec 16):bits .or .u16 (bv x) (bv y)=bv (x|||y):=by
 show IntKind.u16.wrap (bv (BitVec.ofInt 16 (bv x)|||BitVec.ofInt 16 (bv y)))=_
 rw[ofInt_u16v,ofInt_u16v];exact back_u16 _
theorem or_u16_lit(x:BitVec 16)(m:Nat):bits .or .u16 (bv x) (no_index (@OfNat.ofNat Int m instOfNat))=bv (x|||BitVec.ofNat 16 m):=by
 show IntKind.u16.wrap (bv (BitVec.ofInt 16 (bv x)|||BitVec.ofInt 16 (@OfNat.ofNat Int m instOfNat)))=_
 rw[ofInt_u16v,ofInt_u16l];exact back_u16 _
theorem or_u16_litl(x:BitVec 16)(m:Nat):bits .or .u16 (no_index (@OfNat.ofNat Int m instOfNat)) (bv x)=bv (BitVec.ofNat 16 m|||x):=by
 show IntKind.u16.wrap (bv (BitVec.ofInt 16 (@OfNat.ofNat Int m instOfNat)|||BitVec.ofInt 16 (bv x)))=_
 rw[ofInt_u16v,ofInt_u16l];exact back_u16 _
theorem and_u16(x y:BitVec 16):bits .and .u16 (bv x) (bv y)=bv (x&&&y):=by
 show IntKind.u16.wrap (bv (BitVec.ofInt 16 (bv x)&&&BitVec.ofInt 16 (bv y)))=_
 rw[ofInt_u16v,ofInt_u16v];exact back_u16 _
theorem and_u16_lit(x:BitVec 16)(m:Nat):bits .and .u16 (bv x) (no_index (@OfNat.ofNat Int m instOfNat))=bv (x&&&BitVec.ofNat 16 m):=by
 show IntKind.u16.wrap (bv (BitVec.ofInt 16 (bv x)&&&BitVec.ofInt 16 (@OfNat.ofNat Int m instOfNat)))=_
 rw[ofInt_u16v,ofInt_u16l];exact back_u16 _
theorem and_u16_litl(x:BitVec 16)(m:Nat):bits .and .u16 (no_index (@OfNat.ofNat Int m instOfNat)) (bv x)=bv (BitVec.ofNat 16 m&&&x):=by
 show IntKind.u16.wrap (bv (BitVec.ofInt 16 (@OfNat.ofNat Int m instOfNat)&&&BitVec.ofInt 16 (bv x)))=_
 rw[ofInt_u16v,ofInt_u16l];exact back_u16 _
theorem andNot_u16(x y:BitVec 16):bits .andNot .u16 (bv x) (bv y)=bv (x&&& ~~~(y)):=by
 show IntKind.u16.wrap (bv (BitVec.ofInt 16 (bv x)&&& ~~~(BitVec.ofInt 16 (bv y))))=_
 rw[ofInt_u16v,ofInt_u16v];exact back_u16 _
theorem andNot_u16_lit(x:BitVec 16)(m:Nat):bits .andNot .u16 (bv x) (no_index (@OfNat.ofNat Int m instOfNat))=bv (x&&& ~~~(BitVec.ofNat 16 m)):=by
 show IntKind.u16.wrap (bv (BitVec.ofInt 16 (bv x)&&& ~~~(BitVec.ofInt 16 (@OfNat.ofNat Int m instOfNat))))=_
 rw[ofInt_u16v,ofInt_u16l];exact back_u16 _
theorem andNot_u16_litl(x:BitVec 16)(m:Nat):bits .andNot .u16 (no_index (@OfNat.ofNat Int m instOfNat)) (bv x)=bv (BitVec.ofNat 16 m&&& ~~~(x)):=by
 show IntKind.u16.wrap (bv (BitVec.ofInt 16 (@OfNat.ofNat Int m instOfNat)&&& ~~~(BitVec.ofInt 16 (bv x))))=_
 rw[ofInt_u16v,ofInt_u16l];exact back_u16 _
theorem bshl_u16(t:TypeId)(x:BitVec 16)(yk:IntKind)(n:Nat):binOp .shl t (.int .u16 (bv x)) (.int yk (n:Int))=pure (.int .u16 (bv (x<<<n))):=by
 rw[binOp_shl]
 have e:IntKind.u16.wrap (bv x*2^(min n 16))=bv (x<<<n):=by
  rw[wrap_u16v];unfold bv;rw[BitVec.toNat_shiftLeft];exact cast_shl x.toNat n 16
 unfold Op.shift
 rw[if_neg (by omega)]
 simp only[Int.toNat_natCast]
 rw[show IntKind.u16.bits=16 from rfl,e]
theorem bshl_u16_lit(t:TypeId)(x:BitVec 16)(yk:IntKind)(m:Nat):binOp .shl t (.int .u16 (bv x)) (.int yk (no_index (@OfNat.ofNat Int m instOfNat)))=pure (.int .u16 (bv (x<<<m))):=bshl_u16 t x yk m
theorem bshl_u16_bv{q:Nat}(t:TypeId)(x:BitVec 16)(yk:IntKind)(y:BitVec q):binOp .shl t (.int .u16 (bv x)) (.int yk (bv y))=pure (.int .u16 (bv (x<<<y.toNat))):=bshl_u16 t x yk y.toNat
theorem bshl_u16_mul(t:TypeId)(x:BitVec 16)(yk:IntKind)(m j:Nat):binOp .shl t (.int .u16 (bv x)) (.int yk ((no_index (@OfNat.ofNat Int m instOfNat))*(j:Int)))=pure (.int .u16 (bv (x<<<(m*j)))):=by
 have:=bshl_u16 t x yk (m*j)
 rw[Int.natCast_mul]at this
 exact this
theorem bshr_u16(t:TypeId)(x:BitVec 16)(yk:IntKind)(n:Nat):binOp .shr t (.int .u16 (bv x)) (.int yk (n:Int))=pure (.int .u16 (bv (x>>>n))):=by
 rw[binOp_shr]
 have e:(bv x).fdiv (2^(min n 16))=bv (x>>>n):=by
  unfold bv;rw[BitVec.toNat_ushiftRight];exact cast_shr x.toNat n 16 x.isLt
 unfold Op.shift
 rw[if_neg (by omega)]
 simp only[Int.toNat_natCast]
 rw[show IntKind.u16.bits=16 from rfl,e]
theorem bshr_u16_lit(t:TypeId)(x:BitVec 16)(yk:IntKind)(m:Nat):binOp .shr t (.int .u16 (bv x)) (.int yk (no_index (@OfNat.ofNat Int m instOfNat)))=pure (.int .u16 (bv (x>>>m))):=bshr_u16 t x yk m
theorem bshr_u16_bv{q:Nat}(t:TypeId)(x:BitVec 16)(yk:IntKind)(y:BitVec q):binOp .shr t (.int .u16 (bv x)) (.int yk (bv y))=pure (.int .u16 (bv (x>>>y.toNat))):=bshr_u16 t x yk y.toNat
theorem bshr_u16_mul(t:TypeId)(x:BitVec 16)(yk:IntKind)(m j:Nat):binOp .shr t (.int .u16 (bv x)) (.int yk ((no_index (@OfNat.ofNat Int m instOfNat))*(j:Int)))=pure (.int .u16 (bv (x>>>(m*j)))):=by
 have:=bshr_u16 t x yk (m*j)
 rw[Int.natCast_mul]at this
 exact this
theorem conv_8_16(x:BitVec 8):IntKind.u16.wrap (bv x)=bv (x.setWidth 16):=by rw[wrap_u16v];unfold bv;rw[BitVec.toNat_setWidth];simp
theorem conv_32_16(x:BitVec 32):IntKind.u16.wrap (bv x)=bv (x.setWidth 16):=by rw[wrap_u16v];unfold bv;rw[BitVec.toNat_setWidth];simp
theorem convm_32_16(x:BitVec 32):bv x % 65536=bv (x.setWidth 16):=by unfold bv;rw[BitVec.toNat_setWidth];simp
theorem conv_64_16(x:BitVec 64):IntKind.u16.wrap (bv x)=bv (x.setWidth 16):=by rw[wrap_u16v];unfold bv;rw[BitVec.toNat_setWidth];simp
theorem convm_64_16(x:BitVec 64):bv x % 65536=bv (x.setWidth 16):=by unfold bv;rw[BitVec.toNat_setWidth];simp
theorem ofInt_u32v(x:BitVec 32):BitVec.ofInt 32 (bv x)=x:=by
 unfold bv
 apply BitVec.eq_of_toNat_eq
 have:=x.isLt
 rw[BitVec.ofInt_natCast,BitVec.toNat_ofNat];exact Nat.mod_eq_of_lt (by omega)
theorem ofInt_u32l(m:Nat):BitVec.ofInt 32 (@OfNat.ofNat Int m instOfNat)=BitVec.ofNat 32 m:=by
 show BitVec.ofInt 32 ((m:Nat):Int)=_
 rw[BitVec.ofInt_natCast]
theorem wrap_u32v(n:Int):IntKind.u32.wrap n=n % 4294967296:=by simp[IntKind.wrap,IntKind.bits,IntKind.signed]
theorem back_u32(r:BitVec 32):IntKind.u32.wrap (bv r)=bv r:=by rw[wrap_u32v];unfold bv;omega
theorem mod_u32(r:BitVec 32):bv r % 4294967296=bv r:=by unfold bv;omega
theorem add_u32(x y:BitVec 32):(bv x+bv y) % 4294967296=bv (x+y):=by unfold bv;rw[BitVec.toNat_add];omega
theorem addw_u32(x y:BitVec 32):IntKind.u32.wrap (bv x+bv y)=bv (x+y):=by rw[wrap_u32v,add_u32]
theorem add_u32_lit(x:BitVec 32)(m:Nat):(bv x+(no_index (@OfNat.ofNat Int m instOfNat))) % 4294967296=bv (x+BitVec.ofNat 32 m):=by
 show(bv x+((m:Nat):Int)) % 4294967296=_
 unfold bv;rw[BitVec.toNat_add,BitVec.toNat_ofNat];simp
theorem addw_u32_lit(x:BitVec 32)(m:Nat):IntKind.u32.wrap (bv x+(no_index (@OfNat.ofNat Int m instOfNat)))=bv (x+BitVec.ofNat 32 m):=by rw[wrap_u32v];exact add_u32_lit x m
theorem add_u32_litl(x:BitVec 32)(m:Nat):((no_index (@OfNat.ofNat Int m instOfNat))+bv x) % 4294967296=bv (BitVec.ofNat 32 m+x):=by
 show(((m:Nat):Int)+bv x) % 4294967296=_
 unfold bv;rw[BitVec.toNat_add,BitVec.toNat_ofNat];simp
theorem addw_u32_litl(x:BitVec 32)(m:Nat):IntKind.u32.wrap ((no_index (@OfNat.ofNat Int m instOfNat))+bv x)=bv (BitVec.ofNat 32 m+x):=by rw[wrap_u32v];exact add_u32_litl x m
theorem sub_u32(x y:BitVec 32):(bv x-bv y) % 4294967296=bv (x-y):=by unfold bv;rw[BitVec.toNat_sub];omega
theorem subw_u32(x y:BitVec 32):IntKind.u32.wrap (bv x-bv y)=bv (x-y):=by rw[wrap_u32v,sub_u32]
theorem sub_u32_lit(x:BitVec 32)(m:Nat):(bv x-(no_index (@OfNat.ofNat Int m instOfNat))) % 4294967296=bv (x-BitVec.ofNat 32 m):=by
 show(bv x-((m:Nat):Int)) % 4294967296=_
 unfold bv;rw[BitVec.toNat_sub,BitVec.toNat_ofNat];omega
theorem subw_u32_lit(x:BitVec 32)(m:Nat):IntKind.u32.wrap (bv x-(no_index (@OfNat.ofNat Int m instOfNat)))=bv (x-BitVec.ofNat 32 m):=by rw[wrap_u32v];exact sub_u32_lit x m
theorem sub_u32_litl(x:BitVec 32)(m:Nat):((no_index (@OfNat.ofNat Int m instOfNat))-bv x) % 4294967296=bv (BitVec.ofNat 32 m-x):=by
 show(((m:Nat):Int)-bv x) % 4294967296=_
 unfold bv;rw[BitVec.toNat_sub,BitVec.toNat_ofNat];omega
theorem subw_u32_litl(x:BitVec 32)(m:Nat):IntKind.u32.wrap ((no_index (@OfNat.ofNat Int m instOfNat))-bv x)=bv (BitVec.ofNat 32 m-x):=by rw[wrap_u32v];exact sub_u32_litl x m
theorem mul_u32(x y:BitVec 32):(bv x*bv y) % 4294967296=bv (x*y):=by unfold bv;rw[BitVec.toNat_mul];simp
theorem mulw_u32(x y:BitVec 32):IntKind.u32.wrap (bv x*bv y)=bv (x*y):=by rw[wrap_u32v,mul_u32]
theorem mul_u32_lit(x:BitVec 32)(m:Nat):(bv x*(no_index (@OfNat.ofNat Int m instOfNat))) % 4294967296=bv (x*BitVec.ofNat 32 m):=by
 show(bv x*((m:Nat):Int)) % 4294967296=_
 unfold bv;rw[BitVec.toNat_mul,BitVec.toNat_ofNat];simp
theorem mulw_u32_lit(x:BitVec 32)(m:Nat):IntKind.u32.wrap (bv x*(no_index (@OfNat.ofNat Int m instOfNat)))=bv (x*BitVec.ofNat 32 m):=by rw[wrap_u32v];exact mul_u32_lit x m
theorem mul_u32_litl(x:BitVec 32)(m:Nat):((no_index (@OfNat.ofNat Int m instOfNat))*bv x) % 4294967296=bv (BitVec.ofNat 32 m*x):=by
 show(((m:Nat):Int)*bv x) % 4294967296=_
 unfold bv;rw[BitVec.toNat_mul,BitVec.toNat_ofNat];simp
theorem mulw_u32_litl(x:BitVec 32)(m:Nat):IntKind.u32.wrap ((no_index (@OfNat.ofNat Int m instOfNat))*bv x)=bv (BitVec.ofNat 32 m*x):=by rw[wrap_u32v];exact mul_u32_litl x m
theorem xor_u32(x y:BitVec 32):bits .xor .u32 (bv x) (bv y)=bv (x^^^y):=by
 show IntKind.u32.wrap (bv (BitVec.ofInt 32 (bv x)^^^BitVec.ofInt 32 (bv y)))=_
 rw[ofInt_u32v,ofInt_u32v];exact back_u32 _
theorem xor_u32_lit(x:BitVec 32)(m:Nat):bits .xor .u32 (bv x) (no_index (@OfNat.ofNat Int m instOfNat))=bv (x^^^BitVec.ofNat 32 m):=by
 show IntKind.u32.wrap (bv (BitVec.ofInt 32 (bv x)^^^BitVec.ofInt 32 (@OfNat.ofNat Int m instOfNat)))=_
 rw[ofInt_u32v,ofInt_u32l];exact back_u32 _
theorem xor_u32_litl(x:BitVec 32)(m:Nat):bits .xor .u32 (no_index (@OfNat.ofNat Int m instOfNat)) (bv x)=bv (BitVec.ofNat 32 m^^^x):=by
 show IntKind.u32.wrap (bv (BitVec.ofInt 32 (@OfNat.ofNat Int m instOfNat)^^^BitVec.ofInt 32 (bv x)))=_
 rw[ofInt_u32v,ofInt_u32l];exact back_u32 _
theorem or_u32(x y:BitVec 32):bits .or .u32 (bv x) (bv y)=bv (x|||y):=by
 show IntKind.u32.wrap (bv (BitVec.ofInt 32 (bv x)|||BitVec.ofInt 32 (bv y)))=_
 rw[ofInt_u32v,ofInt_u32v];exact back_u32 _
theorem or_u32_lit(x:BitVec 32)(m:Nat):bits .or .u32 (bv x) (no_index (@OfNat.ofNat Int m instOfNat))=bv (x|||BitVec.ofNat 32 m):=by
 show IntKind.u32.wrap (bv (BitVec.ofInt 32 (bv x)|||BitVec.ofInt 32 (@OfNat.ofNat Int m instOfNat)))=_
 rw[ofInt_u32v,ofInt_u32l];exact back_u32 _
theorem or_u32_litl(x:BitVec 32)(m:Nat):bits .or .u32 (no_index (@OfNat.ofNat Int m instOfNat)) (bv x)=bv (BitVec.ofNat 32 m|||x):=by
 show IntKind.u32.wrap (bv (BitVec.ofInt 32 (@OfNat.ofNat Int m instOfNat)|||BitVec.ofInt 32 (bv x)))=_
 rw[ofInt_u32v,ofInt_u32l];exact back_u32 _
theorem and_u32(x y:BitVec 32):bits .and .u32 (bv x) (bv y)=bv (x&&&y):=by
 show IntKind.u32.wrap (bv (BitVec.ofInt 32 (bv x)&&&BitVec.ofInt 32 (bv y)))=_
 rw[ofInt_u32v,ofInt_u32v];exact back_u32 _
theorem and_u32_lit(x:BitVec 32)(m:Nat):bits .and .u32 (bv x) (no_index (@OfNat.ofNat Int m instOfNat))=bv (x&&&BitVec.ofNat 32 m):=by
 show IntKind.u32.wrap (bv (BitVec.ofInt 32 (bv x)&&&BitVec.ofInt 32 (@OfNat.ofNat Int m instOfNat)))=_
 rw[ofInt_u32v,ofInt_u32l];exact back_u32 _
theorem and_u32_litl(x:BitVec 32)(m:Nat):bits .and .u32 (no_index (@OfNat.ofNat Int m instOfNat)) (bv x)=bv (BitVec.ofNat 32 m&&&x):=by
 show IntKind.u32.wrap (bv (BitVec.ofInt 32 (@OfNat.ofNat Int m instOfNat)&&&BitVec.ofInt 32 (bv x)))=_
 rw[ofInt_u32v,ofInt_u32l];exact back_u32 _
theorem andNot_u32(x y:BitVec 32):bits .andNot .u32 (bv x) (bv y)=bv (x&&& ~~~(y)):=by
 show IntKind.u32.wrap (bv (BitVec.ofInt 32 (bv x)&&& ~~~(BitVec.ofInt 32 (bv y))))=_
 rw[ofInt_u32v,ofInt_u32v];exact back_u32 _
theorem andNot_u32_lit(x:BitVec 32)(m:Nat):bits .andNot .u32 (bv x) (no_index (@OfNat.ofNat Int m instOfNat))=bv (x&&& ~~~(BitVec.ofNat 32 m)):=by
 show IntKind.u32.wrap (bv (BitVec.ofInt 32 (bv x)&&& ~~~(BitVec.ofInt 32 (@OfNat.ofNat Int m instOfNat))))=_
 rw[ofInt_u32v,ofInt_u32l];exact back_u32 _
theorem andNot_u32_litl(x:BitVec 32)(m:Nat):bits .andNot .u32 (no_index (@OfNat.ofNat Int m instOfNat)) (bv x)=bv (BitVec.ofNat 32 m&&& ~~~(x)):=by
 show IntKind.u32.wrap (bv (BitVec.ofInt 32 (@OfNat.ofNat Int m instOfNat)&&& ~~~(BitVec.ofInt 32 (bv x))))=_
 rw[ofInt_u32v,ofInt_u32l];exact back_u32 _
theorem bshl_u32(t:TypeId)(x:BitVec 32)(yk:IntKind)(n:Nat):binOp .shl t (.int .u32 (bv x)) (.int yk (n:Int))=pure (.int .u32 (bv (x<<<n))):=by
 rw[binOp_shl]
 have e:IntKind.u32.wrap (bv x*2^(min n 32))=bv (x<<<n):=by
  rw[wrap_u32v];unfold bv;rw[BitVec.toNat_shiftLeft];exact cast_shl x.toNat n 32
 unfold Op.shift
 rw[if_neg (by omega)]
 simp only[Int.toNat_natCast]
 rw[show IntKind.u32.bits=32 from rfl,e]
theorem bshl_u32_lit(t:TypeId)(x:BitVec 32)(yk:IntKind)(m:Nat):binOp .shl t (.int .u32 (bv x)) (.int yk (no_index (@OfNat.ofNat Int m instOfNat)))=pure (.int .u32 (bv (x<<<m))):=bshl_u32 t x yk m
theorem bshl_u32_bv{q:Nat}(t:TypeId)(x:BitVec 32)(yk:IntKind)(y:BitVec q):binOp .shl t (.int .u32 (bv x)) (.int yk (bv y))=pure (.int .u32 (bv (x<<<y.toNat))):=bshl_u32 t x yk y.toNat
theorem bshl_u32_mul(t:TypeId)(x:BitVec 32)(yk:IntKind)(m j:Nat):binOp .shl t (.int .u32 (bv x)) (.int yk ((no_index (@OfNat.ofNat Int m instOfNat))*(j:Int)))=pure (.int .u32 (bv (x<<<(m*j)))):=by
 have:=bshl_u32 t x yk (m*j)
 rw[Int.natCast_mul]at this
 exact this
theorem bshr_u32(t:TypeId)(x:BitVec 32)(yk:IntKind)(n:Nat):binOp .shr t (.int .u32 (bv x)) (.int yk (n:Int))=pure (.int .u32 (bv (x>>>n))):=by
 rw[binOp_shr]
 have e:(bv x).fdiv (2^(min n 32))=bv (x>>>n):=by
  unfold bv;rw[BitVec.toNat_ushiftRight];exact cast_shr x.toNat n 32 x.isLt
 unfold Op.shift
 rw[if_neg (by omega)]
 simp only[Int.toNat_natCast]
 rw[show IntKind.u32.bits=32 from rfl,e]
theorem bshr_u32_lit(t:TypeId)(x:BitVec 32)(yk:IntKind)(m:Nat):binOp .shr t (.int .u32 (bv x)) (.int yk (no_index (@OfNat.ofNat Int m instOfNat)))=pure (.int .u32 (bv (x>>>m))):=bshr_u32 t x yk m
theorem bshr_u32_bv{q:Nat}(t:TypeId)(x:BitVec 32)(yk:IntKind)(y:BitVec q):binOp .shr t (.int .u32 (bv x)) (.int yk (bv y))=pure (.int .u32 (bv (x>>>y.toNat))):=bshr_u32 t x yk y.toNat
theorem bshr_u32_mul(t:TypeId)(x:BitVec 32)(yk:IntKind)(m j:Nat):binOp .shr t (.int .u32 (bv x)) (.int yk ((no_index (@OfNat.ofNat Int m instOfNat))*(j:Int)))=pure (.int .u32 (bv (x>>>(m*j)))):=by
 have:=bshr_u32 t x yk (m*j)
 rw[Int.natCast_mul]at this
 exact this
theorem conv_8_32(x:BitVec 8):IntKind.u32.wrap (bv x)=bv (x.setWidth 32):=by rw[wrap_u32v];unfold bv;rw[BitVec.toNat_setWidth];simp
theorem conv_16_32(x:BitVec 16):IntKind.u32.wrap (bv x)=bv (x.setWidth 32):=by rw[wrap_u32v];unfold bv;rw[BitVec.toNat_setWidth];simp
theorem conv_64_32(x:BitVec 64):IntKind.u32.wrap (bv x)=bv (x.setWidth 32):=by rw[wrap_u32v];unfold bv;rw[BitVec.toNat_setWidth];simp
theorem convm_64_32(x:BitVec 64):bv x % 4294967296=bv (x.setWidth 32):=by unfold bv;rw[BitVec.toNat_setWidth];simp
theorem ofint_u32(z:Int):IntKind.u32.wrap z=bv (BitVec.ofInt 32 z):=by
 rw[wrap_u32v];unfold bv;rw[BitVec.toNat_ofInt];omega
theorem ofInt_u64v(x:BitVec 64):BitVec.ofInt 64 (bv x)=x:=by
 unfold bv
 apply BitVec.eq_of_toNat_eq
 have:=x.isLt
 rw[BitVec.ofInt_natCast,BitVec.toNat_ofNat];exact Nat.mod_eq_of_lt (by omega)
theorem ofInt_u64l(m:Nat):BitVec.ofInt 64 (@OfNat.ofNat Int m instOfNat)=BitVec.ofNat 64 m:=by
 show BitVec.ofInt 64 ((m:Nat):Int)=_
 rw[BitVec.ofInt_natCast]
theorem wrap_u64v(n:Int):IntKind.u64.wrap n=n % 18446744073709551616:=by simp[IntKind.wrap,IntKind.bits,IntKind.signed]
theorem back_u64(r:BitVec 64):IntKind.u64.wrap (bv r)=bv r:=by rw[wrap_u64v];unfold bv;omega
theorem mod_u64(r:BitVec 64):bv r % 18446744073709551616=bv r:=by unfold bv;omega
theorem add_u64(x y:BitVec 64):(bv x+bv y) % 18446744073709551616=bv (x+y):=by unfold bv;rw[BitVec.toNat_add];omega
theorem addw_u64(x y:BitVec 64):IntKind.u64.wrap (bv x+bv y)=bv (x+y):=by rw[wrap_u64v,add_u64]
theorem add_u64_lit(x:BitVec 64)(m:Nat):(bv x+(no_index (@OfNat.ofNat Int m instOfNat))) % 18446744073709551616=bv (x+BitVec.ofNat 64 m):=by
 show(bv x+((m:Nat):Int)) % 18446744073709551616=_
 unfold bv;rw[BitVec.toNat_add,BitVec.toNat_ofNat];simp
theorem addw_u64_lit(x:BitVec 64)(m:Nat):IntKind.u64.wrap (bv x+(no_index (@OfNat.ofNat Int m instOfNat)))=bv (x+BitVec.ofNat 64 m):=by rw[wrap_u64v];exact add_u64_lit x m
theorem add_u64_litl(x:BitVec 64)(m:Nat):((no_index (@OfNat.ofNat Int m instOfNat))+bv x) % 18446744073709551616=bv (BitVec.ofNat 64 m+x):=by
 show(((m:Nat):Int)+bv x) % 18446744073709551616=_
 unfold bv;rw[BitVec.toNat_add,BitVec.toNat_ofNat];simp
theorem addw_u64_litl(x:BitVec 64)(m:Nat):IntKind.u64.wrap ((no_index (@OfNat.ofNat Int m instOfNat))+bv x)=bv (BitVec.ofNat 64 m+x):=by rw[wrap_u64v];exact add_u64_litl x m
theorem sub_u64(x y:BitVec 64):(bv x-bv y) % 18446744073709551616=bv (x-y):=by unfold bv;rw[BitVec.toNat_sub];omega
theorem subw_u64(x y:BitVec 64):IntKind.u64.wrap (bv x-bv y)=bv (x-y):=by rw[wrap_u64v,sub_u64]
theorem sub_u64_lit(x:BitVec 64)(m:Nat):(bv x-(no_index (@OfNat.ofNat Int m instOfNat))) % 18446744073709551616=bv (x-BitVec.ofNat 64 m):=by
 show(bv x-((m:Nat):Int)) % 18446744073709551616=_
 unfold bv;rw[BitVec.toNat_sub,BitVec.toNat_ofNat];omega
theorem subw_u64_lit(x:BitVec 64)(m:Nat):IntKind.u64.wrap (bv x-(no_index (@OfNat.ofNat Int m instOfNat)))=bv (x-BitVec.ofNat 64 m):=by rw[wrap_u64v];exact sub_u64_lit x m
theorem sub_u64_litl(x:BitVec 64)(m:Nat):((no_index (@OfNat.ofNat Int m instOfNat))-bv x) % 18446744073709551616=bv (BitVec.ofNat 64 m-x):=by
 show(((m:Nat):Int)-bv x) % 18446744073709551616=_
 unfold bv;rw[BitVec.toNat_sub,BitVec.toNat_ofNat];omega
theorem subw_u64_litl(x:BitVec 64)(m:Nat):IntKind.u64.wrap ((no_index (@OfNat.ofNat Int m instOfNat))-bv x)=bv (BitVec.ofNat 64 m-x):=by rw[wrap_u64v];exact sub_u64_litl x m
theorem mul_u64(x y:BitVec 64):(bv x*bv y) % 18446744073709551616=bv (x*y):=by unfold bv;rw[BitVec.toNat_mul];simp
theorem mulw_u64(x y:BitVec 64):IntKind.u64.wrap (bv x*bv y)=bv (x*y):=by rw[wrap_u64v,mul_u64]
theorem mul_u64_lit(x:BitVec 64)(m:Nat):(bv x*(no_index (@OfNat.ofNat Int m instOfNat))) % 18446744073709551616=bv (x*BitVec.ofNat 64 m):=by
 show(bv x*((m:Nat):Int)) % 18446744073709551616=_
 unfold bv;rw[BitVec.toNat_mul,BitVec.toNat_ofNat];simp
theorem mulw_u64_lit(x:BitVec 64)(m:Nat):IntKind.u64.wrap (bv x*(no_index (@OfNat.ofNat Int m instOfNat)))=bv (x*BitVec.ofNat 64 m):=by rw[wrap_u64v];exact mul_u64_lit x m
theorem mul_u64_litl(x:BitVec 64)(m:Nat):((no_index (@OfNat.ofNat Int m instOfNat))*bv x) % 18446744073709551616=bv (BitVec.ofNat 64 m*x):=by
 show(((m:Nat):Int)*bv x) % 18446744073709551616=_
 unfold bv;rw[BitVec.toNat_mul,BitVec.toNat_ofNat];simp
theorem mulw_u64_litl(x:BitVec 64)(m:Nat):IntKind.u64.wrap ((no_index (@OfNat.ofNat Int m instOfNat))*bv x)=bv (BitVec.ofNat 64 m*x):=by rw[wrap_u64v];exact mul_u64_litl x m
theorem xor_u64(x y:BitVec 64):bits .xor .u64 (bv x) (bv y)=bv (x^^^y):=by
 show IntKind.u64.wrap (bv (BitVec.ofInt 64 (bv x)^^^BitVec.ofInt 64 (bv y)))=_
 rw[ofInt_u64v,ofInt_u64v];exact back_u64 _
theorem xor_u64_lit(x:BitVec 64)(m:Nat):bits .xor .u64 (bv x) (no_index (@OfNat.ofNat Int m instOfNat))=bv (x^^^BitVec.ofNat 64 m):=by
 show IntKind.u64.wrap (bv (BitVec.ofInt 64 (bv x)^^^BitVec.ofInt 64 (@OfNat.ofNat Int m instOfNat)))=_
 rw[ofInt_u64v,ofInt_u64l];exact back_u64 _
theorem xor_u64_litl(x:BitVec 64)(m:Nat):bits .xor .u64 (no_index (@OfNat.ofNat Int m instOfNat)) (bv x)=bv (BitVec.ofNat 64 m^^^x):=by
 show IntKind.u64.wrap (bv (BitVec.ofInt 64 (@OfNat.ofNat Int m instOfNat)^^^BitVec.ofInt 64 (bv x)))=_
 rw[ofInt_u64v,ofInt_u64l];exact back_u64 _
theorem or_u64(x y:BitVec 64):bits .or .u64 (bv x) (bv y)=bv (x|||y):=by
 show IntKind.u64.wrap (bv (BitVec.ofInt 64 (bv x)|||BitVec.ofInt 64 (bv y)))=_
 rw[ofInt_u64v,ofInt_u64v];exact back_u64 _
theorem or_u64_lit(x:BitVec 64)(m:Nat):bits .or .u64 (bv x) (no_index (@OfNat.ofNat Int m instOfNat))=bv (x|||BitVec.ofNat 64 m):=by
 show IntKind.u64.wrap (bv (BitVec.ofInt 64 (bv x)|||BitVec.ofInt 64 (@OfNat.ofNat Int m instOfNat)))=_
 rw[ofInt_u64v,ofInt_u64l];exact back_u64 _
theorem or_u64_litl(x:BitVec 64)(m:Nat):bits .or .u64 (no_index (@OfNat.ofNat Int m instOfNat)) (bv x)=bv (BitVec.ofNat 64 m|||x):=by
 show IntKind.u64.wrap (bv (BitVec.ofInt 64 (@OfNat.ofNat Int m instOfNat)|||BitVec.ofInt 64 (bv x)))=_
 rw[ofInt_u64v,ofInt_u64l];exact back_u64 _
theorem and_u64(x y:BitVec 64):bits .and .u64 (bv x) (bv y)=bv (x&&&y):=by
 show IntKind.u64.wrap (bv (BitVec.ofInt 64 (bv x)&&&BitVec.ofInt 64 (bv y)))=_
 rw[ofInt_u64v,ofInt_u64v];exact back_u64 _
theorem and_u64_lit(x:BitVec 64)(m:Nat):bits .and .u64 (bv x) (no_index (@OfNat.ofNat Int m instOfNat))=bv (x&&&BitVec.ofNat 64 m):=by
 show IntKind.u64.wrap (bv (BitVec.ofInt 64 (bv x)&&&BitVec.ofInt 64 (@OfNat.ofNat Int m instOfNat)))=_
 rw[ofInt_u64v,ofInt_u64l];exact back_u64 _
theorem and_u64_litl(x:BitVec 64)(m:Nat):bits .and .u64 (no_index (@OfNat.ofNat Int m instOfNat)) (bv x)=bv (BitVec.ofNat 64 m&&&x):=by
 show IntKind.u64.wrap (bv (BitVec.ofInt 64 (@OfNat.ofNat Int m instOfNat)&&&BitVec.ofInt 64 (bv x)))=_
 rw[ofInt_u64v,ofInt_u64l];exact back_u64 _
theorem andNot_u64(x y:BitVec 64):bits .andNot .u64 (bv x) (bv y)=bv (x&&& ~~~(y)):=by
 show IntKind.u64.wrap (bv (BitVec.ofInt 64 (bv x)&&& ~~~(BitVec.ofInt 64 (bv y))))=_
 rw[ofInt_u64v,ofInt_u64v];exact back_u64 _
theorem andNot_u64_lit(x:BitVec 64)(m:Nat):bits .andNot .u64 (bv x) (no_index (@OfNat.ofNat Int m instOfNat))=bv (x&&& ~~~(BitVec.ofNat 64 m)):=by
 show IntKind.u64.wrap (bv (BitVec.ofInt 64 (bv x)&&& ~~~(BitVec.ofInt 64 (@OfNat.ofNat Int m instOfNat))))=_
 rw[ofInt_u64v,ofInt_u64l];exact back_u64 _
theorem andNot_u64_litl(x:BitVec 64)(m:Nat):bits .andNot .u64 (no_index (@OfNat.ofNat Int m instOfNat)) (bv x)=bv (BitVec.ofNat 64 m&&& ~~~(x)):=by
 show IntKind.u64.wrap (bv (BitVec.ofInt 64 (@OfNat.ofNat Int m instOfNat)&&& ~~~(BitVec.ofInt 64 (bv x))))=_
 rw[ofInt_u64v,ofInt_u64l];exact back_u64 _
theorem bshl_u64(t:TypeId)(x:BitVec 64)(yk:IntKind)(n:Nat):binOp .shl t (.int .u64 (bv x)) (.int yk (n:Int))=pure (.int .u64 (bv (x<<<n))):=by
 rw[binOp_shl]
 have e:IntKind.u64.wrap (bv x*2^(min n 64))=bv (x<<<n):=by
  rw[wrap_u64v];unfold bv;rw[BitVec.toNat_shiftLeft];exact cast_shl x.toNat n 64
 unfold Op.shift
 rw[if_neg (by omega)]
 simp only[Int.toNat_natCast]
 rw[show IntKind.u64.bits=64 from rfl,e]
theorem bshl_u64_lit(t:TypeId)(x:BitVec 64)(yk:IntKind)(m:Nat):binOp .shl t (.int .u64 (bv x)) (.int yk (no_index (@OfNat.ofNat Int m instOfNat)))=pure (.int .u64 (bv (x<<<m))):=bshl_u64 t x yk m
theorem bshl_u64_bv{q:Nat}(t:TypeId)(x:BitVec 64)(yk:IntKind)(y:BitVec q):binOp .shl t (.int .u64 (bv x)) (.int yk (bv y))=pure (.int .u64 (bv (x<<<y.toNat))):=bshl_u64 t x yk y.toNat
theorem bshl_u64_mul(t:TypeId)(x:BitVec 64)(yk:IntKind)(m j:Nat):binOp .shl t (.int .u64 (bv x)) (.int yk ((no_index (@OfNat.ofNat Int m instOfNat))*(j:Int)))=pure (.int .u64 (bv (x<<<(m*j)))):=by
 have:=bshl_u64 t x yk (m*j)
 rw[Int.natCast_mul]at this
 exact this
theorem bshr_u64(t:TypeId)(x:BitVec 64)(yk:IntKind)(n:Nat):binOp .shr t (.int .u64 (bv x)) (.int yk (n:Int))=pure (.int .u64 (bv (x>>>n))):=by
 rw[binOp_shr]
 have e:(bv x).fdiv (2^(min n 64))=bv (x>>>n):=by
  unfold bv;rw[BitVec.toNat_ushiftRight];exact cast_shr x.toNat n 64 x.isLt
 unfold Op.shift
 rw[if_neg (by omega)]
 simp only[Int.toNat_natCast]
 rw[show IntKind.u64.bits=64 from rfl,e]
theorem bshr_u64_lit(t:TypeId)(x:BitVec 64)(yk:IntKind)(m:Nat):binOp .shr t (.int .u64 (bv x)) (.int yk (no_index (@OfNat.ofNat Int m instOfNat)))=pure (.int .u64 (bv (x>>>m))):=bshr_u64 t x yk m
theorem bshr_u64_bv{q:Nat}(t:TypeId)(x:BitVec 64)(yk:IntKind)(y:BitVec q):binOp .shr t (.int .u64 (bv x)) (.int yk (bv y))=pure (.int .u64 (bv (x>>>y.toNat))):=bshr_u64 t x yk y.toNat
theorem bshr_u64_mul(t:TypeId)(x:BitVec 64)(yk:IntKind)(m j:Nat):binOp .shr t (.int .u64 (bv x)) (.int yk ((no_index (@OfNat.ofNat Int m instOfNat))*(j:Int)))=pure (.int .u64 (bv (x>>>(m*j)))):=by
 have:=bshr_u64 t x yk (m*j)
 rw[Int.natCast_mul]at this
 exact this
theorem conv_8_64(x:BitVec 8):IntKind.u64.wrap (bv x)=bv (x.setWidth 64):=by rw[wrap_u64v];unfold bv;rw[BitVec.toNat_setWidth];simp
theorem conv_16_64(x:BitVec 16):IntKind.u64.wrap (bv x)=bv (x.setWidth 64):=by rw[wrap_u64v];unfold bv;rw[BitVec.toNat_setWidth];simp
theorem conv_32_64(x:BitVec 32):IntKind.u64.wrap (bv x)=bv (x.setWidth 64):=by rw[wrap_u64v];unfold bv;rw[BitVec.toNat_setWidth];simp
theorem ofint_u64(z:Int):IntKind.u64.wrap z=bv (BitVec.ofInt 64 z):=by
 rw[wrap_u64v];unfold bv;rw[BitVec.toNat_ofInt];omega
theorem i64_of_8(x:BitVec 8):IntKind.i64.wrap (bv x)=bv x:=by
 have h1:=bv_nonneg x
 have h2:bv x<256:=by unfold bv;omega
 exact IntWalk.i64_in _ (by omega)
theorem wrap64_of_8(x:BitVec 8):wrap64 (bv x)=bv x:=by
 have h1:=bv_nonneg x
 have h2:bv x<256:=by unfold bv;omega
 exact IntWalk.wrap64_in _ (by omega)
theorem i64_of_16(x:BitVec 16):IntKind.i64.wrap (bv x)=bv x:=by
 have h1:=bv_nonneg x
 have h2:bv x<65536:=by unfold bv;omega
 exact IntWalk.i64_in _ (by omega)
theorem wrap64_of_16(x:BitVec 16):wrap64 (bv x)=bv x:=by
 have h1:=bv_nonneg x
 have h2:bv x<65536:=by unfold bv;omega
 exact IntWalk.wrap64_in _ (by omega)
theorem i64_of_32(x:BitVec 32):IntKind.i64.wrap (bv x)=bv x:=by
 have h1:=bv_nonneg x
 have h2:bv x<4294967296:=by unfold bv;omega
 exact IntWalk.i64_in _ (by omega)
theorem wrap64_of_32(x:BitVec 32):wrap64 (bv x)=bv x:=by
 have h1:=bv_nonneg x
 have h2:bv x<4294967296:=by unfold bv;omega
 exact IntWalk.wrap64_in _ (by omega)
theorem tmod_bv{n:Nat}(x:BitVec n)(m:Nat)(h:m<2^n):(bv x).tmod (no_index (@OfNat.ofNat Int m instOfNat))=bv (x % BitVec.ofNat n m):=by
 show(bv x).tmod ((m:Nat):Int)=_
 rw[Int.tmod_eq_emod_of_nonneg (bv_nonneg x)]
 unfold bv;rw[BitVec.toNat_umod,BitVec.toNat_ofNat,Nat.mod_eq_of_lt h];simp
theorem tdiv_bv{n:Nat}(x:BitVec n)(m:Nat)(h:m<2^n):(bv x).tdiv (no_index (@OfNat.ofNat Int m instOfNat))=bv (x/BitVec.ofNat n m):=by
 show(bv x).tdiv ((m:Nat):Int)=_
 rw[Int.tdiv_eq_ediv_of_nonneg (bv_nonneg x)]
 unfold bv;rw[BitVec.toNat_udiv,BitVec.toNat_ofNat,Nat.mod_eq_of_lt h];simp
theorem div_bv{n:Nat}(x:BitVec n)(m:Nat)(h:m<2^n):(bv x)/(no_index (@OfNat.ofNat Int m instOfNat))=bv (x/BitVec.ofNat n m):=by
 show(bv x)/((m:Nat):Int)=_
 unfold bv;rw[BitVec.toNat_udiv,BitVec.toNat_ofNat,Nat.mod_eq_of_lt h];simp
theorem bv_beq_lit{n:Nat}(x:BitVec n)(m:Nat)(h:m<2^n):(bv x==(no_index (@OfNat.ofNat Int m instOfNat)))=(x==BitVec.ofNat n m):=by
 rw[←bv_beq];unfold bv;rw[BitVec.toNat_ofNat,Nat.mod_eq_of_lt h];rfl
theorem shr_shr{n:Nat}(x:BitVec n)(a b:Nat):(x>>>a)>>>b=x>>>(a+b):=by
 apply BitVec.eq_of_toNat_eq;simp[Nat.shiftRight_add]
theorem udiv_32_8(x:BitVec 32):x/256#32=x>>>8:=by
 apply BitVec.eq_of_toNat_eq;rw[BitVec.toNat_udiv,BitVec.toNat_ushiftRight,Nat.shiftRight_eq_div_pow];rfl
theorem udiv_32_16(x:BitVec 32):x/65536#32=x>>>16:=by
 apply BitVec.eq_of_toNat_eq;rw[BitVec.toNat_udiv,BitVec.toNat_ushiftRight,Nat.shiftRight_eq_div_pow];rfl
theorem udiv_32_24(x:BitVec 32):x/16777216#32=x>>>24:=by
 apply BitVec.eq_of_toNat_eq;rw[BitVec.toNat_udiv,BitVec.toNat_ushiftRight,Nat.shiftRight_eq_div_pow];rfl
theorem umod_32_8(x:BitVec 32):(x % 256#32).setWidth 8=x.setWidth 8:=by
 apply BitVec.eq_of_toNat_eq;rw[BitVec.toNat_setWidth,BitVec.toNat_setWidth,BitVec.toNat_umod]
 show x.toNat % 256 % 256=_;omega
theorem udiv_64_8(x:BitVec 64):x/256#64=x>>>8:=by
 apply BitVec.eq_of_toNat_eq;rw[BitVec.toNat_udiv,BitVec.toNat_ushiftRight,Nat.shiftRight_eq_div_pow];rfl
theorem udiv_64_16(x:BitVec 64):x/65536#64=x>>>16:=by
 apply BitVec.eq_of_toNat_eq;rw[BitVec.toNat_udiv,BitVec.toNat_ushiftRight,Nat.shiftRight_eq_div_pow];rfl
theorem udiv_64_24(x:BitVec 64):x/16777216#64=x>>>24:=by
 apply BitVec.eq_of_toNat_eq;rw[BitVec.toNat_udiv,BitVec.toNat_ushiftRight,Nat.shiftRight_eq_div_pow];rfl
theorem udiv_64_32(x:BitVec 64):x/4294967296#64=x>>>32:=by
 apply BitVec.eq_of_toNat_eq;rw[BitVec.toNat_udiv,BitVec.toNat_ushiftRight,Nat.shiftRight_eq_div_pow];rfl
theorem umod_64_8(x:BitVec 64):(x % 256#64).setWidth 8=x.setWidth 8:=by
 apply BitVec.eq_of_toNat_eq;rw[BitVec.toNat_setWidth,BitVec.toNat_setWidth,BitVec.toNat_umod]
 show x.toNat % 256 % 256=_;omega
theorem bshl1_u64(t:TypeId)(yk:IntKind)(n:Nat):binOp .shl t (.int .u64 1) (.int yk (n:Int))=pure (.int .u64 (bv (1#64<<<n))):=bshl_u64 t 1#64 yk n
attribute [go_sem] back_u8 mod_u8 add_u8 addw_u8 add_u8_lit addw_u8_lit add_u8_litl addw_u8_litl sub_u8 subw_u8 sub_u8_lit subw_u8_lit sub_u8_litl subw_u8_litl mul_u8 mulw_u8 mul_u8_lit mulw_u8_lit mul_u8_litl mulw_u8_litl xor_u8 xor_u8_lit xor_u8_litl or_u8 or_u8_lit or_u8_litl and_u8 and_u8_lit and_u8_litl andNot_u8 andNot_u8_lit andNot_u8_litl convm_16_8 convm_32_8 convm_64_8 back_u16 mod_u16 add_u16 addw_u16 add_u16_lit addw_u16_lit add_u16_litl addw_u16_litl sub_u16 subw_u16 sub_u16_lit subw_u16_lit sub_u16_litl subw_u16_litl mul_u16 mulw_u16 mul_u16_lit mulw_u16_lit mul_u16_litl mulw_u16_litl xor_u16 xor_u16_lit xor_u16_litl or_u16 or_u16_lit or_u16_litl and_u16 and_u16_lit and_u16_litl andNot_u16 andNot_u16_lit andNot_u16_litl convm_32_16 convm_64_16 back_u32 mod_u32 add_u32 addw_u32 add_u32_lit addw_u32_lit add_u32_litl addw_u32_litl sub_u32 subw_u32 sub_u32_lit subw_u32_lit sub_u32_litl subw_u32_litl mul_u32 mulw_u32 mul_u32_lit mulw_u32_lit mul_u32_litl mulw_u32_litl xor_u32 xor_u32_lit xor_u32_litl or_u32 or_u32_lit or_u32_litl and_u32 and_u32_lit and_u32_litl andNot_u32 andNot_u32_lit andNot_u32_litl convm_64_32 back_u64 mod_u64 add_u64 addw_u64 add_u64_lit addw_u64_lit add_u64_litl addw_u64_litl sub_u64 subw_u64 sub_u64_lit subw_u64_lit sub_u64_litl subw_u64_litl mul_u64 mulw_u64 mul_u64_lit mulw_u64_lit mul_u64_litl mulw_u64_litl xor_u64 xor_u64_lit xor_u64_litl or_u64 or_u64_lit or_u64_litl and_u64 and_u64_lit and_u64_litl andNot_u64 andNot_u64_lit andNot_u64_litl i64_of_8 wrap64_of_8 i64_of_16 wrap64_of_16 i64_of_32 wrap64_of_32 bv_beq bv_bne bv_eq_iff tmod_bv tdiv_bv div_bv shr_shr udiv_32_8 udiv_32_16 udiv_32_24 umod_32_8 udiv_64_8 udiv_64_16 udiv_64_24 udiv_64_32 umod_64_8
attribute [go_sem high] bshl_u8 bshl_u8_lit bshl_u8_bv bshl_u8_mul bshr_u8 bshr_u8_lit bshr_u8_bv bshr_u8_mul conv_16_8 conv_32_8 conv_64_8 bshl_u16 bshl_u16_lit bshl_u16_bv bshl_u16_mul bshr_u16 bshr_u16_lit bshr_u16_bv bshr_u16_mul conv_8_16 conv_32_16 conv_64_16 bshl_u32 bshl_u32_lit bshl_u32_bv bshl_u32_mul bshr_u32 bshr_u32_lit bshr_u32_bv bshr_u32_mul conv_8_32 conv_16_32 conv_64_32 bshl_u64 bshl_u64_lit bshl_u64_bv bshl_u64_mul bshr_u64 bshr_u64_lit bshr_u64_bv bshr_u64_mul conv_8_64 conv_16_64 conv_32_64 bshl1_u64
end Go.Proofs.YtelgjaiknaalkaaDoor
