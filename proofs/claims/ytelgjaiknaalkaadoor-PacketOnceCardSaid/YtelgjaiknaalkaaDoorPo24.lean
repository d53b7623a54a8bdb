/- Lemmas, joined and made smaller by a program. -/
import Derived.Test.YtelgjaiknaalkaaDoorPo01
import Derived.Test.YtelgjaiknaalkaaDoorPo02
import Derived.Test.YtelgjaiknaalkaaDoorRows
import Derived.Lib.Hide
import Derived.WalkSpells
import Derived.WalkLawsBesides
import Derived.StillTailTactics
import Derived.Deep.QuietTactic
import Derived.BigQuiet
import Derived.Test.YtelgjaiknaalkaaDoorPo09
open Go.Lib renaming hid → qq
set_option linter.unusedVariables false
set_option linter.unusedSimpArgs false
namespace Go.Proofs.YtelgjaiknaalkaaDoor
def ad(x y c:BitVec 64):BitVec 64:=x+y+c
def cy(x y c:BitVec 64):BitVec 64:=BitVec.ofNat 64 ((x.toNat+y.toNat+c.toNat)/18446744073709551616)
theorem cy_le(x y c:BitVec 64)(hc:c.toNat≤1):(cy x y c).toNat≤1:=by
 unfold cy;rw[BitVec.toNat_ofNat];have:=x.isLt;have:=y.isLt;omega
theorem ad_cy(x y c:BitVec 64)(hc:c.toNat≤1):(ad x y c).toNat+18446744073709551616*(cy x y c).toNat=x.toNat+y.toNat+c.toNat:=by
 unfold ad cy;rw[BitVec.toNat_ofNat,BitVec.toNat_add,BitVec.toNat_add];have:=x.isLt;have:=y.isLt;omega
def ml(x y:BitVec 64):BitVec 64:=x*y
def mh(x y:BitVec 64):BitVec 64:=BitVec.ofNat 64 (x.toNat*y.toNat/18446744073709551616)
theorem ml_mh(x y:BitVec 64):(ml x y).toNat+18446744073709551616*(mh x y).toNat=x.toNat*y.toNat:=by
 have h:x.toNat*y.toNat/18446744073709551616<18446744073709551616:=by
  rw[Nat.div_lt_iff_lt_mul (by omega)]
  exact Nat.mul_lt_mul'' x.isLt y.isLt
 unfold ml mh
 rw[BitVec.toNat_ofNat,BitVec.toNat_mul]
 omega
theorem mh_le(x y:BitVec 64):(mh x y).toNat≤18446744073709551614:=by
 have h1:=ml_mh x y
 have hx:=x.isLt
 have hy:=y.isLt
 have h:x.toNat*y.toNat≤18446744073709551615*18446744073709551615:=Nat.mul_le_mul (by omega) (by omega)
 omega
structure W4 where
 a:BitVec 64
 b:BitVec 64
 c:BitVec 64
 d:BitVec 64
def W4.list(m:W4):List (BitVec 64):=[m.a,m.b,m.c,m.d]
def W4.val(m:W4):Nat:=m.a.toNat+18446744073709551616*m.b.toNat+340282366920938463463374607431768211456*m.c.toNat+6277101735386680763835789423207666416102355444464034512896*m.d.toNat
def at1(m:W4)(x y:BitVec 64):W4:=⟨m.a,ad m.b (ml x y) 0,ad m.c (mh x y) (cy m.b (ml x y) 0),m.d+cy m.c (mh x y) (cy m.b (ml x y) 0)⟩
def at2(m:W4)(x y:BitVec 64):W4:=⟨m.a,m.b,ad m.c (ml x y) 0,ad m.d (mh x y) (cy m.c (ml x y) 0)⟩
theorem at1_val(m:W4)(x y:BitVec 64)(p:Nat)(hp:p=x.toNat*y.toNat)(h:m.val+18446744073709551616*p<115792089237316195423570985008687907853269984665640564039457584007913129639936):(at1 m x y).val=m.val+18446744073709551616*p:=by
 have h1:=ml_mh x y
 rw[←hp]at h1
 have h2:=ad_cy m.b (ml x y) 0 (by simp)
 have c2:=cy_le m.b (ml x y) 0 (by simp)
 have h3:=ad_cy m.c (mh x y) (cy m.b (ml x y) 0) c2
 have c3:=cy_le m.c (mh x y) (cy m.b (ml x y) 0) c2
 simp only[W4.val,at1]at h ⊢
 rw[BitVec.toNat_add]
 have:=m.a.isLt
 have:=m.b.isLt
 have:=m.c.isLt
 have:=m.d.isLt
 simp only[BitVec.toNat_ofNat,Nat.zero_mod,Nat.add_zero,BitVec.ofNat_eq_ofNat]at h2 h3 c2 c3 ⊢
 generalize(cy m.c (mh x y) (cy m.b (ml x y) 0#64)).toNat=k3 at*
 generalize(ad m.c (mh x y) (cy m.b (ml x y) 0#64)).toNat=s3 at*
 generalize(cy m.b (ml x y) 0#64).toNat=k2 at*
 generalize(ad m.b (ml x y) 0#64).toNat=s2 at*
 generalize(ml x y).toNat=l at*
 generalize(mh x y).toNat=hh at*
 omega
theorem at2_val(m:W4)(x y:BitVec 64)(p:Nat)(hp:p=x.toNat*y.toNat)(h:m.val+340282366920938463463374607431768211456*p<115792089237316195423570985008687907853269984665640564039457584007913129639936):(at2 m x y).val=m.val+340282366920938463463374607431768211456*p:=by
 have h1:=ml_mh x y
 rw[←hp]at h1
 have h2:=ad_cy m.c (ml x y) 0 (by simp)
 have c2:=cy_le m.c (ml x y) 0 (by simp)
 have h3:=ad_cy m.d (mh x y) (cy m.c (ml x y) 0) c2
 have c3:=cy_le m.d (mh x y) (cy m.c (ml x y) 0) c2
 simp only[W4.val,at2]at h ⊢
 simp only[BitVec.toNat_ofNat,Nat.zero_mod,Nat.add_zero,BitVec.ofNat_eq_ofNat]at h2 h3 c2 c3 ⊢
 generalize(cy m.d (mh x y) (cy m.c (ml x y) 0#64)).toNat=k3 at*
 generalize(ad m.d (mh x y) (cy m.c (ml x y) 0#64)).toNat=s3 at*
 generalize(cy m.c (ml x y) 0#64).toNat=k2 at*
 generalize(ad m.c (ml x y) 0#64).toNat=s2 at*
 generalize(ml x y).toNat=l at*
 generalize(mh x y).toNat=hh at*
 omega
def h3(a b c:BitVec 64):Nat:=a.toNat+18446744073709551616*b.toNat+340282366920938463463374607431768211456*c.toNat
def prod4(h0 h1 h2 r0 r1:BitVec 64):W4:=at2 (at2 (at1 (at1 ⟨ml h0 r0,mh h0 r0,0,0⟩ h0 r1) h1 r0) h1 r1) h2 r0
def prodW(h0 h1 h2 r0 r1:BitVec 64):W4:={prod4 h0 h1 h2 r0 r1 with d:=(prod4 h0 h1 h2 r0 r1).d+h2*r1}
theorem mul3(a b c d e:Nat):(a+18446744073709551616*b+340282366920938463463374607431768211456*c)*(d+18446744073709551616*e)=a*d+18446744073709551616*(a*e+b*d)+340282366920938463463374607431768211456*(b*e+c*d)+6277101735386680763835789423207666416102355444464034512896*(c*e):=by
 have t1:a*(18446744073709551616*e)=18446744073709551616*(a*e):=Nat.mul_left_comm ..
 have t2:18446744073709551616*b*d=18446744073709551616*(b*d):=Nat.mul_assoc ..
 have t3:18446744073709551616*b*(18446744073709551616*e)=340282366920938463463374607431768211456*(b*e):=by rw[Nat.mul_mul_mul_comm]
 have t4:340282366920938463463374607431768211456*c*d=340282366920938463463374607431768211456*(c*d):=Nat.mul_assoc ..
 have t5:340282366920938463463374607431768211456*c*(18446744073709551616*e)=6277101735386680763835789423207666416102355444464034512896*(c*e):=by rw[Nat.mul_mul_mul_comm]
 rw[Nat.add_mul,Nat.add_mul,Nat.mul_add,Nat.mul_add,Nat.mul_add,t1,t2,t3,t4,t5]
 generalize a*d=x1
 generalize a*e=x2
 generalize b*d=x3
 generalize b*e=x4
 generalize c*d=x5
 generalize c*e=x6
 omega
theorem prodW_val(h0 h1 h2 r0 r1:BitVec 64)(h:h3 h0 h1 h2*(r0.toNat+18446744073709551616*r1.toNat)<115792089237316195423570985008687907853269984665640564039457584007913129639936):
 (prodW h0 h1 h2 r0 r1).val=h3 h0 h1 h2*(r0.toNat+18446744073709551616*r1.toNat):=by
 obtain⟨p00,e00⟩:∃p,p=h0.toNat*r0.toNat:=⟨_,rfl⟩
 obtain⟨p01,e01⟩:∃p,p=h0.toNat*r1.toNat:=⟨_,rfl⟩
 obtain⟨p10,e10⟩:∃p,p=h1.toNat*r0.toNat:=⟨_,rfl⟩
 obtain⟨p11,e11⟩:∃p,p=h1.toNat*r1.toNat:=⟨_,rfl⟩
 obtain⟨p20,e20⟩:∃p,p=h2.toNat*r0.toNat:=⟨_,rfl⟩
 obtain⟨p21,e21⟩:∃p,p=h2.toNat*r1.toNat:=⟨_,rfl⟩
 have e:h3 h0 h1 h2*(r0.toNat+18446744073709551616*r1.toNat)=p00+18446744073709551616*(p01+p10)+340282366920938463463374607431768211456*(p11+p20)+6277101735386680763835789423207666416102355444464034512896*p21:=by
  rw[e00,e01,e10,e11,e20,e21];exact mul3 _ _ _ _ _
 rw[e]at h ⊢
 have hm0:(W4.mk (ml h0 r0) (mh h0 r0) 0 0).val=p00:=by
  have:=ml_mh h0 r0
  rw[←e00]at this
  simp only[W4.val,BitVec.ofNat_eq_ofNat,BitVec.toNat_ofNat];omega
 have hm1:=at1_val ⟨ml h0 r0,mh h0 r0,0,0⟩ h0 r1 p01 e01 (by rw[hm0];omega)
 rw[hm0]at hm1
 have hm2:=at1_val _ h1 r0 p10 e10 (by rw[hm1];omega)
 rw[hm1]at hm2
 have hm3:=at2_val _ h1 r1 p11 e11 (by rw[hm2];omega)
 rw[hm2]at hm3
 have hm4:=at2_val _ h2 r0 p20 e20 (by rw[hm3];omega)
 rw[hm3]at hm4
 have hd:(h2*r1).toNat=p21:=by rw[BitVec.toNat_mul,←e21];omega
 change(prod4 h0 h1 h2 r0 r1).val=_ at hm4
 unfold prodW
 simp only[W4.val]at hm4 ⊢
 rw[BitVec.toNat_add,hd]
 have:=(prod4 h0 h1 h2 r0 r1).d.isLt
 omega
def addW(h:BitVec 64×BitVec 64×BitVec 64)(x y:BitVec 64):BitVec 64×BitVec 64×BitVec 64:=(ad h.1 x 0,ad h.2.1 y (cy h.1 x 0),h.2.2+cy h.2.1 y (cy h.1 x 0))
def v3(h:BitVec 64×BitVec 64×BitVec 64):Nat:=h3 h.1 h.2.1 h.2.2
theorem addW_val(h:BitVec 64×BitVec 64×BitVec 64)(x y:BitVec 64)(hs:h.2.2.toNat≤1000):v3 (addW h x y)=v3 h+x.toNat+18446744073709551616*y.toNat:=by
 have h2:=ad_cy h.1 x 0 (by simp)
 have c2:=cy_le h.1 x 0 (by simp)
 have h3':=ad_cy h.2.1 y (cy h.1 x 0) c2
 have c3:=cy_le h.2.1 y (cy h.1 x 0) c2
 simp only[v3,h3,addW]
 rw[BitVec.toNat_add]
 simp only[BitVec.toNat_ofNat,Nat.zero_mod,Nat.add_zero,BitVec.ofNat_eq_ofNat]at h2 h3' c2 c3 ⊢
 omega
theorem addW_top(h:BitVec 64×BitVec 64×BitVec 64)(x y:BitVec 64)(hs:h.2.2.toNat≤1000):(addW h x y).2.2.toNat≤h.2.2.toNat+1:=by
 have c2:=cy_le h.1 x 0 (by simp)
 have c3:=cy_le h.2.1 y (cy h.1 x 0) c2
 simp only[addW]
 rw[BitVec.toNat_add]
 omega
theorem and3(x:BitVec 64):(x&&&3#64).toNat=x.toNat % 4:=by
 rw[BitVec.toNat_and,show(3#64).toNat=2^2-1 from rfl,Nat.and_two_pow_sub_one_eq_mod]
theorem andn3(x:BitVec 64):(x&&& ~~~(3#64)).toNat=x.toNat/4*4:=by
 have h1:(x&&& ~~~(3#64))+(x&&&3#64)=x:=by
  rw[BitVec.add_eq_or_of_and_eq_zero]
  ·ext i hi
   simp only[BitVec.getElem_or,BitVec.getElem_and,BitVec.getElem_not]
   cases x[i]<;>cases(3#64)[i]<;>rfl
  ·ext i hi
   simp only[BitVec.getElem_and,BitVec.getElem_not,BitVec.getElem_zero]
   cases x[i]<;>cases(3#64)[i]<;>rfl
 have h2:=congrArg BitVec.toNat h1
 rw[BitVec.toNat_add,and3]at h2
 have h3:(x&&& ~~~(3#64)).toNat≤x.toNat:=by rw[BitVec.toNat_and];exact Nat.and_le_left
 have:=x.isLt
 omega
theorem shr_or(c d:BitVec 64):(c>>>2|||d<<<62).toNat=c.toNat/4+d.toNat % 4*4611686018427387904:=by
 have h:(c>>>2)&&&(d<<<62)=0#64:=by
  ext i hi
  simp only[BitVec.getElem_and,BitVec.getElem_zero,BitVec.getElem_ushiftRight,BitVec.getElem_shiftLeft]
  by_cases h:i<62
  ·simp[h]
  ·rw[BitVec.getLsbD_of_ge c (2+i) (by omega)];simp
 rw[←BitVec.add_eq_or_of_and_eq_zero _ _ h,BitVec.toNat_add,BitVec.toNat_ushiftRight,BitVec.toNat_shiftLeft,Nat.shiftRight_eq_div_pow,Nat.shiftLeft_eq]
 have:=c.isLt
 have:=d.isLt
 omega
theorem shr2(d:BitVec 64):(d>>>2).toNat=d.toNat/4:=by rw[BitVec.toNat_ushiftRight,Nat.shiftRight_eq_div_pow]
def redW(m:W4):BitVec 64×BitVec 64×BitVec 64:=addW (addW (m.a,m.b,m.c&&&3#64) (m.c&&& ~~~(3#64)) m.d) (m.c>>>2|||m.d<<<62) (m.d>>>2)
theorem redW_val(m:W4):v3 (redW m)=m.val % 1361129467683753853853498429727072845824+5*(m.val/1361129467683753853853498429727072845824):=by
 have ha:=m.a.isLt
 have hb:=m.b.isLt
 have hc:=m.c.isLt
 have hd:=m.d.isLt
 have t0:(m.c&&&3#64).toNat≤1000:=by rw[and3];omega
 have t1:=addW_top (m.a,m.b,m.c&&&3#64) (m.c&&& ~~~(3#64)) m.d t0
 unfold redW
 rw[addW_val _ _ _ (by rw[and3]at t1;omega),addW_val _ _ _ t0]
 simp only[v3,h3]
 rw[and3,andn3,shr_or,shr2]
 simp only[W4.val]
 omega
def timesW(h:BitVec 64×BitVec 64×BitVec 64)(r0 r1:BitVec 64):BitVec 64×BitVec 64×BitVec 64:=redW (prodW h.1 h.2.1 h.2.2 r0 r1)
def addP(h:BitVec 64×BitVec 64×BitVec 64)(x y z:BitVec 64):BitVec 64×BitVec 64×BitVec 64:=(ad h.1 x 0,ad h.2.1 y (cy h.1 x 0),h.2.2+(z+cy h.2.1 y (cy h.1 x 0)))
theorem addP_val(h:BitVec 64×BitVec 64×BitVec 64)(x y z:BitVec 64)(hs:h.2.2.toNat≤1000)(hz:z.toNat≤1):v3 (addP h x y z)=v3 h+x.toNat+18446744073709551616*y.toNat+340282366920938463463374607431768211456*z.toNat:=by
 have h2:=ad_cy h.1 x 0 (by simp)
 have c2:=cy_le h.1 x 0 (by simp)
 have h3':=ad_cy h.2.1 y (cy h.1 x 0) c2
 have c3:=cy_le h.2.1 y (cy h.1 x 0) c2
 simp only[v3,h3,addP]
 rw[BitVec.toNat_add,BitVec.toNat_add]
 simp only[BitVec.toNat_ofNat,Nat.zero_mod,Nat.add_zero,BitVec.ofNat_eq_ofNat]at h2 h3' c2 c3 ⊢
 omega
def smallW(h:BitVec 64×BitVec 64×BitVec 64):Prop:=v3 h<1701411834604692317316873037158841057280
theorem smallW.top{h:BitVec 64×BitVec 64×BitVec 64}(hs:smallW h):h.2.2.toNat≤4:=by
 unfold smallW v3 h3 at hs;omega
def prm:Nat:=1361129467683753853853498429727072845819
theorem red_mod(n:Nat):(n % 1361129467683753853853498429727072845824+5*(n/1361129467683753853853498429727072845824)) % prm=n % prm:=by
 have h:=Nat.div_add_mod n 1361129467683753853853498429727072845824
 generalize n/1361129467683753853853498429727072845824=q at*
 generalize n % 1361129467683753853853498429727072845824=r at*
 rw[←h,show 1361129467683753853853498429727072845824*q+r=(r+5*q)+prm*q by unfold prm;omega,Nat.add_mul_mod_self_left]
theorem stepW(h:BitVec 64×BitVec 64×BitVec 64)(x y z r0 r1:BitVec 64)(hs:smallW h)(hz:z.toNat≤1)(hr0:r0.toNat<1152921504606846976)(hr1:r1.toNat<1152921504606846976):
 smallW (timesW (addP h x y z) r0 r1)∧v3 (timesW (addP h x y z) r0 r1) % prm=(v3 h+x.toNat+18446744073709551616*y.toNat+340282366920938463463374607431768211456*z.toNat)*(r0.toNat+18446744073709551616*r1.toNat) % prm:=by
 have ht:=hs.top
 have hv:=addP_val h x y z (by omega) hz
 have hx:=x.isLt
 have hy:=y.isLt
 unfold smallW at hs
 have hb:v3 (addP h x y z)≤2722258935367507707706996859454145691647:=by omega
 have hrb:r0.toNat+18446744073709551616*r1.toNat≤21267647932558653966460912964485513215:=by omega
 have hm:v3 (addP h x y z)*(r0.toNat+18446744073709551616*r1.toNat)≤2722258935367507707706996859454145691647*21267647932558653966460912964485513215:=Nat.mul_le_mul hb hrb
 have hp:=prodW_val (addP h x y z).1 (addP h x y z).2.1 (addP h x y z).2.2 r0 r1 (by change v3 (addP h x y z)*_<_;omega)
 change _=v3 (addP h x y z)*_ at hp
 have hq:=redW_val (prodW (addP h x y z).1 (addP h x y z).2.1 (addP h x y z).2.2 r0 r1)
 rw[hp]at hq
 refine⟨?_,?_⟩
 ·unfold smallW timesW
  rw[hq]
  generalize v3 (addP h x y z)*(r0.toNat+18446744073709551616*r1.toNat)=N at*
  omega
 ·unfold timesW
  rw[hq,red_mod,hv]
def lessW(h:BitVec 64×BitVec 64×BitVec 64):BitVec 64×BitVec 64×BitVec 64:=
 if 4≤(h.2.2+cy h.2.1 0 (cy h.1 5 0)).toNat then(ad h.1 5 0,ad h.2.1 0 (cy h.1 5 0),(h.2.2+cy h.2.1 0 (cy h.1 5 0))-4)else h
theorem lessW_val(h:BitVec 64×BitVec 64×BitVec 64)(hs:h.2.2.toNat≤1000):v3 (lessW h)=if prm≤v3 h then v3 h-prm else v3 h:=by
 have h2:=ad_cy h.1 5 0 (by simp)
 have c2:=cy_le h.1 5 0 (by simp)
 have h3':=ad_cy h.2.1 0 (cy h.1 5 0) c2
 have c3:=cy_le h.2.1 0 (cy h.1 5 0) c2
 have hb:=(ad h.1 5 0).isLt
 have hb':=(ad h.2.1 0 (cy h.1 5 0)).isLt
 unfold lessW
 simp only[BitVec.toNat_ofNat,Nat.zero_mod,Nat.add_zero,BitVec.ofNat_eq_ofNat,Nat.reducePow,Nat.reduceMod]at h2 h3' c2 c3 hb hb' ⊢
 have e:(h.2.2+cy h.2.1 0#64 (cy h.1 5#64 0#64)).toNat=h.2.2.toNat+(cy h.2.1 0#64 (cy h.1 5#64 0#64)).toNat:=by rw[BitVec.toNat_add];omega
 rw[e]
 have hv:v3 h=h.1.toNat+18446744073709551616*h.2.1.toNat+340282366920938463463374607431768211456*h.2.2.toNat:=rfl
 generalize hk3:(cy h.2.1 0#64 (cy h.1 5#64 0#64)).toNat=k3 at*
 generalize hk2:(cy h.1 5#64 0#64).toNat=k2 at*
 split
 ·rename_i h4
  have hp:prm≤v3 h:=by rw[hv];unfold prm;omega
  rw[if_pos hp,hv]
  simp only[v3,h3,prm]
  rw[BitVec.toNat_sub,e]
  simp only[BitVec.toNat_ofNat,Nat.reducePow,Nat.reduceMod]
  omega
 ·rename_i h4
  have hp:¬prm≤v3 h:=by rw[hv];unfold prm;omega
  rw[if_neg hp]
theorem lessW_top(h:BitVec 64×BitVec 64×BitVec 64)(hs:h.2.2.toNat≤1000):(lessW h).2.2.toNat≤1000:=by
 have c2:=cy_le h.1 5 0 (by simp)
 have c3:=cy_le h.2.1 0 (cy h.1 5 0) c2
 unfold lessW
 generalize cy h.2.1 0 (cy h.1 5 0)=k at*
 split
 ·rename_i h4
  dsimp only
  rw[BitVec.toNat_sub]
  simp only[BitVec.toNat_ofNat,BitVec.ofNat_eq_ofNat,Nat.reducePow,Nat.reduceMod,BitVec.toNat_add]at*
  omega
 ·exact hs
def endW(h:BitVec 64×BitVec 64×BitVec 64)(s0 s1:BitVec 64):BitVec 64×BitVec 64:=(ad (lessW (lessW h)).1 s0 0,ad (lessW (lessW h)).2.1 s1 (cy (lessW (lessW h)).1 s0 0))
theorem endW_val(h:BitVec 64×BitVec 64×BitVec 64)(s0 s1:BitVec 64)(hs:smallW h):
 (endW h s0 s1).1.toNat+18446744073709551616*(endW h s0 s1).2.toNat=(v3 h % prm+(s0.toNat+18446744073709551616*s1.toNat)) % 340282366920938463463374607431768211456:=by
 have ht:=hs.top
 have e1:=lessW_val h (by omega)
 have e2:=lessW_val (lessW h) (lessW_top h (by omega))
 have e3:v3 (lessW (lessW h))=v3 h % prm:=by
  unfold smallW at hs
  by_cases hp:prm≤v3 h
  ·rw[if_pos hp]at e1
   rw[e2,if_neg (by rw[e1];unfold prm at*;omega),e1]
   unfold prm at*;omega
  ·rw[if_neg hp]at e1
   rw[e2,e1,if_neg hp]
   unfold prm at*;omega
 rw[←e3]
 unfold endW
 generalize lessW (lessW h)=g at*
 clear e1 e2 e3
 have h2:=ad_cy g.1 s0 0 (by simp)
 have c2:=cy_le g.1 s0 0 (by simp)
 have h3':=ad_cy g.2.1 s1 (cy g.1 s0 0) c2
 have c3:=cy_le g.2.1 s1 (cy g.1 s0 0) c2
 have b1:=(ad g.1 s0 0).isLt
 have b2:=(ad g.2.1 s1 (cy g.1 s0 0)).isLt
 simp only[v3,h3]
 simp only[BitVec.toNat_ofNat,Nat.zero_mod,Nat.add_zero,BitVec.ofNat_eq_ofNat]at h2 h3' c2 c3 b1 b2 ⊢
 generalize(cy g.2.1 s1 (cy g.1 s0 0#64)).toNat=k3 at*
 generalize(ad g.2.1 s1 (cy g.1 s0 0#64)).toNat=a3 at*
 generalize(cy g.1 s0 0#64).toNat=k2 at*
 generalize(ad g.1 s0 0#64).toNat=a2 at*
 generalize g.1.toNat=g1 at*
 generalize g.2.1.toNat=g2 at*
 generalize g.2.2.toNat=g3 at*
 generalize s0.toNat=t0 at*
 generalize s1.toNat=t1 at*
 clear hs ht
 have e:g1+18446744073709551616*g2+340282366920938463463374607431768211456*g3+(t0+18446744073709551616*t1)=(a2+18446744073709551616*a3)+340282366920938463463374607431768211456*(g3+k3):=by omega
 rw[e,Nat.add_mul_mod_self_left]
 omega
end Go.Proofs.YtelgjaiknaalkaaDoor
namespace Go.Proofs.YtelgjaiknaalkaaDoor
open Go.RowKit
def le(n:BitVec 64)(k:Nat):BitVec 8:=(n>>>(8*k)).setWidth 8
def le8(n:BitVec 64):List (BitVec 8):=(List.range 8).map (le n)
def leTo(n:BitVec 64)(k:Nat):List (BitVec 8):=(List.range 8).map fun j=>if j<k then le n j else 0#8
theorem leTo_len(n:BitVec 64)(k:Nat):(leTo n k).length=8:=by simp[leTo]
theorem leTo_set(n:BitVec 64)(k:Nat):(leTo n k).set k (le n k)=leTo n (k+1):=by
 apply List.ext_getElem
 ·simp[leTo]
 ·intro i h1 h2
  simp only[leTo,List.getElem_set,List.getElem_map,List.getElem_range]
  by_cases h:k=i
  ·subst h;simp
  ·rw[if_neg h]
   by_cases h':i<k
   ·rw[if_pos h',if_pos (by omega)]
   ·rw[if_neg h',if_neg (by omega)]
set_option maxHeartbeats 400000 in
theorem put_any(n:BitVec 64)(w:World):
 Calls Tryd.prog 46 #[.int .u64 (bv n)] w fun e w'=>∃v,e= .returned v∧Own b8 w' w.heap.size 5 v (le8 n)∧Below w.heap.size w w':=by
 have hmk:∀w,(Instr.makeSlice 33 (.int .i64 8) (.int .i64 8)).run Tryd.prog w= .ok (.slice (some ⟨w.heap.size,0,none⟩) 8 8) (w.alloc (.cells #[.int .u8 0,.int .u8 0,.int .u8 0,.int .u8 0,.int .u8 0,.int .u8 0,.int .u8 0,.int .u8 0] 5)):=fun _=>by kernel_rfl
 go_enter Tryd.func46,Tryd.ntmps46
 go_wp2
 go_loopw [8] (fun i wr=>∃k:Nat,k≤8∧i= .int .i64 k∧Own b8 wr w.heap.size 5 (.slice (some ⟨w.heap.size,0,none⟩) 8 8) (leTo n k)∧Below w.heap.size w wr) (fun i _=>8-(intOf i).toNat)
 case atStart=>
  exact⟨0,by omega,rfl,Own.lit b8 w w.heap.size 5 (leTo n 0) (Nat.le_refl _) (by rw[leTo_len];simp[maxLen]),(Below.refl _ _).alloc (Nat.le_refl _) _⟩
 case round=>
  obtain⟨k,hk,rfl,hown,hb⟩:=hrel
  by_cases hlt:k<8
  ·have hc:=(hown.at_ (k:=k) (by rw[leTo_len];omega)).1
   have hf:=(hown.at_ (k:=k) (by rw[leTo_len];omega)).2
   go_wp2
   go_roundw
   case rel=>
    have hs:=hown.set_ k (le n k)
    refine⟨k+1,by omega,by go_num,?_,hb.setCell (Nat.le_refl _) _⟩
    rw[leTo_set]at hs
    exact hs.1
   case measure=>simp[intOf];omega
  ·obtain rfl:k=8:=by omega
   go_wp2
   go_ret
   exact⟨_,rfl,hown,hb⟩
def nonce(n:BitVec 64):List (BitVec 8):=[0#8,0#8,0#8,0#8]++le8 n
end Go.Proofs.YtelgjaiknaalkaaDoor
namespace Go.Proofs.YtelgjaiknaalkaaDoor
def leNP:List (BitVec 8)→Nat
 | []=>0
 |x::xs=>x.toNat+256*leNP xs
def valN:List Nat→Nat
 | []=>0
 |x::xs=>x+256*valN xs
theorem leN_val:∀xs:List (BitVec 8),leNP xs=valN (xs.map BitVec.toNat)
 | []=>rfl
 |x::xs=>by simp only[leNP,valN,List.map_cons];rw[leN_val xs]
theorem valN_append:∀xs ys:List Nat,valN (xs++ys)=valN xs+256^xs.length*valN ys
 | [],ys=>by simp[valN]
 |x::xs,ys=>by
  simp only[List.cons_append,valN,List.length_cons]
  rw[valN_append xs ys,Nat.pow_succ,Nat.mul_add,Nat.mul_comm (256^xs.length) 256,Nat.mul_assoc];omega
theorem leN_append(xs ys:List (BitVec 8)):leNP (xs++ys)=leNP xs+256^xs.length*leNP ys:=by
 rw[leN_val,leN_val,leN_val,List.map_append,valN_append,List.length_map]
def D256(xs:List Nat):Prop:=∀x∈xs,x<256
theorem valN_lt:∀xs:List Nat,D256 xs→valN xs<256^xs.length
 | [],_=>by simp[valN]
 |x::xs,h=>by
  have h1:=valN_lt xs (fun y hy=>h y (by simp[hy]))
  have h2:=h x (by simp)
  simp only[valN,List.length_cons,Nat.pow_succ];omega
theorem D256_bytes(xs:List (BitVec 8)):D256 (xs.map BitVec.toNat):=by
 intro x hx;obtain⟨y,_,rfl⟩:=List.mem_map.1 hx;exact y.isLt
theorem leN_lt(xs:List (BitVec 8)):leNP xs<256^xs.length:=by
 have:=valN_lt _ (D256_bytes xs);rwa[←leN_val,List.length_map]at this
theorem valN_zeros(n:Nat):valN (List.replicate n 0)=0:=by
 induction n with
 |zero=>rfl
 |succ n ih=>rw[List.replicate_succ];simp only[valN,ih]
theorem leN_zeros(n:Nat):leNP (List.replicate n 0#8)=0:=by rw[leN_val,List.map_replicate];exact valN_zeros n
def low8(xs:List (BitVec 8)):BitVec 64:=BitVec.ofNat 64 (leNP (xs.take 8))
theorem low8_toNat(xs:List (BitVec 8)):(low8 xs).toNat=leNP (xs.take 8):=by
 unfold low8
 rw[BitVec.toNat_ofNat,Nat.mod_eq_of_lt]
 have h:=leN_lt (xs.take 8)
 refine Nat.lt_of_lt_of_le h ?_
 rw[show(2:Nat)^64=256^8 from rfl]
 exact Nat.pow_le_pow_right (by omega) (by rw[List.length_take];omega)
theorem le_toNat(n:BitVec 64)(k:Nat):(le n k).toNat=n.toNat/256^k % 256:=by
 unfold le
 rw[BitVec.toNat_setWidth,BitVec.toNat_ushiftRight,Nat.shiftRight_eq_div_pow,Nat.pow_mul]
def r0W(key:List (BitVec 8)):BitVec 64:=low8 key&&&1152921487695413247#64
def r1W(key:List (BitVec 8)):BitVec 64:=low8 (key.drop 8)&&&1152921487695413244#64
theorem r0W_lt(key:List (BitVec 8)):(r0W key).toNat<1152921504606846976:=by
 unfold r0W;rw[BitVec.toNat_and]
 exact Nat.lt_of_le_of_lt Nat.and_le_right (by decide)
theorem r1W_lt(key:List (BitVec 8)):(r1W key).toNat<1152921504606846976:=by
 unfold r1W;rw[BitVec.toNat_and]
 exact Nat.lt_of_le_of_lt Nat.and_le_right (by decide)
def rN(key:List (BitVec 8)):Nat:=(r0W key).toNat+18446744073709551616*(r1W key).toNat
def padP(p:List (BitVec 8)):List (BitVec 8):=p++ [1#8]++List.replicate (16-p.length) 0#8
theorem padP_len(p:List (BitVec 8))(h:p.length≤16):(padP p).length=17:=by simp[padP];omega
theorem padP_val(p:List (BitVec 8))(h:p.length≤16):
 (low8 (padP p)).toNat+18446744073709551616*(low8 ((padP p).drop 8)).toNat+340282366920938463463374607431768211456*((padP p).getD 16 0#8).toNat=leNP p+256^p.length:=by
 have hl:=padP_len p h
 have e:leNP (padP p)=leNP p+256^p.length:=by
  unfold padP;rw[leN_append,leN_append,leN_zeros];simp[leNP]
 rw[←e,low8_toNat,low8_toNat]
 obtain⟨q,hq⟩:∃q,q=padP p:=⟨_,rfl⟩
 rw[←hq]at hl ⊢
 have t1:leNP q=leNP (q.take 8)+256^8*leNP (q.drop 8):=by
  have:=leN_append (q.take 8) (q.drop 8)
  rwa[List.take_append_drop,List.length_take,hl]at this
 have t2:leNP (q.drop 8)=leNP ((q.drop 8).take 8)+256^8*leNP (q.drop 16):=by
  have:=leN_append ((q.drop 8).take 8) ((q.drop 8).drop 8)
  rwa[List.take_append_drop,List.length_take,List.length_drop,hl,List.drop_drop]at this
 have t3:leNP (q.drop 16)=(q.getD 16 0#8).toNat:=by
  rw[List.drop_eq_getElem_cons (by omega),List.drop_eq_nil_of_le (by omega)]
  simp[leNP,List.getD,hl]
 rw[t1,t2,t3];omega
theorem padP_top(p:List (BitVec 8))(h:p.length≤16):((padP p).getD 16 0#8).toNat≤1:=by
 unfold padP
 rcases Nat.lt_or_ge p.length 16 with h1|h1
 ·rw[List.getD,List.getElem?_append_right (by simp;omega),List.getElem?_replicate]
  split<;>simp
 ·rw[List.getD,List.getElem?_append_left (by simp;omega),List.getElem?_append_right (by omega)]
  rw[show 16-p.length=0 by omega];simp
def pieceOf(text:List (BitVec 8))(k:Nat):List (BitVec 8):=(text.drop (16*k)).take 16
theorem pieceOf_le(text:List (BitVec 8))(k:Nat):(pieceOf text k).length≤16:=by unfold pieceOf;rw[List.length_take];omega
def polyK(r:Nat)(text:List (BitVec 8)):Nat→Nat
 |0=>0
 |k+1=>(polyK r text k+(leNP (pieceOf text k)+256^(pieceOf text k).length))*r % prm
def sN(key:List (BitVec 8)):Nat:=leNP (key.drop 16)
def markN(key text:List (BitVec 8)):Nat:=(polyK (rN key) text ((text.length+15)/16)+sN key) % 340282366920938463463374607431768211456
def bytes16(n:Nat):List (BitVec 8):=(List.range 16).map fun i=>BitVec.ofNat 8 (n/256^i)
theorem bytes16_len(n:Nat):(bytes16 n).length=16:=by simp[bytes16]
def markV(key text:List (BitVec 8)):List (BitVec 8):=bytes16 (markN key text)
theorem markV_len(key text:List (BitVec 8)):(markV key text).length=16:=bytes16_len _
theorem bytes16_le8(a b:BitVec 64):le8 a++le8 b=bytes16 (a.toNat+18446744073709551616*b.toNat):=by
 have ha:=a.isLt
 have hb:=b.isLt
 simp only[le8,bytes16,show List.range 8=[0,1,2,3,4,5,6,7]from rfl,show List.range 16=[0,1,2,3,4,5,6,7,8,9,10,11,12,13,14,15]from rfl,List.map_cons,List.map_nil,List.cons_append,List.nil_append,List.cons.injEq,and_true,true_and]
 refine⟨?_,?_,?_,?_,?_,?_,?_,?_,?_,?_,?_,?_,?_,?_,?_,?_⟩<;>
 ·apply BitVec.eq_of_toNat_eq
  rw[le_toNat,BitVec.toNat_ofNat]
  simp only[Nat.reducePow]
  omega
theorem sN_words(key:List (BitVec 8))(h:key.length=32):(low8 (key.drop 16)).toNat+18446744073709551616*(low8 (key.drop 24)).toNat=sN key:=by
 rw[low8_toNat,low8_toNat]
 unfold sN
 have t:=leN_append ((key.drop 16).take 8) ((key.drop 16).drop 8)
 rw[List.take_append_drop,List.length_take,List.length_drop,h,List.drop_drop]at t
 rw[t,List.take_of_length_le (l:=key.drop 24) (by rw[List.length_drop];omega)]
 rfl
theorem polyW_step{h:BitVec 64×BitVec 64×BitVec 64}{key text:List (BitVec 8)}{k:Nat}(hs:smallW h)(hv:v3 h % prm=polyK (rN key) text k):
 smallW (timesW (addP h (low8 (padP (pieceOf text k))) (low8 ((padP (pieceOf text k)).drop 8)) (((padP (pieceOf text k)).getD 16 0#8).setWidth 64)) (r0W key) (r1W key))∧
  v3 (timesW (addP h (low8 (padP (pieceOf text k))) (low8 ((padP (pieceOf text k)).drop 8)) (((padP (pieceOf text k)).getD 16 0#8).setWidth 64)) (r0W key) (r1W key)) % prm=polyK (rN key) text (k+1):=by
 have hz:(((padP (pieceOf text k)).getD 16 0#8).setWidth 64).toNat=((padP (pieceOf text k)).getD 16 0#8).toNat:=by rw[BitVec.toNat_setWidth];have:=((padP (pieceOf text k)).getD 16 0#8).isLt;omega
 have h1:=stepW h (low8 (padP (pieceOf text k))) (low8 ((padP (pieceOf text k)).drop 8)) (((padP (pieceOf text k)).getD 16 0#8).setWidth 64) (r0W key) (r1W key) hs (by rw[hz];exact padP_top _ (pieceOf_le _ _)) (r0W_lt _) (r1W_lt _)
 refine⟨h1.1,h1.2.trans ?_⟩
 rw[hz]
 have hp:=padP_val (pieceOf text k) (pieceOf_le _ _)
 rw[show v3 h+(low8 (padP (pieceOf text k))).toNat+18446744073709551616*(low8 ((padP (pieceOf text k)).drop 8)).toNat+340282366920938463463374607431768211456*((padP (pieceOf text k)).getD 16 0#8).toNat=v3 h+(leNP (pieceOf text k)+256^(pieceOf text k).length) by omega]
 change _*rN key % prm=_
 simp only[polyK]
 rw[←hv,Nat.mul_mod,←Nat.mod_add_mod (v3 h) prm,←Nat.mul_mod]
end Go.Proofs.YtelgjaiknaalkaaDoor
namespace Go.Proofs.YtelgjaiknaalkaaDoor
open Go.RowKit
def rotl32(x:BitVec 32)(k:Nat):BitVec 32:=x<<<k|||x>>>(32-k)
theorem rot_count3(k:Int):bits .and .u64 (IntKind.u64.wrap k) 31=(((k % 32).toNat:Nat):Int):=by
 rw[ofint_u64,show(31:Int)=@OfNat.ofNat Int 31 instOfNat from rfl,and_u64_lit]
 unfold bv
 rw[BitVec.toNat_and,show(BitVec.ofNat 64 31).toNat=2^5-1 from rfl,Nat.and_two_pow_sub_one_eq_mod,BitVec.toNat_ofInt]
 omega
theorem rot32_any(x:BitVec 32)(k:Int)(w:World):
 Calls Tryd.prog 72 #[.int .u32 (bv x),.int .i64 k] w fun e w'=>e= .returned (.int .u32 (bv (rotl32 x (k % 32).toNat)))∧w=w':=by
 have hc:=rot_count3 k
 generalize hs:(k % 32).toNat=s at hc ⊢
 have h1:s≤31:=by omega
 have h2:((32:Int)-(s:Int))=((32-s:Nat):Int):=by omega
 clear hs
 go_enter Tryd.func72,Tryd.ntmps72
 go_wp2
 go_ret
 exact⟨rfl,rfl⟩
def quarter(a b c d:BitVec 32):BitVec 32×BitVec 32×BitVec 32×BitVec 32:=
 let a1:=a+b
 let d1:=rotl32 (d^^^a1) 16
 let c1:=c+d1
 let b1:=rotl32 (b^^^c1) 12
 let a2:=a1+b1
 let d2:=rotl32 (d1^^^a2) 8
 let c2:=c1+d2
 let b2:=rotl32 (b1^^^c2) 7
 (a2,b2,c2,d2)
theorem results_tmp4{fn:Func}{t u v x:Tmp}(h:fn.results= #[.tmp t,.tmp u,.tmp v,.tmp x])(tmps:Array Value)(P:Program)(w:World):
 (results fn tmps).run P w= .ok (.tuple #[tmps.getD t undef,tmps.getD u undef,tmps.getD v undef,tmps.getD x undef]) w:=by simp[results,h]
theorem quarter_any(a b c d:BitVec 32)(w:World):
 Calls Tryd.prog 62 #[.int .u32 (bv a),.int .u32 (bv b),.int .u32 (bv c),.int .u32 (bv d)] w fun e w'=>
  e= .returned (.tuple #[.int .u32 (bv (quarter a b c d).1),.int .u32 (bv (quarter a b c d).2.1),.int .u32 (bv (quarter a b c d).2.2.1),.int .u32 (bv (quarter a b c d).2.2.2)])∧w=w':=by
 go_enter Tryd.func62,Tryd.ntmps62
 go_wp2_with (go_at_call 72;refine(rot32_any _ _ _).mono ?_;rintro e w' ⟨rfl,rfl⟩)
 refine bodyPost_ret (results_tmp4 rfl _ _ _) rfl ?_
 exact⟨rfl,rfl⟩
def b32(x:BitVec 32):Value:= .int .u32 (bv x)
def word4(a b c d:BitVec 8):BitVec 32:=a.setWidth 32|||b.setWidth 32<<<8|||c.setWidth 32<<<16|||d.setWidth 32<<<24
def wordAt(xs:List (BitVec 8))(k:Nat):BitVec 32:=word4 (xs.getD k 0#8) (xs.getD (k+1) 0#8) (xs.getD (k+2) 0#8) (xs.getD (k+3) 0#8)
set_option maxRecDepth 100000 in
set_option maxHeartbeats 1000000 in
theorem word_any(b off n c:Nat)(x0 x1 x2 x3:BitVec 8)(w:World)(hn:4≤n)(c0:w.cell? ⟨b,off,none⟩=some (.int .u8 (bv x0)))(c1:w.cell? ⟨b,off+1,none⟩=some (.int .u8 (bv x1)))(c2:w.cell? ⟨b,off+2,none⟩=some (.int .u8 (bv x2)))(c3:w.cell? ⟨b,off+3,none⟩=some (.int .u8 (bv x3))):
 Calls Tryd.prog 60 #[.slice (some ⟨b,off,none⟩) n c] w fun e w'=>e= .returned (.int .u32 (bv (word4 x0 x1 x2 x3)))∧∃k,w'=w.drewN k:=by
 go_enter Tryd.func60,Tryd.ntmps60
 go_wp2_with fail
 go_quiet (fail)
 go_wp2_with fail
 go_ret
 exact⟨rfl,_,rfl⟩
def badP(n:Nat)(number:Int):Nat:=if n≠12 then 1 else if number<0∨4294967295<number then 8 else 0
theorem badP_len{n:Nat}{number:Int}(h:n≠12):badP n number=1:=if_pos h
theorem badP_num{n:Nat}{number:Int}(h:n=12)(h':number<0∨4294967295<number):badP n number=8:=by unfold badP;rw[if_neg (by omega),if_pos h']
theorem badP_ok{n:Nat}{number:Int}(h:n=12)(h':¬(number<0∨4294967295<number)):badP n number=0:=by unfold badP;rw[if_neg (by omega),if_neg h']
set_option maxRecDepth 100000 in
set_option maxHeartbeats 1000000 in
theorem check03_any(A:Option Addr)(n c:Nat)(number:Int)(w:World):
 Calls Tryd.prog 41 #[.slice A n c,.int .i64 number] w fun e w'=>e= .returned (errV (badP n number))∧w=w':=by
 by_cases h1:n=12
 ·by_cases h2:number<0
  ·rw[badP_num h1 (.inl h2)]
   have h1':((n:Int) !=12)=false:=by rw[bne_eq_false_iff_eq];omega
   have h2':decide (number<0)=true:=by simpa using h2
   clear h1
   go_enter Tryd.func41,Tryd.ntmps41
   go_wp2_with fail
   go_ret
   exact⟨rfl,rfl⟩
  ·have h2':decide (number<0)=false:=by simpa using h2
   by_cases h3:4294967295<number
   ·rw[badP_num h1 (.inr h3)]
    have h1':((n:Int) !=12)=false:=by rw[bne_eq_false_iff_eq];omega
    have h3':decide (4294967295<number)=true:=by simpa using h3
    clear h1
    go_enter Tryd.func41,Tryd.ntmps41
    go_wp2_with fail
    go_ret
    exact⟨rfl,rfl⟩
   ·rw[badP_ok h1 (by omega)]
    have h1':((n:Int) !=12)=false:=by rw[bne_eq_false_iff_eq];omega
    have h3':decide (4294967295<number)=false:=by simpa using h3
    clear h1
    go_enter Tryd.func41,Tryd.ntmps41
    go_wp2_with fail
    go_ret
    exact⟨rfl,rfl⟩
 ·rw[badP_len h1]
  have h1':((n:Int) !=12)=true:=by rw[bne_iff_ne];omega
  clear h1
  go_enter Tryd.func41,Tryd.ntmps41
  go_wp2_with fail
  go_ret
  exact⟨rfl,rfl⟩
def roundsL:List Int:=[0,4,8,12,1,5,9,13,2,6,10,14,3,7,11,15,0,5,10,15,1,6,11,12,2,7,8,13,3,4,9,14]
def roundsV:Value:= .agg (roundsL.map cI).toArray
theorem roundsSize:(Tryd.prog.info? 122).map (·.size)=some 32:=by kernel_rfl
set_option maxRecDepth 100000 in
theorem rounds_any(w:World):Calls Tryd.prog 61 #[] w fun e w'=>e= .returned roundsV∧Below w.heap.size w w':=by
 have hb:∀w,(Instr.build 122 #[(0,.agg #[.int .i64 0,.int .i64 4,.int .i64 8,.int .i64 12]),(1,.agg #[.int .i64 1,.int .i64 5,.int .i64 9,.int .i64 13]),(2,.agg #[.int .i64 2,.int .i64 6,.int .i64 10,.int .i64 14]),(3,.agg #[.int .i64 3,.int .i64 7,.int .i64 11,.int .i64 15]),
  (4,.agg #[.int .i64 0,.int .i64 5,.int .i64 10,.int .i64 15]),(5,.agg #[.int .i64 1,.int .i64 6,.int .i64 11,.int .i64 12]),(6,.agg #[.int .i64 2,.int .i64 7,.int .i64 8,.int .i64 13]),(7,.agg #[.int .i64 3,.int .i64 4,.int .i64 9,.int .i64 14])]).run Tryd.prog w= .ok roundsV w:=fun _=>by kernel_rfl
 have hx0:Arr cI (w.alloc (.cells ((List.replicate 32 0).map cI).toArray 122)) w.heap.size 122 (List.replicate 32 0):=Arr.new cI w _ _
 have HX0:=qq hx0
 clear hx0
 go_enter Tryd.func61,Tryd.ntmps61
 go_wp2_with (refine wpList_store_arr rfl 122 _ _ rfl w.heap.size rfl roundsL rfl _ _ HX0.out rfl roundsSize cI_one ?_;intro w6 hx6 hg6)
 have HX6:=qq hx6
 have HG6:=qq hg6
 clear hx6 hg6 hb HX0
 refine bodyPost_ret (v:=roundsV) (results_cell_row (g:=w.heap.size) rfl _ _ _ _ (0,0) _ rfl HX6.out Tryd.underlying122 rfl (by rw[roundsSize];rfl)) rfl ?_
 exact⟨rfl,((Below.refl _ _).alloc (Nat.le_refl _) _).grown HG6.out (by simp) (fun k e=>by cases e;exact Nat.le_refl _)⟩
end Go.Proofs.YtelgjaiknaalkaaDoor
