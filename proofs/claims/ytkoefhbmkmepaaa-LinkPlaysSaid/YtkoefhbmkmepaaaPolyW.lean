/- PLAIN LEMMAS: sums and products of words of 64 bits with carries, and what the mark's arithmetic comes to. No program, no conditions. -/
import Derived.Test.YtkoefhbmkmepaaaBits
namespace Go.Proofs.Ytkoefhbmkmepaaa
set_option linter.unusedVariables false
set_option linter.unusedSimpArgs false

/-- a sum of two words and a carry; its carry -/
def ad (x y c : BitVec 64) : BitVec 64 := x + y + c
def cy (x y c : BitVec 64) : BitVec 64 := BitVec.ofNat 64 ((x.toNat + y.toNat + c.toNat) / 18446744073709551616)
theorem cy_le (x y c : BitVec 64) (hc : c.toNat ≤ 1) : (cy x y c).toNat ≤ 1 := by
  unfold cy; rw [BitVec.toNat_ofNat]; have := x.isLt; have := y.isLt; omega
theorem ad_cy (x y c : BitVec 64) (hc : c.toNat ≤ 1) : (ad x y c).toNat + 18446744073709551616 * (cy x y c).toNat = x.toNat + y.toNat + c.toNat := by
  unfold ad cy; rw [BitVec.toNat_ofNat, BitVec.toNat_add, BitVec.toNat_add]; have := x.isLt; have := y.isLt; omega
/-- a product's halves -/
def ml (x y : BitVec 64) : BitVec 64 := x * y
def mh (x y : BitVec 64) : BitVec 64 := BitVec.ofNat 64 (x.toNat * y.toNat / 18446744073709551616)
theorem ml_mh (x y : BitVec 64) : (ml x y).toNat + 18446744073709551616 * (mh x y).toNat = x.toNat * y.toNat := by
  have h : x.toNat * y.toNat / 18446744073709551616 < 18446744073709551616 := by
    rw [Nat.div_lt_iff_lt_mul (by omega)]
    exact Nat.mul_lt_mul'' x.isLt y.isLt
  unfold ml mh
  rw [BitVec.toNat_ofNat, BitVec.toNat_mul]
  omega
theorem mh_le (x y : BitVec 64) : (mh x y).toNat ≤ 18446744073709551614 := by
  have h1 := ml_mh x y
  have hx := x.isLt
  have hy := y.isLt
  have h : x.toNat * y.toNat ≤ 18446744073709551615 * 18446744073709551615 := Nat.mul_le_mul (by omega) (by omega)
  omega
/-- four words -/
structure W4 where
  a : BitVec 64
  b : BitVec 64
  c : BitVec 64
  d : BitVec 64
def W4.list (m : W4) : List (BitVec 64) := [m.a, m.b, m.c, m.d]
def W4.val (m : W4) : Nat := m.a.toNat + 18446744073709551616 * m.b.toNat + 340282366920938463463374607431768211456 * m.c.toNat + 6277101735386680763835789423207666416102355444464034512896 * m.d.toNat
def at1 (m : W4) (x y : BitVec 64) : W4 := ⟨m.a, ad m.b (ml x y) 0, ad m.c (mh x y) (cy m.b (ml x y) 0), m.d + cy m.c (mh x y) (cy m.b (ml x y) 0)⟩
def at2 (m : W4) (x y : BitVec 64) : W4 := ⟨m.a, m.b, ad m.c (ml x y) 0, ad m.d (mh x y) (cy m.c (ml x y) 0)⟩
theorem at1_val (m : W4) (x y : BitVec 64) (p : Nat) (hp : p = x.toNat * y.toNat) (h : m.val + 18446744073709551616 * p < 115792089237316195423570985008687907853269984665640564039457584007913129639936) : (at1 m x y).val = m.val + 18446744073709551616 * p := by
  have h1 := ml_mh x y
  rw [← hp] at h1
  have h2 := ad_cy m.b (ml x y) 0 (by simp)
  have c2 := cy_le m.b (ml x y) 0 (by simp)
  have h3 := ad_cy m.c (mh x y) (cy m.b (ml x y) 0) c2
  have c3 := cy_le m.c (mh x y) (cy m.b (ml x y) 0) c2
  simp only [W4.val, at1] at h ⊢
  rw [BitVec.toNat_add]
  have := m.a.isLt
  have := m.b.isLt
  have := m.c.isLt
  have := m.d.isLt
  simp only [BitVec.toNat_ofNat, Nat.zero_mod, Nat.add_zero, BitVec.ofNat_eq_ofNat] at h2 h3 c2 c3 ⊢
  generalize (cy m.c (mh x y) (cy m.b (ml x y) 0#64)).toNat = k3 at *
  generalize (ad m.c (mh x y) (cy m.b (ml x y) 0#64)).toNat = s3 at *
  generalize (cy m.b (ml x y) 0#64).toNat = k2 at *
  generalize (ad m.b (ml x y) 0#64).toNat = s2 at *
  generalize (ml x y).toNat = l at *
  generalize (mh x y).toNat = hh at *
  omega
theorem at2_val (m : W4) (x y : BitVec 64) (p : Nat) (hp : p = x.toNat * y.toNat) (h : m.val + 340282366920938463463374607431768211456 * p < 115792089237316195423570985008687907853269984665640564039457584007913129639936) : (at2 m x y).val = m.val + 340282366920938463463374607431768211456 * p := by
  have h1 := ml_mh x y
  rw [← hp] at h1
  have h2 := ad_cy m.c (ml x y) 0 (by simp)
  have c2 := cy_le m.c (ml x y) 0 (by simp)
  have h3 := ad_cy m.d (mh x y) (cy m.c (ml x y) 0) c2
  have c3 := cy_le m.d (mh x y) (cy m.c (ml x y) 0) c2
  simp only [W4.val, at2] at h ⊢
  simp only [BitVec.toNat_ofNat, Nat.zero_mod, Nat.add_zero, BitVec.ofNat_eq_ofNat] at h2 h3 c2 c3 ⊢
  generalize (cy m.d (mh x y) (cy m.c (ml x y) 0#64)).toNat = k3 at *
  generalize (ad m.d (mh x y) (cy m.c (ml x y) 0#64)).toNat = s3 at *
  generalize (cy m.c (ml x y) 0#64).toNat = k2 at *
  generalize (ad m.c (ml x y) 0#64).toNat = s2 at *
  generalize (ml x y).toNat = l at *
  generalize (mh x y).toNat = hh at *
  omega
/-- a number of three words -/
def h3 (a b c : BitVec 64) : Nat := a.toNat + 18446744073709551616 * b.toNat + 340282366920938463463374607431768211456 * c.toNat
def prod4 (h0 h1 h2 r0 r1 : BitVec 64) : W4 := at2 (at2 (at1 (at1 ⟨ml h0 r0, mh h0 r0, 0, 0⟩ h0 r1) h1 r0) h1 r1) h2 r0
def prodW (h0 h1 h2 r0 r1 : BitVec 64) : W4 := { prod4 h0 h1 h2 r0 r1 with d := (prod4 h0 h1 h2 r0 r1).d + h2 * r1 }
theorem mul3 (a b c d e : Nat) : (a + 18446744073709551616 * b + 340282366920938463463374607431768211456 * c) * (d + 18446744073709551616 * e) = a * d + 18446744073709551616 * (a * e + b * d) + 340282366920938463463374607431768211456 * (b * e + c * d) + 6277101735386680763835789423207666416102355444464034512896 * (c * e) := by
  have t1 : a * (18446744073709551616 * e) = 18446744073709551616 * (a * e) := Nat.mul_left_comm ..
  have t2 : 18446744073709551616 * b * d = 18446744073709551616 * (b * d) := Nat.mul_assoc ..
  have t3 : 18446744073709551616 * b * (18446744073709551616 * e) = 340282366920938463463374607431768211456 * (b * e) := by rw [Nat.mul_mul_mul_comm]
  have t4 : 340282366920938463463374607431768211456 * c * d = 340282366920938463463374607431768211456 * (c * d) := Nat.mul_assoc ..
  have t5 : 340282366920938463463374607431768211456 * c * (18446744073709551616 * e) = 6277101735386680763835789423207666416102355444464034512896 * (c * e) := by rw [Nat.mul_mul_mul_comm]
  rw [Nat.add_mul, Nat.add_mul, Nat.mul_add, Nat.mul_add, Nat.mul_add, t1, t2, t3, t4, t5]
  generalize a * d = x1
  generalize a * e = x2
  generalize b * d = x3
  generalize b * e = x4
  generalize c * d = x5
  generalize c * e = x6
  omega
theorem prodW_val (h0 h1 h2 r0 r1 : BitVec 64) (h : h3 h0 h1 h2 * (r0.toNat + 18446744073709551616 * r1.toNat) < 115792089237316195423570985008687907853269984665640564039457584007913129639936) :
    (prodW h0 h1 h2 r0 r1).val = h3 h0 h1 h2 * (r0.toNat + 18446744073709551616 * r1.toNat) := by
  obtain ⟨p00, e00⟩ : ∃ p, p = h0.toNat * r0.toNat := ⟨_, rfl⟩
  obtain ⟨p01, e01⟩ : ∃ p, p = h0.toNat * r1.toNat := ⟨_, rfl⟩
  obtain ⟨p10, e10⟩ : ∃ p, p = h1.toNat * r0.toNat := ⟨_, rfl⟩
  obtain ⟨p11, e11⟩ : ∃ p, p = h1.toNat * r1.toNat := ⟨_, rfl⟩
  obtain ⟨p20, e20⟩ : ∃ p, p = h2.toNat * r0.toNat := ⟨_, rfl⟩
  obtain ⟨p21, e21⟩ : ∃ p, p = h2.toNat * r1.toNat := ⟨_, rfl⟩
  have e : h3 h0 h1 h2 * (r0.toNat + 18446744073709551616 * r1.toNat) = p00 + 18446744073709551616 * (p01 + p10) + 340282366920938463463374607431768211456 * (p11 + p20) + 6277101735386680763835789423207666416102355444464034512896 * p21 := by
    rw [e00, e01, e10, e11, e20, e21]; exact mul3 _ _ _ _ _
  rw [e] at h ⊢
  have hm0 : (W4.mk (ml h0 r0) (mh h0 r0) 0 0).val = p00 := by
    have := ml_mh h0 r0
    rw [← e00] at this
    simp only [W4.val, BitVec.ofNat_eq_ofNat, BitVec.toNat_ofNat]; omega
  have hm1 := at1_val ⟨ml h0 r0, mh h0 r0, 0, 0⟩ h0 r1 p01 e01 (by rw [hm0]; omega)
  rw [hm0] at hm1
  have hm2 := at1_val _ h1 r0 p10 e10 (by rw [hm1]; omega)
  rw [hm1] at hm2
  have hm3 := at2_val _ h1 r1 p11 e11 (by rw [hm2]; omega)
  rw [hm2] at hm3
  have hm4 := at2_val _ h2 r0 p20 e20 (by rw [hm3]; omega)
  rw [hm3] at hm4
  have hd : (h2 * r1).toNat = p21 := by rw [BitVec.toNat_mul, ← e21]; omega
  change (prod4 h0 h1 h2 r0 r1).val = _ at hm4
  unfold prodW
  simp only [W4.val] at hm4 ⊢
  rw [BitVec.toNat_add, hd]
  have := (prod4 h0 h1 h2 r0 r1).d.isLt
  omega
/-- a sum of three words and two -/
def addW (h : BitVec 64 × BitVec 64 × BitVec 64) (x y : BitVec 64) : BitVec 64 × BitVec 64 × BitVec 64 := (ad h.1 x 0, ad h.2.1 y (cy h.1 x 0), h.2.2 + cy h.2.1 y (cy h.1 x 0))
def v3 (h : BitVec 64 × BitVec 64 × BitVec 64) : Nat := h3 h.1 h.2.1 h.2.2
theorem addW_val (h : BitVec 64 × BitVec 64 × BitVec 64) (x y : BitVec 64) (hs : h.2.2.toNat ≤ 1000) : v3 (addW h x y) = v3 h + x.toNat + 18446744073709551616 * y.toNat := by
  have h2 := ad_cy h.1 x 0 (by simp)
  have c2 := cy_le h.1 x 0 (by simp)
  have h3' := ad_cy h.2.1 y (cy h.1 x 0) c2
  have c3 := cy_le h.2.1 y (cy h.1 x 0) c2
  simp only [v3, h3, addW]
  rw [BitVec.toNat_add]
  simp only [BitVec.toNat_ofNat, Nat.zero_mod, Nat.add_zero, BitVec.ofNat_eq_ofNat] at h2 h3' c2 c3 ⊢
  omega
theorem addW_top (h : BitVec 64 × BitVec 64 × BitVec 64) (x y : BitVec 64) (hs : h.2.2.toNat ≤ 1000) : (addW h x y).2.2.toNat ≤ h.2.2.toNat + 1 := by
  have c2 := cy_le h.1 x 0 (by simp)
  have c3 := cy_le h.2.1 y (cy h.1 x 0) c2
  simp only [addW]
  rw [BitVec.toNat_add]
  omega
theorem and3 (x : BitVec 64) : (x &&& 3#64).toNat = x.toNat % 4 := by
  rw [BitVec.toNat_and, show (3#64).toNat = 2 ^ 2 - 1 from rfl, Nat.and_two_pow_sub_one_eq_mod]
theorem andn3 (x : BitVec 64) : (x &&& ~~~(3#64)).toNat = x.toNat / 4 * 4 := by
  have h1 : (x &&& ~~~(3#64)) + (x &&& 3#64) = x := by
    rw [BitVec.add_eq_or_of_and_eq_zero]
    · ext i hi
      simp only [BitVec.getElem_or, BitVec.getElem_and, BitVec.getElem_not]
      cases x[i] <;> cases (3#64)[i] <;> rfl
    · ext i hi
      simp only [BitVec.getElem_and, BitVec.getElem_not, BitVec.getElem_zero]
      cases x[i] <;> cases (3#64)[i] <;> rfl
  have h2 := congrArg BitVec.toNat h1
  rw [BitVec.toNat_add, and3] at h2
  have h3 : (x &&& ~~~(3#64)).toNat ≤ x.toNat := by rw [BitVec.toNat_and]; exact Nat.and_le_left
  have := x.isLt
  omega
theorem shr_or (c d : BitVec 64) : (c >>> 2 ||| d <<< 62).toNat = c.toNat / 4 + d.toNat % 4 * 4611686018427387904 := by
  have h : (c >>> 2) &&& (d <<< 62) = 0#64 := by
    ext i hi
    simp only [BitVec.getElem_and, BitVec.getElem_zero, BitVec.getElem_ushiftRight, BitVec.getElem_shiftLeft]
    by_cases h : i < 62
    · simp [h]
    · rw [BitVec.getLsbD_of_ge c (2 + i) (by omega)]; simp
  rw [← BitVec.add_eq_or_of_and_eq_zero _ _ h, BitVec.toNat_add, BitVec.toNat_ushiftRight, BitVec.toNat_shiftLeft, Nat.shiftRight_eq_div_pow, Nat.shiftLeft_eq]
  have := c.isLt
  have := d.isLt
  omega
theorem shr2 (d : BitVec 64) : (d >>> 2).toNat = d.toNat / 4 := by rw [BitVec.toNat_ushiftRight, Nat.shiftRight_eq_div_pow]
/-- what is beyond 130 bits counts five times -/
def redW (m : W4) : BitVec 64 × BitVec 64 × BitVec 64 := addW (addW (m.a, m.b, m.c &&& 3#64) (m.c &&& ~~~(3#64)) m.d) (m.c >>> 2 ||| m.d <<< 62) (m.d >>> 2)
theorem redW_val (m : W4) : v3 (redW m) = m.val % 1361129467683753853853498429727072845824 + 5 * (m.val / 1361129467683753853853498429727072845824) := by
  have ha := m.a.isLt
  have hb := m.b.isLt
  have hc := m.c.isLt
  have hd := m.d.isLt
  have t0 : (m.c &&& 3#64).toNat ≤ 1000 := by rw [and3]; omega
  have t1 := addW_top (m.a, m.b, m.c &&& 3#64) (m.c &&& ~~~(3#64)) m.d t0
  unfold redW
  rw [addW_val _ _ _ (by rw [and3] at t1; omega), addW_val _ _ _ t0]
  simp only [v3, h3]
  rw [and3, andn3, shr_or, shr2]
  simp only [W4.val]
  omega
/-- times r, less what is beyond 130 bits -/
def timesW (h : BitVec 64 × BitVec 64 × BitVec 64) (r0 r1 : BitVec 64) : BitVec 64 × BitVec 64 × BitVec 64 := redW (prodW h.1 h.2.1 h.2.2 r0 r1)
/-- what a piece makes of the sum -/
def addP (h : BitVec 64 × BitVec 64 × BitVec 64) (x y z : BitVec 64) : BitVec 64 × BitVec 64 × BitVec 64 := (ad h.1 x 0, ad h.2.1 y (cy h.1 x 0), h.2.2 + (z + cy h.2.1 y (cy h.1 x 0)))
theorem addP_val (h : BitVec 64 × BitVec 64 × BitVec 64) (x y z : BitVec 64) (hs : h.2.2.toNat ≤ 1000) (hz : z.toNat ≤ 1) : v3 (addP h x y z) = v3 h + x.toNat + 18446744073709551616 * y.toNat + 340282366920938463463374607431768211456 * z.toNat := by
  have h2 := ad_cy h.1 x 0 (by simp)
  have c2 := cy_le h.1 x 0 (by simp)
  have h3' := ad_cy h.2.1 y (cy h.1 x 0) c2
  have c3 := cy_le h.2.1 y (cy h.1 x 0) c2
  simp only [v3, h3, addP]
  rw [BitVec.toNat_add, BitVec.toNat_add]
  simp only [BitVec.toNat_ofNat, Nat.zero_mod, Nat.add_zero, BitVec.ofNat_eq_ofNat] at h2 h3' c2 c3 ⊢
  omega
/-- the sum's bounds: three bits beyond the words at most -/
def smallW (h : BitVec 64 × BitVec 64 × BitVec 64) : Prop := v3 h < 1701411834604692317316873037158841057280
theorem smallW.top {h : BitVec 64 × BitVec 64 × BitVec 64} (hs : smallW h) : h.2.2.toNat ≤ 4 := by
  unfold smallW v3 h3 at hs; omega
/-- 2^130 - 5 -/
def prm : Nat := 1361129467683753853853498429727072845819
theorem red_mod (n : Nat) : (n % 1361129467683753853853498429727072845824 + 5 * (n / 1361129467683753853853498429727072845824)) % prm = n % prm := by
  have h := Nat.div_add_mod n 1361129467683753853853498429727072845824
  generalize n / 1361129467683753853853498429727072845824 = q at *
  generalize n % 1361129467683753853853498429727072845824 = r at *
  rw [← h, show 1361129467683753853853498429727072845824 * q + r = (r + 5 * q) + prm * q by unfold prm; omega, Nat.add_mul_mod_self_left]
/-- a piece is added, and all is multiplied -/
theorem stepW (h : BitVec 64 × BitVec 64 × BitVec 64) (x y z r0 r1 : BitVec 64) (hs : smallW h) (hz : z.toNat ≤ 1) (hr0 : r0.toNat < 1152921504606846976) (hr1 : r1.toNat < 1152921504606846976) :
    smallW (timesW (addP h x y z) r0 r1) ∧ v3 (timesW (addP h x y z) r0 r1) % prm = (v3 h + x.toNat + 18446744073709551616 * y.toNat + 340282366920938463463374607431768211456 * z.toNat) * (r0.toNat + 18446744073709551616 * r1.toNat) % prm := by
  have ht := hs.top
  have hv := addP_val h x y z (by omega) hz
  have hx := x.isLt
  have hy := y.isLt
  unfold smallW at hs
  have hb : v3 (addP h x y z) ≤ 2722258935367507707706996859454145691647 := by omega
  have hrb : r0.toNat + 18446744073709551616 * r1.toNat ≤ 21267647932558653966460912964485513215 := by omega
  have hm : v3 (addP h x y z) * (r0.toNat + 18446744073709551616 * r1.toNat) ≤ 2722258935367507707706996859454145691647 * 21267647932558653966460912964485513215 := Nat.mul_le_mul hb hrb
  have hp := prodW_val (addP h x y z).1 (addP h x y z).2.1 (addP h x y z).2.2 r0 r1 (by change v3 (addP h x y z) * _ < _; omega)
  change _ = v3 (addP h x y z) * _ at hp
  have hq := redW_val (prodW (addP h x y z).1 (addP h x y z).2.1 (addP h x y z).2.2 r0 r1)
  rw [hp] at hq
  refine ⟨?_, ?_⟩
  · unfold smallW timesW
    rw [hq]
    generalize v3 (addP h x y z) * (r0.toNat + 18446744073709551616 * r1.toNat) = N at *
    omega
  · unfold timesW
    rw [hq, red_mod, hv]
/-- less 2^130 - 5, if it is as much -/
def lessW (h : BitVec 64 × BitVec 64 × BitVec 64) : BitVec 64 × BitVec 64 × BitVec 64 :=
  if 4 ≤ (h.2.2 + cy h.2.1 0 (cy h.1 5 0)).toNat then (ad h.1 5 0, ad h.2.1 0 (cy h.1 5 0), (h.2.2 + cy h.2.1 0 (cy h.1 5 0)) - 4) else h
theorem lessW_val (h : BitVec 64 × BitVec 64 × BitVec 64) (hs : h.2.2.toNat ≤ 1000) : v3 (lessW h) = if prm ≤ v3 h then v3 h - prm else v3 h := by
  have h2 := ad_cy h.1 5 0 (by simp)
  have c2 := cy_le h.1 5 0 (by simp)
  have h3' := ad_cy h.2.1 0 (cy h.1 5 0) c2
  have c3 := cy_le h.2.1 0 (cy h.1 5 0) c2
  have hb := (ad h.1 5 0).isLt
  have hb' := (ad h.2.1 0 (cy h.1 5 0)).isLt
  unfold lessW
  simp only [BitVec.toNat_ofNat, Nat.zero_mod, Nat.add_zero, BitVec.ofNat_eq_ofNat, Nat.reducePow, Nat.reduceMod] at h2 h3' c2 c3 hb hb' ⊢
  have e : (h.2.2 + cy h.2.1 0#64 (cy h.1 5#64 0#64)).toNat = h.2.2.toNat + (cy h.2.1 0#64 (cy h.1 5#64 0#64)).toNat := by rw [BitVec.toNat_add]; omega
  rw [e]
  have hv : v3 h = h.1.toNat + 18446744073709551616 * h.2.1.toNat + 340282366920938463463374607431768211456 * h.2.2.toNat := rfl
  generalize hk3 : (cy h.2.1 0#64 (cy h.1 5#64 0#64)).toNat = k3 at *
  generalize hk2 : (cy h.1 5#64 0#64).toNat = k2 at *
  split
  · rename_i h4
    have hp : prm ≤ v3 h := by rw [hv]; unfold prm; omega
    rw [if_pos hp, hv]
    simp only [v3, h3, prm]
    rw [BitVec.toNat_sub, e]
    simp only [BitVec.toNat_ofNat, Nat.reducePow, Nat.reduceMod]
    omega
  · rename_i h4
    have hp : ¬ prm ≤ v3 h := by rw [hv]; unfold prm; omega
    rw [if_neg hp]
theorem lessW_top (h : BitVec 64 × BitVec 64 × BitVec 64) (hs : h.2.2.toNat ≤ 1000) : (lessW h).2.2.toNat ≤ 1000 := by
  have c2 := cy_le h.1 5 0 (by simp)
  have c3 := cy_le h.2.1 0 (cy h.1 5 0) c2
  unfold lessW
  generalize cy h.2.1 0 (cy h.1 5 0) = k at *
  split
  · rename_i h4
    dsimp only
    rw [BitVec.toNat_sub]
    simp only [BitVec.toNat_ofNat, BitVec.ofNat_eq_ofNat, Nat.reducePow, Nat.reduceMod, BitVec.toNat_add] at *
    omega
  · exact hs
/-- the mark's two words -/
def endW (h : BitVec 64 × BitVec 64 × BitVec 64) (s0 s1 : BitVec 64) : BitVec 64 × BitVec 64 := (ad (lessW (lessW h)).1 s0 0, ad (lessW (lessW h)).2.1 s1 (cy (lessW (lessW h)).1 s0 0))
theorem endW_val (h : BitVec 64 × BitVec 64 × BitVec 64) (s0 s1 : BitVec 64) (hs : smallW h) :
    (endW h s0 s1).1.toNat + 18446744073709551616 * (endW h s0 s1).2.toNat = (v3 h % prm + (s0.toNat + 18446744073709551616 * s1.toNat)) % 340282366920938463463374607431768211456 := by
  have ht := hs.top
  have e1 := lessW_val h (by omega)
  have e2 := lessW_val (lessW h) (lessW_top h (by omega))
  have e3 : v3 (lessW (lessW h)) = v3 h % prm := by
    unfold smallW at hs
    by_cases hp : prm ≤ v3 h
    · rw [if_pos hp] at e1
      rw [e2, if_neg (by rw [e1]; unfold prm at *; omega), e1]
      unfold prm at *; omega
    · rw [if_neg hp] at e1
      rw [e2, e1, if_neg hp]
      unfold prm at *; omega
  rw [← e3]
  unfold endW
  generalize lessW (lessW h) = g at *
  clear e1 e2 e3
  have h2 := ad_cy g.1 s0 0 (by simp)
  have c2 := cy_le g.1 s0 0 (by simp)
  have h3' := ad_cy g.2.1 s1 (cy g.1 s0 0) c2
  have c3 := cy_le g.2.1 s1 (cy g.1 s0 0) c2
  have b1 := (ad g.1 s0 0).isLt
  have b2 := (ad g.2.1 s1 (cy g.1 s0 0)).isLt
  simp only [v3, h3]
  simp only [BitVec.toNat_ofNat, Nat.zero_mod, Nat.add_zero, BitVec.ofNat_eq_ofNat] at h2 h3' c2 c3 b1 b2 ⊢
  generalize (cy g.2.1 s1 (cy g.1 s0 0#64)).toNat = k3 at *
  generalize (ad g.2.1 s1 (cy g.1 s0 0#64)).toNat = a3 at *
  generalize (cy g.1 s0 0#64).toNat = k2 at *
  generalize (ad g.1 s0 0#64).toNat = a2 at *
  generalize g.1.toNat = g1 at *
  generalize g.2.1.toNat = g2 at *
  generalize g.2.2.toNat = g3 at *
  generalize s0.toNat = t0 at *
  generalize s1.toNat = t1 at *
  clear hs ht
  have e : g1 + 18446744073709551616 * g2 + 340282366920938463463374607431768211456 * g3 + (t0 + 18446744073709551616 * t1) = (a2 + 18446744073709551616 * a3) + 340282366920938463463374607431768211456 * (g3 + k3) := by omega
  rw [e, Nat.add_mul_mod_self_left]
  omega
end Go.Proofs.Ytkoefhbmkmepaaa
