/- PLAIN LEMMAS: bytes as numbers, the lowest first; what a text's mark is. No program, no conditions. -/
import Derived.Test.YtkoefhbmkmepaaaPolyW
import Derived.Test.YtkoefhbmkmepaaaPut
namespace Go.Proofs.Ytkoefhbmkmepaaa
set_option linter.unusedVariables false
set_option linter.unusedSimpArgs false

/-- bytes as a number, the lowest first -/
def leN : List (BitVec 8) → Nat
  | [] => 0
  | x :: xs => x.toNat + 256 * leN xs
/-- digits as a number, the lowest first -/
def valN : List Nat → Nat
  | [] => 0
  | x :: xs => x + 256 * valN xs
theorem leN_val : ∀ xs : List (BitVec 8), leN xs = valN (xs.map BitVec.toNat)
  | [] => rfl
  | x :: xs => by simp only [leN, valN, List.map_cons]; rw [leN_val xs]
theorem valN_append : ∀ xs ys : List Nat, valN (xs ++ ys) = valN xs + 256 ^ xs.length * valN ys
  | [], ys => by simp [valN]
  | x :: xs, ys => by
    simp only [List.cons_append, valN, List.length_cons]
    rw [valN_append xs ys, Nat.pow_succ, Nat.mul_add, Nat.mul_comm (256 ^ xs.length) 256, Nat.mul_assoc]; omega
theorem leN_append (xs ys : List (BitVec 8)) : leN (xs ++ ys) = leN xs + 256 ^ xs.length * leN ys := by
  rw [leN_val, leN_val, leN_val, List.map_append, valN_append, List.length_map]
def D256 (xs : List Nat) : Prop := ∀ x ∈ xs, x < 256
theorem valN_lt : ∀ xs : List Nat, D256 xs → valN xs < 256 ^ xs.length
  | [], _ => by simp [valN]
  | x :: xs, h => by
    have h1 := valN_lt xs (fun y hy => h y (by simp [hy]))
    have h2 := h x (by simp)
    simp only [valN, List.length_cons, Nat.pow_succ]; omega
theorem D256_bytes (xs : List (BitVec 8)) : D256 (xs.map BitVec.toNat) := by
  intro x hx; obtain ⟨y, _, rfl⟩ := List.mem_map.1 hx; exact y.isLt
theorem leN_lt (xs : List (BitVec 8)) : leN xs < 256 ^ xs.length := by
  have := valN_lt _ (D256_bytes xs); rwa [← leN_val, List.length_map] at this
theorem valN_digit : ∀ (xs : List Nat) (i : Nat), D256 xs → valN xs / 256 ^ i % 256 = xs.getD i 0
  | [], i, _ => by simp [valN]
  | x :: xs, 0, h => by have := h x (by simp); simp only [valN, Nat.pow_zero, Nat.div_one, List.getD_cons_zero]; omega
  | x :: xs, i + 1, h => by
    have h1 := valN_digit xs i (fun y hy => h y (by simp [hy]))
    have h2 := h x (by simp)
    rw [List.getD_cons_succ, ← h1, Nat.pow_succ, Nat.mul_comm, ← Nat.div_div_eq_div_mul]
    simp only [valN]
    rw [show (x + 256 * valN xs) / 256 = valN xs by omega]
theorem valN_take_drop (xs : List Nat) (k : Nat) (h : k ≤ xs.length) : valN xs = valN (xs.take k) + 256 ^ k * valN (xs.drop k) := by
  have := valN_append (xs.take k) (xs.drop k)
  rwa [List.take_append_drop, List.length_take, Nat.min_eq_left h] at this
theorem valN_snoc (xs : List Nat) (x : Nat) : valN (xs ++ [x]) = valN xs + 256 ^ xs.length * x := by rw [valN_append]; simp [valN]
theorem valN_zeros (n : Nat) : valN (List.replicate n 0) = 0 := by
  induction n with
  | zero => rfl
  | succ n ih => rw [List.replicate_succ]; simp only [valN, ih]
theorem leN_zeros (n : Nat) : leN (List.replicate n 0#8) = 0 := by rw [leN_val, List.map_replicate]; exact valN_zeros n
/-- the first eight bytes as a word -/
def low8 (xs : List (BitVec 8)) : BitVec 64 := BitVec.ofNat 64 (leN (xs.take 8))
theorem low8_toNat (xs : List (BitVec 8)) : (low8 xs).toNat = leN (xs.take 8) := by
  unfold low8
  rw [BitVec.toNat_ofNat, Nat.mod_eq_of_lt]
  have h := leN_lt (xs.take 8)
  refine Nat.lt_of_lt_of_le h ?_
  rw [show (2 : Nat) ^ 64 = 256 ^ 8 from rfl]
  exact Nat.pow_le_pow_right (by omega) (by rw [List.length_take]; omega)
theorem le_toNat (n : BitVec 64) (k : Nat) : (le n k).toNat = n.toNat / 256 ^ k % 256 := by
  unfold le
  rw [BitVec.toNat_setWidth, BitVec.toNat_ushiftRight, Nat.shiftRight_eq_div_pow, Nat.pow_mul]
theorem le8_val (n : BitVec 64) : leN (le8 n) = n.toNat := by
  have h := n.isLt
  simp only [le8, show List.range 8 = [0, 1, 2, 3, 4, 5, 6, 7] from rfl, List.map_cons, List.map_nil, leN, le_toNat, Nat.reducePow]
  omega
theorem le_and (x y : BitVec 64) (k : Nat) : le (x &&& y) k = le x k &&& le y k := by
  unfold le
  ext i hi
  simp
theorem le_low8 (xs : List (BitVec 8)) (k : Nat) (hk : k < 8) (hl : 8 ≤ xs.length) : le (low8 xs) k = xs.getD k 0#8 := by
  apply BitVec.eq_of_toNat_eq
  rw [le_toNat, low8_toNat, leN_val, valN_digit _ _ (D256_bytes _)]
  simp only [List.getD, List.getElem?_map, List.getElem?_take, hk, if_true]
  cases h : xs[k]? with
  | none => rw [List.getElem?_eq_none_iff] at h; omega
  | some v => simp
theorem byte_ff : ∀ x : BitVec 8, x &&& 255#8 = x := by decide
theorem byte_0f : ∀ x : BitVec 8, (x &&& 15#8).toNat = x.toNat % 16 := by decide
theorem byte_fc : ∀ x : BitVec 8, (x &&& 252#8).toNat = x.toNat / 4 * 4 := by decide
/-- the multiplier's words -/
def r0W (key : List (BitVec 8)) : BitVec 64 := low8 key &&& 1152921487695413247#64
def r1W (key : List (BitVec 8)) : BitVec 64 := low8 (key.drop 8) &&& 1152921487695413244#64
theorem r0W_lt (key : List (BitVec 8)) : (r0W key).toNat < 1152921504606846976 := by
  unfold r0W; rw [BitVec.toNat_and]
  exact Nat.lt_of_le_of_lt Nat.and_le_right (by decide)
theorem r1W_lt (key : List (BitVec 8)) : (r1W key).toNat < 1152921504606846976 := by
  unfold r1W; rw [BitVec.toNat_and]
  exact Nat.lt_of_le_of_lt Nat.and_le_right (by decide)
def rN (key : List (BitVec 8)) : Nat := (r0W key).toNat + 18446744073709551616 * (r1W key).toNat
/-- the document's digits of the multiplier -/
def rDigits (key : List (BitVec 8)) : List Nat := (List.range 16).map fun i =>
  let d := (key.getD i 0#8).toNat
  if i % 4 = 3 then d % 16 else if i % 4 = 0 ∧ i ≠ 0 then d / 4 * 4 else d
theorem val16 (k0 k1 k2 k3 k4 k5 k6 k7 k8 k9 k10 k11 k12 k13 k14 k15 : Nat) : (k0 + 256 * (k1 + 256 * (k2 + 256 * (k3 + 256 * (k4 + 256 * (k5 + 256 * (k6 + 256 * (k7 + 256 * (0))))))))) + 18446744073709551616 * (k8 + 256 * (k9 + 256 * (k10 + 256 * (k11 + 256 * (k12 + 256 * (k13 + 256 * (k14 + 256 * (k15 + 256 * (0))))))))) = k0 + 256 * (k1 + 256 * (k2 + 256 * (k3 + 256 * (k4 + 256 * (k5 + 256 * (k6 + 256 * (k7 + 256 * (k8 + 256 * (k9 + 256 * (k10 + 256 * (k11 + 256 * (k12 + 256 * (k13 + 256 * (k14 + 256 * (k15 + 256 * (0)))))))))))))))) := by omega
theorem rDigits_val (key : List (BitVec 8)) (h : key.length = 32) : valN (rDigits key) = rN key := by
  have g0 : ∀ k, k < 8 → le (low8 key) k = key.getD k 0#8 := fun k hk => le_low8 key k hk (by omega)
  have g1 : ∀ k, k < 8 → le (low8 (key.drop 8)) k = key.getD (8 + k) 0#8 := fun k hk => by
    rw [le_low8 _ k hk (by rw [List.length_drop]; omega)]; simp [List.getD]
  have e0 : (r0W key).toNat = leN ((List.range 8).map fun k => key.getD k 0#8 &&& le 1152921487695413247#64 k) := by
    rw [← le8_val]; unfold le8
    congr 1
    refine List.map_congr_left fun k hk => ?_
    unfold r0W; rw [le_and, g0 k (List.mem_range.1 hk)]
  have e1 : (r1W key).toNat = leN ((List.range 8).map fun k => key.getD (8 + k) 0#8 &&& le 1152921487695413244#64 k) := by
    rw [← le8_val]; unfold le8
    congr 1
    refine List.map_congr_left fun k hk => ?_
    unfold r1W; rw [le_and, g1 k (List.mem_range.1 hk)]
  have m0 : (List.range 8).map (le 1152921487695413247#64) = [255#8, 255#8, 255#8, 15#8, 252#8, 255#8, 255#8, 15#8] := by kernel_rfl
  have m1 : (List.range 8).map (le 1152921487695413244#64) = [252#8, 255#8, 255#8, 15#8, 252#8, 255#8, 255#8, 15#8] := by kernel_rfl
  simp only [show List.range 8 = [0, 1, 2, 3, 4, 5, 6, 7] from rfl, List.map_cons, List.map_nil, List.cons.injEq, and_true] at m0 m1 e0 e1
  obtain ⟨m00, m01, m02, m03, m04, m05, m06, m07⟩ := m0
  obtain ⟨m10, m11, m12, m13, m14, m15, m16, m17⟩ := m1
  rw [m00, m01, m02, m03, m04, m05, m06, m07] at e0
  rw [m10, m11, m12, m13, m14, m15, m16, m17] at e1
  unfold rN
  rw [e0, e1]
  have ed : rDigits key = [(key.getD 0 0#8).toNat, (key.getD 1 0#8).toNat, (key.getD 2 0#8).toNat, (key.getD 3 0#8).toNat % 16, (key.getD 4 0#8).toNat / 4 * 4, (key.getD 5 0#8).toNat, (key.getD 6 0#8).toNat, (key.getD 7 0#8).toNat % 16, (key.getD 8 0#8).toNat / 4 * 4, (key.getD 9 0#8).toNat, (key.getD 10 0#8).toNat, (key.getD 11 0#8).toNat % 16, (key.getD 12 0#8).toNat / 4 * 4, (key.getD 13 0#8).toNat, (key.getD 14 0#8).toNat, (key.getD 15 0#8).toNat % 16] := rfl
  rw [ed]
  simp only [leN, valN, byte_ff, byte_0f, byte_fc, Nat.reduceAdd]
  exact (val16 _ _ _ _ _ _ _ _ _ _ _ _ _ _ _ _).symm
/-- a piece of 16 bytes at most, with a mark behind it, as three words -/
def padP (p : List (BitVec 8)) : List (BitVec 8) := p ++ [1#8] ++ List.replicate (16 - p.length) 0#8
theorem padP_len (p : List (BitVec 8)) (h : p.length ≤ 16) : (padP p).length = 17 := by simp [padP]; omega
theorem padP_val (p : List (BitVec 8)) (h : p.length ≤ 16) :
    (low8 (padP p)).toNat + 18446744073709551616 * (low8 ((padP p).drop 8)).toNat + 340282366920938463463374607431768211456 * ((padP p).getD 16 0#8).toNat = leN p + 256 ^ p.length := by
  have hl := padP_len p h
  have e : leN (padP p) = leN p + 256 ^ p.length := by
    unfold padP; rw [leN_append, leN_append, leN_zeros]; simp [leN]
  rw [← e, low8_toNat, low8_toNat]
  obtain ⟨q, hq⟩ : ∃ q, q = padP p := ⟨_, rfl⟩
  rw [← hq] at hl ⊢
  have t1 : leN q = leN (q.take 8) + 256 ^ 8 * leN (q.drop 8) := by
    have := leN_append (q.take 8) (q.drop 8)
    rwa [List.take_append_drop, List.length_take, hl] at this
  have t2 : leN (q.drop 8) = leN ((q.drop 8).take 8) + 256 ^ 8 * leN (q.drop 16) := by
    have := leN_append ((q.drop 8).take 8) ((q.drop 8).drop 8)
    rwa [List.take_append_drop, List.length_take, List.length_drop, hl, List.drop_drop] at this
  have t3 : leN (q.drop 16) = (q.getD 16 0#8).toNat := by
    rw [List.drop_eq_getElem_cons (by omega), List.drop_eq_nil_of_le (by omega)]
    simp [leN, List.getD, hl]
  rw [t1, t2, t3]; omega
theorem padP_top (p : List (BitVec 8)) (h : p.length ≤ 16) : ((padP p).getD 16 0#8).toNat ≤ 1 := by
  unfold padP
  rcases Nat.lt_or_ge p.length 16 with h1 | h1
  · rw [List.getD, List.getElem?_append_right (by simp; omega), List.getElem?_replicate]
    split <;> simp
  · rw [List.getD, List.getElem?_append_left (by simp; omega), List.getElem?_append_right (by omega)]
    rw [show 16 - p.length = 0 by omega]; simp
/-- a text's pieces of 16 bytes, the last one perhaps fewer -/
def pieceOf (text : List (BitVec 8)) (k : Nat) : List (BitVec 8) := (text.drop (16 * k)).take 16
theorem pieceOf_le (text : List (BitVec 8)) (k : Nat) : (pieceOf text k).length ≤ 16 := by unfold pieceOf; rw [List.length_take]; omega
/-- the sum behind k pieces -/
def polyK (r : Nat) (text : List (BitVec 8)) : Nat → Nat
  | 0 => 0
  | k + 1 => (polyK r text k + (leN (pieceOf text k) + 256 ^ (pieceOf text k).length)) * r % prm
theorem polyK_lt (r : Nat) (text : List (BitVec 8)) (k : Nat) : polyK r text k < prm := by
  cases k with
  | zero => exact (by decide : 0 < prm)
  | succ k => exact Nat.mod_lt _ (by decide)
def sN (key : List (BitVec 8)) : Nat := leN (key.drop 16)
def markN (key text : List (BitVec 8)) : Nat := (polyK (rN key) text ((text.length + 15) / 16) + sN key) % 340282366920938463463374607431768211456
def bytes16 (n : Nat) : List (BitVec 8) := (List.range 16).map fun i => BitVec.ofNat 8 (n / 256 ^ i)
theorem bytes16_len (n : Nat) : (bytes16 n).length = 16 := by simp [bytes16]
/-- a text's mark -/
def markV (key text : List (BitVec 8)) : List (BitVec 8) := bytes16 (markN key text)
theorem markV_len (key text : List (BitVec 8)) : (markV key text).length = 16 := bytes16_len _
theorem bytes16_le8 (a b : BitVec 64) : le8 a ++ le8 b = bytes16 (a.toNat + 18446744073709551616 * b.toNat) := by
  have ha := a.isLt
  have hb := b.isLt
  simp only [le8, bytes16, show List.range 8 = [0, 1, 2, 3, 4, 5, 6, 7] from rfl, show List.range 16 = [0, 1, 2, 3, 4, 5, 6, 7, 8, 9, 10, 11, 12, 13, 14, 15] from rfl, List.map_cons, List.map_nil, List.cons_append, List.nil_append, List.cons.injEq, and_true, true_and]
  refine ⟨?_, ?_, ?_, ?_, ?_, ?_, ?_, ?_, ?_, ?_, ?_, ?_, ?_, ?_, ?_, ?_⟩ <;>
  · apply BitVec.eq_of_toNat_eq
    rw [le_toNat, BitVec.toNat_ofNat]
    simp only [Nat.reducePow]
    omega
theorem sN_words (key : List (BitVec 8)) (h : key.length = 32) : (low8 (key.drop 16)).toNat + 18446744073709551616 * (low8 (key.drop 24)).toNat = sN key := by
  rw [low8_toNat, low8_toNat]
  unfold sN
  have t := leN_append ((key.drop 16).take 8) ((key.drop 16).drop 8)
  rw [List.take_append_drop, List.length_take, List.length_drop, h, List.drop_drop] at t
  rw [t, List.take_of_length_le (l := key.drop 24) (by rw [List.length_drop]; omega)]
  rfl
theorem polyW_step {h : BitVec 64 × BitVec 64 × BitVec 64} {key text : List (BitVec 8)} {k : Nat} (hs : smallW h) (hv : v3 h % prm = polyK (rN key) text k) :
    smallW (timesW (addP h (low8 (padP (pieceOf text k))) (low8 ((padP (pieceOf text k)).drop 8)) (((padP (pieceOf text k)).getD 16 0#8).setWidth 64)) (r0W key) (r1W key)) ∧
      v3 (timesW (addP h (low8 (padP (pieceOf text k))) (low8 ((padP (pieceOf text k)).drop 8)) (((padP (pieceOf text k)).getD 16 0#8).setWidth 64)) (r0W key) (r1W key)) % prm = polyK (rN key) text (k + 1) := by
  have hz : (((padP (pieceOf text k)).getD 16 0#8).setWidth 64).toNat = ((padP (pieceOf text k)).getD 16 0#8).toNat := by rw [BitVec.toNat_setWidth]; have := ((padP (pieceOf text k)).getD 16 0#8).isLt; omega
  have h1 := stepW h (low8 (padP (pieceOf text k))) (low8 ((padP (pieceOf text k)).drop 8)) (((padP (pieceOf text k)).getD 16 0#8).setWidth 64) (r0W key) (r1W key) hs (by rw [hz]; exact padP_top _ (pieceOf_le _ _)) (r0W_lt _) (r1W_lt _)
  refine ⟨h1.1, h1.2.trans ?_⟩
  rw [hz]
  have hp := padP_val (pieceOf text k) (pieceOf_le _ _)
  rw [show v3 h + (low8 (padP (pieceOf text k))).toNat + 18446744073709551616 * (low8 ((padP (pieceOf text k)).drop 8)).toNat + 340282366920938463463374607431768211456 * ((padP (pieceOf text k)).getD 16 0#8).toNat = v3 h + (leN (pieceOf text k) + 256 ^ (pieceOf text k).length) by omega]
  change _ * rN key % prm = _
  simp only [polyK]
  rw [← hv, Nat.mul_mod, ← Nat.mod_add_mod (v3 h) prm, ← Nat.mul_mod]
end Go.Proofs.Ytkoefhbmkmepaaa
