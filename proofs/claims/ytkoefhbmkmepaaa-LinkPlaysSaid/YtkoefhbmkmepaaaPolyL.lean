/- CONTRACTS: math/bits.Add64 and Mul64; aead.low, aead.fill. -/
import Derived.Test.YtkoefhbmkmepaaaPolyD
import Derived.Laws.Externs
import Derived.Lib.Mul64
namespace Go.Proofs.Ytkoefhbmkmepaaa
open Go.RowKit
set_option linter.unusedVariables false
set_option linter.unusedSimpArgs false

theorem add64_go (x y c : BitVec 64) (hc : c.toNat ≤ 1) (w : World) :
    (callFunc 70 #[.int .u64 (bv x), .int .u64 (bv y), .int .u64 (bv c)]).run Try.prog w = .ok (.value (.tuple #[.int .u64 (bv (ad x y c)), .int .u64 (bv (cy x y c))])) w := by
  have h := ad_cy x y c hc
  have hc' := cy_le x y c hc
  have hx := x.isLt
  have hy := y.isLt
  have ha := (ad x y c).isLt
  rw [run_callFunc_extern Try.func70 (by kernel_rfl) (by kernel_rfl) (by kernel_rfl) (e := add64Entry) (by kernel_rfl), show bv x = ((x.toNat : Nat) : Int) from rfl, show bv y = ((y.toNat : Nat) : Int) from rfl, show bv c = ((c.toNat : Nat) : Int) from rfl, run_add64 x.toNat y.toNat c.toNat (by omega) (by omega) (by omega) (by omega)]
  simp only [Result.andThen, bv]
  rw [show ((x.toNat : Int) + (y.toNat : Int) + (c.toNat : Int)) % 18446744073709551616 = ((ad x y c).toNat : Int) by omega, show ((x.toNat : Int) + (y.toNat : Int) + (c.toNat : Int)) / 18446744073709551616 = ((cy x y c).toNat : Int) by omega]
theorem add64_zero (x y : BitVec 64) (w : World) :
    (callFunc 70 #[.int .u64 (bv x), .int .u64 (bv y), .int .u64 0]).run Try.prog w = .ok (.value (.tuple #[.int .u64 (bv (ad x y 0)), .int .u64 (bv (cy x y 0))])) w := add64_go x y 0 (by simp) w
theorem add64_five (x : BitVec 64) (w : World) :
    (callFunc 70 #[.int .u64 (bv x), .int .u64 5, .int .u64 0]).run Try.prog w = .ok (.value (.tuple #[.int .u64 (bv (ad x 5 0)), .int .u64 (bv (cy x 5 0))])) w := add64_go x 5 0 (by simp) w
theorem add64_none (x c : BitVec 64) (hc : c.toNat ≤ 1) (w : World) :
    (callFunc 70 #[.int .u64 (bv x), .int .u64 0, .int .u64 (bv c)]).run Try.prog w = .ok (.value (.tuple #[.int .u64 (bv (ad x 0 c)), .int .u64 (bv (cy x 0 c))])) w := add64_go x 0 c hc w
theorem mh_eq (x y : BitVec 64) : (x >>> 32) * (y >>> 32) + ((x >>> 32) * (y &&& 4294967295#64) + ((x &&& 4294967295#64) * (y &&& 4294967295#64)) >>> 32) >>> 32 + (((x >>> 32) * (y &&& 4294967295#64) + ((x &&& 4294967295#64) * (y &&& 4294967295#64)) >>> 32 &&& 4294967295#64) + (x &&& 4294967295#64) * (y >>> 32)) >>> 32 = mh x y := by
  have hx := x.isLt
  have hy := y.isLt
  obtain ⟨bd, bt, bw, hhi⟩ := Lib.mul64_hi x.toNat y.toNat hx hy
  have ba := Lib.half_mul_le (a := x.toNat / 4294967296) (b := y.toNat / 4294967296) (by omega) (by omega)
  have bb := Lib.half_mul_le (a := x.toNat / 4294967296) (b := y.toNat % 4294967296) (by omega) (by omega)
  have bc := Lib.half_mul_le (a := x.toNat % 4294967296) (b := y.toNat / 4294967296) (by omega) (by omega)
  have m32 : ∀ z : BitVec 64, (z &&& 4294967295#64).toNat = z.toNat % 4294967296 := fun z => by
    rw [BitVec.toNat_and, show (4294967295#64).toNat = 2 ^ 32 - 1 from rfl, Nat.and_two_pow_sub_one_eq_mod]
  have s32 : ∀ z : BitVec 64, (z >>> 32).toNat = z.toNat / 4294967296 := fun z => by rw [BitVec.toNat_ushiftRight, Nat.shiftRight_eq_div_pow]
  apply BitVec.eq_of_toNat_eq
  unfold mh
  rw [BitVec.toNat_ofNat, ← hhi]
  simp only [BitVec.toNat_add, BitVec.toNat_mul, m32, s32]
  have hm := mh_le x y
  generalize x.toNat / 4294967296 * (y.toNat / 4294967296) = a at *
  generalize x.toNat / 4294967296 * (y.toNat % 4294967296) = b at *
  generalize x.toNat % 4294967296 * (y.toNat / 4294967296) = c at *
  generalize x.toNat % 4294967296 * (y.toNat % 4294967296) = d at *
  omega
set_option maxHeartbeats 1000000 in
theorem mul64_any (x y : BitVec 64) (w : World) :
    Calls Try.prog 73 #[.int .u64 (bv x), .int .u64 (bv y)] w fun e w' => e = .returned (.tuple #[.int .u64 (bv (mh x y)), .int .u64 (bv (ml x y))]) ∧ w = w' := by
  go_enter Try.func73, Try.ntmps73
  go_wp2_with fail
  go_ret2
  refine ⟨?_, rfl⟩
  rw [← mh_eq]
  rfl
/-- the bytes from k on, as a word -/
def lowK (xs : List (BitVec 8)) (k : Nat) : BitVec 64 := BitVec.ofNat 64 (leN ((xs.take 8).drop k))
theorem lowK_step (xs : List (BitVec 8)) (k : Nat) (hk : k < 8) (hl : 8 ≤ xs.length) : lowK xs (k + 1) <<< 8 ||| (xs.getD k 0#8).setWidth 64 = lowK xs k := by
  have hn : ((xs.take 8).drop (k + 1)).length ≤ 7 := by rw [List.length_drop, List.length_take]; omega
  have hlt : leN ((xs.take 8).drop (k + 1)) < 72057594037927936 := by
    refine Nat.lt_of_lt_of_le (leN_lt _) ?_
    rw [show 72057594037927936 = 256 ^ 7 from rfl]
    exact Nat.pow_le_pow_right (by omega) hn
  have e : leN ((xs.take 8).drop k) = (xs.getD k 0#8).toNat + 256 * leN ((xs.take 8).drop (k + 1)) := by
    rw [List.drop_eq_getElem_cons (i := k) (by rw [List.length_take]; omega)]
    simp only [leN]
    congr 2
    rw [List.getElem_take]
    simp [List.getD, show k < xs.length by omega]
  have h1 : (lowK xs (k + 1)).toNat = leN ((xs.take 8).drop (k + 1)) := by unfold lowK; rw [BitVec.toNat_ofNat]; omega
  have hb := (xs.getD k 0#8).isLt
  have h2 : ((xs.getD k 0#8).setWidth 64).toNat = (xs.getD k 0#8).toNat := by rw [BitVec.toNat_setWidth]; omega
  have hand : lowK xs (k + 1) <<< 8 &&& (xs.getD k 0#8).setWidth 64 = 0#64 := by
    ext i hi
    simp only [BitVec.getElem_and, BitVec.getElem_zero, BitVec.getElem_shiftLeft, BitVec.getElem_setWidth]
    by_cases h : i < 8
    · simp [h]
    · rw [BitVec.getLsbD_of_ge _ i (by omega)]; simp
  rw [← BitVec.add_eq_or_of_and_eq_zero _ _ hand]
  apply BitVec.eq_of_toNat_eq
  rw [BitVec.toNat_add, BitVec.toNat_shiftLeft, h1, h2, Nat.shiftLeft_eq]
  unfold lowK
  rw [BitVec.toNat_ofNat, e]
  omega
theorem lowK_zero (xs : List (BitVec 8)) : lowK xs 0 = low8 xs := rfl
theorem lowK_8 (xs : List (BitVec 8)) : lowK xs 8 = 0#64 := by unfold lowK; rw [List.drop_eq_nil_of_le (by rw [List.length_take]; omega)]; rfl
set_option maxRecDepth 100000 in
theorem low_any (w : World) (B n c : Nat) (A : Option Addr) (xs : List (BitVec 8)) (hr : Rd b8 w B A xs) (hn : n = xs.length) (h8 : 8 ≤ n) :
    Calls Try.prog 57 #[.slice A n c] w fun e w' => e = .returned (.int .u64 (bv (low8 xs))) ∧ w = w' := by
  go_enter Try.func57, Try.ntmps57
  go_wp2_with fail
  have HR := Lib.hid hr
  have HN := Lib.hid hn
  clear hr hn
  go_loopw [3, 4] (fun v i wr => ∃ k : Nat, k ≤ 8 ∧ i = .int .i64 ((k : Int) - 1) ∧ v = .int .u64 (bv (lowK xs k)) ∧ wr = w) (fun _ i _ => (intOf i + 1).toNat)
  case atStart => exact ⟨8, by omega, by simp, by rw [lowK_8]; rfl, rfl⟩
  case round =>
    obtain ⟨k, hk, rfl, rfl, rfl⟩ := hrel
    by_cases h0 : k = 0
    · subst h0
      have e1 : ((0 : Nat) : Int) - 1 = -1 := rfl
      rw [e1]
      clear e1
      go_wp2_with fail
      go_ret
      exact ⟨rfl, rfl⟩
    · obtain ⟨j, rfl⟩ : ∃ j, k = j + 1 := ⟨k - 1, by omega⟩
      obtain ⟨b, off, rfl, hb, hc⟩ := HR.out.at_ (k := j) (by rw [← HN.out]; omega)
      have hx : xs[j]'(by rw [← HN.out]; omega) = xs.getD j 0#8 := by simp [List.getD, show j < xs.length by rw [← HN.out]; omega]
      rw [hx] at hc
      have hs := lowK_step xs j (by omega) (by rw [← HN.out]; omega)
      obtain ⟨x, hxe⟩ : ∃ x, x = xs.getD j 0#8 := ⟨_, rfl⟩
      rw [← hxe] at hc hs
      have hc' : wr.cell? ⟨b, off + j, none⟩ = some (.int .u8 (bv x)) := hc
      have HS := Lib.hid hs
      clear hx hs hc hxe
      have e1 : ((j + 1 : Nat) : Int) - 1 = (j : Int) := by omega
      rw [e1]
      clear e1 h0
      have hj : j < 8 := by omega
      go_wp2_with fail
      go_roundw
      case rel => exact ⟨j, by omega, by simp, by rw [← HS.out], trivial⟩
      case measure => simp [intOf]
theorem own_zeros2 {w : World} {B N : Nat} {v : Value} (h : w.ownsRow B 5 1 v N (madeCells (Value.int .u8 0).cells (N * 1)).toList) : Own b8 w B 5 v (List.replicate N 0#8) := by
  unfold Own
  rw [List.length_replicate]
  have e : (madeCells (Value.int .u8 0).cells (N * 1)).toList = List.replicate N (b8 0#8) := by rw [Nat.mul_one]; exact toList_madeCells_one _ _
  rw [e] at h
  rw [List.map_replicate]
  exact h
set_option maxRecDepth 100000 in
theorem fill_any (n : Nat) (hn : n ≤ 100000000) (w : World) :
    Calls Try.prog 49 #[.int .i64 (n : Int)] w fun e w' => ∃ g, e = .returned (.slice (some ⟨g, 0, none⟩) ((16 - n % 16) % 16) ((16 - n % 16) % 16)) ∧ Own b8 w' w.heap.size 5 (.slice (some ⟨g, 0, none⟩) ((16 - n % 16) % 16) ((16 - n % 16) % 16)) (List.replicate ((16 - n % 16) % 16) 0#8) ∧ Below w.heap.size w w' := by
  obtain ⟨i0, hi0, hz0, hz1, hz2⟩ := info_parts infoU8
  obtain ⟨m, hm⟩ : ∃ m : Nat, m = (16 - n % 16) % 16 := ⟨_, rfl⟩
  rw [← hm]
  have h1 : (16 - (n : Int) % 16) % 16 = (m : Int) := by omega
  have hm16 : m ≤ 16 := by omega
  clear hm
  go_enter Try.func49, Try.ntmps49
  go_wp2_with (refine wpList_make_full _ rfl (.tmp 6) (.tmp 6) 47 rfl w.heap.size 5 i0 _ 1 Try.underlying47 hi0 hz0 hz1 .i64 .i64 _ _ m rfl rfl h1 h1 (by rw [hz2]; omega) (by simp [maxLen]; omega) (by simp) ?_; intro w3 hown3 hg3)
  go_ret
  exact ⟨_, rfl, own_zeros2 hown3, (Below.refl _ w).grown hg3 (Nat.le_refl _) (fun k e => by cases e)⟩
end Go.Proofs.Ytkoefhbmkmepaaa
