/- CONTRACTS: sha.length, sha.padded. -/
import Derived.Test.YtmncihhofppkdaaDoorSlices
import Derived.Test.YtmncihhofppkdaaDoorShaD
import Derived.Test.YtmncihhofppkdaaDoorClone
import Derived.OwnWalk
namespace Go.Proofs.YtmncihhofppkdaaDoor
open Go.RowKit
set_option linter.unusedVariables false
set_option linter.unusedSimpArgs false

theorem own_zeros' {w : World} {B N : Nat} {v : Value} (h : w.ownsRow B 5 1 v N (madeCells (Value.int .u8 0).cells (N * 1)).toList) : Own b8 w B 5 v (List.replicate N 0#8) := by
  unfold Own
  rw [List.length_replicate]
  have e : (madeCells (Value.int .u8 0).cells (N * 1)).toList = List.replicate N (b8 0#8) := by rw [Nat.mul_one]; exact toList_madeCells_one _ _
  rw [e] at h
  rw [List.map_replicate]
  exact h
/-- the last k of so many bytes -/
def lenB (v size k : Nat) : List (BitVec 8) := List.replicate (size - k) 0#8 ++ beN v k
theorem lenB_len (v size k : Nat) (hk : k ≤ size) : (lenB v size k).length = size := by
  unfold lenB; rw [List.length_append, List.length_replicate, beN_len]; omega
theorem lenB_set (v size k j : Nat) (hj : size = j + 1 + k) : (lenB v size k).set j (BitVec.ofNat 8 (v / 256 ^ k)) = lenB v size (k + 1) := by
  subst hj
  unfold lenB
  rw [show j + 1 + k - k = j + 1 by omega, show j + 1 + k - (k + 1) = j by omega, List.replicate_succ', List.append_assoc, List.set_append_right _ _ (by rw [List.length_replicate]; exact Nat.le_refl _), List.length_replicate, Nat.sub_self]
  rfl
theorem len_byte (n k : Nat) (h : 8 * n < 9223372036854775808) : ((BitVec.ofInt 64 (n : Int) <<< 3) >>> (8 * k)).setWidth 8 = BitVec.ofNat 8 (8 * n / 256 ^ k) := by
  apply BitVec.eq_of_toNat_eq
  rw [BitVec.toNat_setWidth, BitVec.toNat_ushiftRight, BitVec.toNat_shiftLeft, BitVec.ofInt_natCast, BitVec.toNat_ofNat, BitVec.toNat_ofNat, Nat.shiftRight_eq_div_pow, Nat.shiftLeft_eq, Nat.mod_eq_of_lt (a := n) (by omega), show n * 2 ^ 3 = 8 * n by omega, Nat.mod_eq_of_lt (a := 8 * n) (by omega), Nat.pow_mul]
theorem len_top (n : Nat) (h : 8 * n < 9223372036854775808) : (BitVec.ofInt 64 (n : Int) >>> 61).setWidth 8 = 0#8 := by
  apply BitVec.eq_of_toNat_eq
  rw [BitVec.toNat_setWidth, BitVec.toNat_ushiftRight, BitVec.ofInt_natCast, BitVec.toNat_ofNat, Nat.shiftRight_eq_div_pow, Nat.mod_eq_of_lt (a := n) (by omega), Nat.div_eq_of_lt (by omega)]
  rfl
theorem beN_top (v k : Nat) (h : v < 256 ^ 8) : ∀ j, j ≤ k → beN v (8 + j) = List.replicate j 0#8 ++ beN v 8
  | 0, _ => rfl
  | j + 1, hj => by
    rw [show 8 + (j + 1) = (8 + j) + 1 from rfl, beN, beN_top v k h j (by omega), List.replicate_succ, List.cons_append]
    congr 1
    rw [Nat.div_eq_of_lt (Nat.lt_of_lt_of_le h (Nat.pow_le_pow_right (by omega) (by omega)))]
theorem lenB_8 (v size : Nat) (hs : size = 8 ∨ size = 16) (h : v < 256 ^ 8) : lenB v size 8 = beN v size := by
  rcases hs with rfl | rfl
  · rfl
  · rw [show 16 = 8 + 8 from rfl, beN_top v 8 h 8 (Nat.le_refl _)]; rfl
theorem lenB_top (v : Nat) : (lenB v 16 8).set 7 0#8 = lenB v 16 8 := by
  unfold lenB
  rfl

set_option maxRecDepth 100000 in
theorem length_any (n size : Nat) (hs : size = 8 ∨ size = 16) (hn : n ≤ 1000000000) (w : World) :
    Calls Tryd.prog 86 #[.int .i64 (n : Int), .int .i64 (size : Int)] w fun e w' => ∃ v, e = .returned v ∧ Own b8 w' w.heap.size 5 v (beN (8 * n) size) ∧ Below w.heap.size w w' := by
  obtain ⟨i0, hi0, hz0, hz1, hz2⟩ := info_parts infoU8
  have hs2 : 8 ≤ size ∧ size ≤ 16 := by omega
  have HS := Lib.hid hs
  clear hs
  have hcv := ofint_u64 (n : Int)
  go_enter Tryd.func86, Tryd.ntmps86
  go_wp2_with (refine wpList_make_full _ rfl (.tmp 7) (.tmp 7) 30 rfl w.heap.size 5 i0 _ 1 Tryd.underlying30 hi0 hz0 hz1 .i64 .i64 (size : Int) (size : Int) size rfl rfl rfl rfl (by rw [hz2]; omega) (by simp [maxLen]; omega) (by simp) ?_; intro w3 hown3 hg3; have HO3 := Lib.hid (show Own b8 w3 w.heap.size 5 _ (lenB (8 * n) size 0) from (own_zeros' hown3).cast (by unfold lenB beN; simp)); have HG3 := Lib.hid (Below.grown (Below.refl _ w) hg3 (Nat.le_refl _) (fun k e => by cases e)); clear hown3 hg3)
  go_loopw [9] (fun i wr => ∃ k : Nat, k ≤ 8 ∧ i = .int .i64 k ∧ Own b8 wr w.heap.size 5 (.slice (some ⟨w.heap.size, 0, none⟩) size size) (lenB (8 * n) size k) ∧ Below w.heap.size w wr) (fun i _ => 8 - (intOf i).toNat)
  case atStart => exact ⟨0, by omega, rfl, HO3.out, HG3.out⟩
  case round =>
    clear HO3 HG3
    obtain ⟨k, hk, rfl, hown, hb⟩ := hrel
    have HO := Lib.hid hown
    have HB := Lib.hid hb
    clear hown hb
    by_cases hlt : k < 8
    · obtain ⟨j, hj⟩ : ∃ j, size = j + 1 + k := ⟨size - 1 - k, by omega⟩
      have hl := lenB_len (8 * n) size k (by omega)
      obtain ⟨u, c1, f1⟩ : ∃ u, wr.cell? ⟨w.heap.size, j, none⟩ = some (b8 u) ∧ wr.frozen? ⟨w.heap.size, j, none⟩ = false := ⟨_, HO.out.at_ (k := j) (by omega)⟩
      have e1 : ((size : Int) - 1 - (k : Int)) = (j : Int) := by omega
      have jlt : j < size := by omega
      have HJ := Lib.hid hj
      have HL := Lib.hid hl
      clear hl hj
      go_wp2_with fail
      go_roundw
      case rel =>
        refine ⟨k + 1, by omega, by go_num, ?_, ?_⟩
        · have h2 := (HO.out.set_ j (BitVec.ofNat 8 (8 * n / 256 ^ k))).1
          rw [← len_byte n k (by omega)] at h2
          exact h2.cast (by rw [len_byte n k (by omega)]; exact lenB_set _ _ _ _ HJ.out)
        · exact HB.out.setCell (p := ⟨w.heap.size, j, none⟩) (Nat.le_refl _) _
      case measure => simp [intOf]; omega
    · obtain rfl : k = 8 := by omega
      rw [show (((8 : Nat)) : Int) = 8 from rfl]
      rcases HS.out with rfl | rfl
      · go_wp2_with fail
        go_ret
        exact ⟨_, rfl, HO.out.cast (lenB_8 _ 8 (.inl rfl) (by omega)), HB.out⟩
      · have hl := lenB_len (8 * n) 16 8 (by omega)
        obtain ⟨u, c1, f1⟩ : ∃ u, wr.cell? ⟨w.heap.size, 7, none⟩ = some (b8 u) ∧ wr.frozen? ⟨w.heap.size, 7, none⟩ = false := ⟨_, HO.out.at_ (k := 7) (by omega)⟩
        clear hl
        go_wp2_with fail
        go_ret
        refine ⟨_, rfl, ?_, HB.out.setCell (p := ⟨w.heap.size, 7, none⟩) (Nat.le_refl _) _⟩
        have h2 := (HO.out.set_ 7 0#8).1
        rw [← len_top n (by omega)] at h2
        exact h2.cast (by rw [len_top n (by omega), lenB_top]; exact lenB_8 _ 16 (.inr rfl) (by omega))

def lenIn : Value → Int
  | .slice _ n _ => n
  | _ => 0
theorem padZ_end (n piece size k : Nat) (h : (piece = 64 ∧ size = 8) ∨ (piece = 128 ∧ size = 16)) (hk : k < padZ n piece size) : (n + 1 + k) % piece ≠ piece - size := by
  unfold padZ at hk
  rcases h with ⟨rfl, rfl⟩ | ⟨rfl, rfl⟩ <;> omega
theorem padZ_hit (n piece size : Nat) (h : (piece = 64 ∧ size = 8) ∨ (piece = 128 ∧ size = 16)) : (n + 1 + padZ n piece size) % piece = piece - size := by
  unfold padZ
  rcases h with ⟨rfl, rfl⟩ | ⟨rfl, rfl⟩ <;> omega
theorem padZ_lt (n piece size : Nat) (h : (piece = 64 ∧ size = 8) ∨ (piece = 128 ∧ size = 16)) : padZ n piece size < 128 := by
  unfold padZ
  rcases h with ⟨rfl, rfl⟩ | ⟨rfl, rfl⟩ <;> omega
set_option maxRecDepth 100000 in
theorem padded_any (xs : List (BitVec 8)) (n m piece size : Nat) (hps : (piece = 64 ∧ size = 8) ∨ (piece = 128 ∧ size = 16)) (hn : n ≤ 1000000000) (w : World) (B : Nat) (A : Option Addr) (c : Nat) (hr : Rd b8 w B A xs) (hB : B ≤ w.heap.size) (hm : m = xs.length) (hA : A = none → m = 0 ∧ c = 0) (hbig : m ≤ 100000000) :
    Calls Tryd.prog 81 #[.slice A m c, .int .i64 (n : Int), .int .i64 (piece : Int), .int .i64 (size : Int)] w fun e w' => ∃ v, e = .returned v ∧ Own b8 w' w.heap.size 5 v (padded xs n piece size) ∧ Below w.heap.size w w' := by
  obtain ⟨i0, hi0, hz0, hz1, hz2⟩ := info_parts infoU8
  have HM := Lib.hid hm
  have HR := Lib.hid hr
  have HA := Lib.hid hA
  have HPS := Lib.hid hps
  have hb2 : 8 ≤ size ∧ size ≤ 16 ∧ 64 ≤ piece ∧ piece ≤ 128 := by omega
  clear hm hr hA hps
  go_enter Tryd.func81, Tryd.ntmps81
  go_wp2_with fail
  refine (clone_any w B A c m xs HR.out hB HM.out HA.out hbig).mono ?_
  rintro e w1 ⟨v1, rfl, hown1, hb1⟩
  have HO1 := Lib.hid hown1
  have HB1 := Lib.hid hb1
  have hz1' := hb1.size
  clear hown1 hb1
  go_wp2_with (at_builtin; refine wpList_append_rd rfl _ _ 30 rfl b8_one w.heap.size 5 i0 _ 1 Tryd.underlying30 hi0 hz0 hz1 hz2 rfl _ _ rfl (HO1.out.alloc _) (w1.heap.size + 1) _ 1 1 [128#8] rfl rfl (Rd.new b8 w1 5 [128#8]) (by have := HM.out; simp [maxLen]; omega) (by have := HM.out; simp; omega) (by simp; omega) ?_; intro v2 w2 hown2 hg2 hbb2; have HO2 := Lib.hid hown2; have HB2 := Lib.hid (hbb2 _ _ (Nat.le_refl _) (HB1.out.alloc hz1' _)); clear hown2 hg2 hbb2)
  go_loopw [9] (fun v wr => ∃ k : Nat, k ≤ padZ m piece size ∧ Own b8 wr w.heap.size 5 v (xs ++ 128#8 :: List.replicate k 0#8) ∧ Below w.heap.size w wr) (fun v _ => m + 1 + 128 - (lenIn v).toNat)
  case atStart => exact ⟨0, Nat.zero_le _, HO2.out, HB2.out⟩
  case round =>
    clear HO2 HB2
    obtain ⟨k, hk, hown, hb⟩ := hrel
    obtain ⟨L, hL⟩ : ∃ L, L = m + 1 + k := ⟨_, rfl⟩
    have hlen : (xs ++ 128#8 :: List.replicate k 0#8).length = L := by simp; rw [hL, HM.out]; omega
    have hpl := padZ_lt m piece size HPS.out
    obtain ⟨A1, c1, rfl, -, -, -, -⟩ := hown.shape' hlen
    have hz := hb.size
    have HO := Lib.hid hown
    have HB := Lib.hid hb
    have HLn := Lib.hid hlen
    clear hown hb hlen
    have hlb : L ≤ 200000000 := by omega
    have hdiv : (L : Int).tmod (piece : Int) = ((L % piece : Nat) : Int) := by rw [Int.tmod_eq_emod_of_nonneg (by omega)]; omega
    by_cases hlt : k < padZ m piece size
    · have hne := padZ_end m piece size k HPS.out hlt
      rw [← hL] at hne
      have HL := Lib.hid hL
      have hcmp : (((L % piece : Nat) : Int) != (piece : Int) - (size : Int)) = true := by simp only [bne_iff_ne, ne_eq]; omega
      clear hL hne hk
      generalize L % piece = q at hdiv hcmp
      go_wp2_with (at_builtin; refine wpList_append_rd rfl _ _ 30 rfl b8_one w.heap.size 5 i0 _ 1 Tryd.underlying30 hi0 hz0 hz1 hz2 rfl _ _ rfl (HO.out.alloc _) (wr.heap.size + 1) _ 1 1 [0#8] rfl rfl (Rd.new b8 wr 5 [0#8]) (by have := HLn.out; rw [this]; simp [maxLen]; omega) (by have := HLn.out; rw [this]; simp; omega) (by simp; omega) ?_; intro v7 w7 hown7 hg7 hbb7)
      have hlen7 : ((xs ++ 128#8 :: List.replicate k 0#8) ++ [0#8]).length = L + 1 := by rw [List.length_append, HLn.out]; rfl
      obtain ⟨A7, c7, rfl, -, -, -, -⟩ := hown7.shape' hlen7
      go_roundw
      case rel => exact ⟨k + 1, by omega, by rw [List.replicate_succ', ← List.cons_append, ← List.append_assoc]; exact hown7, hbb7 _ _ (Nat.le_refl _) (HB.out.alloc hz _)⟩
      case measure => have := HL.out; simp [lenIn]; omega
    · have hke : k = padZ m piece size := by omega
      have hhit := padZ_hit m piece size HPS.out
      rw [← hke, ← hL] at hhit
      have hcmp : (((L % piece : Nat) : Int) != (piece : Int) - (size : Int)) = false := by simp only [bne_eq_false_iff_eq]; omega
      have HL := Lib.hid hL
      have HK := Lib.hid hke
      clear hL hke hhit hk hlt
      generalize L % piece = q at hdiv hcmp
      have hsz : size = 8 ∨ size = 16 := by have := HPS.out; omega
      have HSz := Lib.hid hsz
      clear hsz
      go_wp2_with fail
      refine (length_any n size HSz.out hn _).mono ?_
      rintro e w5 ⟨v5, rfl, hown5, hb5⟩
      have hbl := beN_len (8 * n) size
      obtain ⟨A5, c5, rfl, -, -, -, -⟩ := hown5.shape' hbl
      have HO5 := Lib.hid hown5
      have HB5 := Lib.hid hb5
      have HBl := Lib.hid hbl
      have HOk := Lib.hid (HO.out.below hb5 (Nat.le_refl _))
      have hz5 := hb5.size
      clear hown5 hb5 hbl
      go_wp2_with (at_builtin; refine wpList_append_rd rfl _ _ 30 rfl b8_one w.heap.size 5 i0 _ 1 Tryd.underlying30 hi0 hz0 hz1 hz2 rfl _ _ rfl HOk.out w5.heap.size A5 size c5 (beN (8 * n) size) rfl HBl.out.symm HO5.out.rd (by have := HLn.out; rw [this, HBl.out]; simp [maxLen]; omega) (by have := HLn.out; rw [this, HBl.out]; simp; omega) (by omega) ?_; intro v7 w7 hown7 hg7 hbb7)
      go_ret
      refine ⟨_, rfl, hown7.cast ?_, hbb7 _ _ (Nat.le_refl _) (HB.out.trans (HB5.out.mono hz))⟩
      unfold padded
      rw [← HM.out, HK.out]
      simp
end Go.Proofs.YtmncihhofppkdaaDoor
