/- CONTRACT: burrowref03.words. -/
import Derived.Test.YtkoefhbmkmepaaaWord
import Derived.Test.YtkoefhbmkmepaaaPut
namespace Go.Proofs.Ytkoefhbmkmepaaa
open Go.RowKit
set_option linter.unusedVariables false
set_option linter.unusedSimpArgs false

theorem mul_shl (y : BitVec 32) (k : Nat) : BitVec.ofNat 32 (2 ^ k) * y = y <<< k := by
  apply BitVec.eq_of_toNat_eq
  simp only [BitVec.toNat_mul, BitVec.toNat_ofNat, BitVec.toNat_shiftLeft, Nat.shiftLeft_eq]
  rw [Nat.mod_mul_mod, Nat.mul_comm]
theorem high_false {a : BitVec 8} {i : Nat} (h : 8 ≤ i) : a.getLsbD i = false := BitVec.getLsbD_of_ge a i h
theorem or_add (x : BitVec 32) (d : BitVec 8) (k : Nat) (hx : ∀ i, k ≤ i → x.getLsbD i = false) : x + d.setWidth 32 <<< k = x ||| d.setWidth 32 <<< k := by
  rw [BitVec.add_eq_or_of_and_eq_zero]
  apply BitVec.eq_of_getLsbD_eq
  intro i hi
  rw [BitVec.getLsbD_and, BitVec.getLsbD_zero]
  by_cases h : i < k
  · have : (d.setWidth 32 <<< k).getLsbD i = false := by rw [BitVec.getLsbD_shiftLeft]; simp [h]
    rw [this, Bool.and_false]
  · rw [hx i (by omega), Bool.false_and]
theorem set_high (a : BitVec 8) (i : Nat) (h : 8 ≤ i) : (a.setWidth 32).getLsbD i = false := by
  rw [BitVec.getLsbD_setWidth, high_false h, Bool.and_false]
theorem shl_high (a : BitVec 8) (k i : Nat) (h : k + 8 ≤ i) : (a.setWidth 32 <<< k).getLsbD i = false := by
  rw [BitVec.getLsbD_shiftLeft, set_high a (i - k) (by omega), Bool.and_false]
theorem word_sum (a b c d : BitVec 8) : a.setWidth 32 + 256#32 * b.setWidth 32 + 65536#32 * c.setWidth 32 + 16777216#32 * d.setWidth 32 = word4 a b c d := by
  rw [show (256#32) = BitVec.ofNat 32 (2 ^ 8) from rfl, show (65536#32) = BitVec.ofNat 32 (2 ^ 16) from rfl, show (16777216#32) = BitVec.ofNat 32 (2 ^ 24) from rfl, mul_shl, mul_shl, mul_shl]
  rw [or_add _ b 8 (fun i h => set_high a i h)]
  rw [or_add _ c 16 (fun i h => by rw [BitVec.getLsbD_or, set_high a i (by omega), shl_high b 8 i (by omega)]; rfl)]
  rw [or_add _ d 24 (fun i h => by rw [BitVec.getLsbD_or, BitVec.getLsbD_or, set_high a i (by omega), shl_high b 8 i (by omega), shl_high c 16 i (by omega)]; rfl)]
  rfl
def wordsTo (xs : List (BitVec 8)) (k : Nat) : List (BitVec 32) := (List.range k).map fun i => wordAt xs (4 * i)
def wordsL (xs : List (BitVec 8)) : List (BitVec 32) := wordsTo xs (xs.length / 4)
theorem wordsTo_succ (xs : List (BitVec 8)) (k : Nat) : wordsTo xs (k + 1) = wordsTo xs k ++ [wordAt xs (4 * k)] := by simp [wordsTo, List.range_succ]
theorem wordsTo_len (xs : List (BitVec 8)) (k : Nat) : (wordsTo xs k).length = k := by simp [wordsTo]
theorem infoU32 : (Try.prog.info? 90).map (fun i => (i.zero, i.size, i.bytes)) = some (some (.int .u32 0), 1, 4) := by kernel_rfl
theorem b32_one' (x : BitVec 32) : (b32 x).oneCell' = true := rfl

set_option maxRecDepth 100000 in
set_option maxHeartbeats 2000000 in
theorem words_any {w : World} {B : Nat} {A : Option Addr} {xs : List (BitVec 8)} {n : Nat} (c : Nat) (hr : Rd b8 w B A xs) (hB : B ≤ w.heap.size) (hn : xs.length = n) (hm : n ≤ 1000000) :
    Calls Try.prog 61 #[.slice A n c] w fun e w' => ∃ v, e = .returned v ∧ Own b32 w' w.heap.size 90 v (wordsL xs) ∧ Below w.heap.size w w' := by
  obtain ⟨i0, hi0, hz0, hz1, hz2⟩ := info_parts infoU32
  have HR := Lib.hid hr
  have HN := Lib.hid hn
  clear hr hn
  go_enter Try.func61, Try.ntmps61
  go_wp2_with fail
  go_loopw [3, 4] (fun v i wr => ∃ k p : Nat, p = 4 * k ∧ k ≤ n / 4 ∧ i = .int .i64 p ∧ Own b32 wr w.heap.size 90 v (wordsTo xs k) ∧ Below w.heap.size w wr) (fun _ i _ => n - (intOf i).toNat)
  case atStart => exact ⟨0, 0, rfl, Nat.zero_le _, rfl, Own.nil_ _ _ _ _, Below.refl _ _⟩
  case round =>
    obtain ⟨k, p, hp, hk, rfl, hown, hb⟩ := hrel
    by_cases hlt : k < n / 4
    · have hp4 : p + 4 ≤ n := by omega
      have hcell : ∀ j, j < n → ∃ b off, A = some ⟨b, off, none⟩ ∧ b < B ∧ w.cell? ⟨b, off + j, none⟩ = some (b8 (xs.getD j 0#8)) := fun j hj => by
        have hl := HN.out
        obtain ⟨b, off, e, hb, hc⟩ := HR.out (by omega)
        exact ⟨b, off, e, hb, hc j _ (by simp [List.getD, List.getElem?_eq_getElem (show j < xs.length by omega)])⟩
      obtain ⟨b, off, rfl, hbB, c0⟩ := hcell p (by omega)
      have hc : ∀ j, p + j < n → wr.cell? ⟨b, off + (p + j), none⟩ = some (b8 (xs.getD (p + j) 0#8)) := fun j hj => by
        obtain ⟨b', off', e, hb', hc⟩ := hcell (p + j) hj
        cases e
        exact (hb.cell (p := ⟨b, off + (p + j), none⟩) (by show b < _; omega)).trans hc
      have hq : ∀ j, p + j < n → w.cell? ⟨b, off + (p + j), none⟩ = some (b8 (xs.getD (p + j) 0#8)) := fun j hj => by
        obtain ⟨b', off', e, hb', hc⟩ := hcell (p + j) hj
        cases e
        exact hc
      have q0 := hq 0 (by omega)
      have q1 := hq 1 (by omega)
      have q2 := hq 2 (by omega)
      have q3 := hq 3 (by omega)
      simp only [Nat.add_zero, b8] at q0 q1 q2 q3
      have c0 := hc 0 (by omega)
      have c1 := hc 1 (by omega)
      have c2 := hc 2 (by omega)
      have c3 := hc 3 (by omega)
      simp only [Nat.add_zero, b8] at c0 c1 c2 c3
      obtain ⟨x0, hx0⟩ : ∃ x, x = xs.getD p 0#8 := ⟨_, rfl⟩
      obtain ⟨x1, hx1⟩ : ∃ x, x = xs.getD (p + 1) 0#8 := ⟨_, rfl⟩
      obtain ⟨x2, hx2⟩ : ∃ x, x = xs.getD (p + 2) 0#8 := ⟨_, rfl⟩
      obtain ⟨x3, hx3⟩ : ∃ x, x = xs.getD (p + 3) 0#8 := ⟨_, rfl⟩
      have hw : wordAt xs (4 * k) = word4 x0 x1 x2 x3 := by rw [← hp, hx0, hx1, hx2, hx3]; rfl
      rw [← hx0] at c0 q0
      rw [← hx1] at c1 q1
      rw [← hx2] at c2 q2
      rw [← hx3] at c3 q3
      have Q0 := Lib.hid q0
      have Q1 := Lib.hid q1
      have Q2 := Lib.hid q2
      have Q3 := Lib.hid q3
      have hbw : b < w.heap.size := by omega
      have Hw := Lib.hid hw
      have Hp := Lib.hid hp
      have Hc := Lib.hid hcell
      have hw1 : IntKind.i64.wrap ((p : Int) + 1) = (p : Int) + 1 := IntWalk.i64_in _ (by omega)
      have hw2 : IntKind.i64.wrap ((p : Int) + 2) = (p : Int) + 2 := IntWalk.i64_in _ (by omega)
      have hw3 : IntKind.i64.wrap ((p : Int) + 3) = (p : Int) + 3 := IntWalk.i64_in _ (by omega)
      have hz := hb.size
      have hle : (p : Int) + 4 ≤ (n : Int) := by omega
      have l0 : (p : Int) < (n : Int) := by omega
      have l1 : (p : Int) + 1 < (n : Int) := by omega
      have l2 : (p : Int) + 2 < (n : Int) := by omega
      have l3 : (p : Int) + 3 < (n : Int) := by omega
      have m0 : (0 : Int) ≤ (p : Int) := by omega
      have m1 : (0 : Int) ≤ (p : Int) + 1 := by omega
      have m2 : (0 : Int) ≤ (p : Int) + 2 := by omega
      have m3 : (0 : Int) ≤ (p : Int) + 3 := by omega
      have t2 : ((p : Int) + 2).toNat = p + 2 := by omega
      have t3 : ((p : Int) + 3).toNat = p + 3 := by omega
      clear hx0 hx1 hx2 hx3 hw hp hcell hc hq q0 q1 q2 q3
      go_wp2_with fail
      go_region_held3 (fun w' => w'.cell? ⟨b, off + p, none⟩ = some (.int .u8 (bv x0)) ∧ w'.cell? ⟨b, off + (p + 1), none⟩ = some (.int .u8 (bv x1)) ∧ w'.cell? ⟨b, off + (p + 2), none⟩ = some (.int .u8 (bv x2)) ∧ w'.cell? ⟨b, off + (p + 3), none⟩ = some (.int .u8 (bv x3)))
        (first
          | (have hq := hbb7 w.heap.size w (Nat.le_refl _) (by (repeat' (first | assumption | exact Below.refl _ _ | refine Below.drew ?_ | refine Below.alloc ?_ ?_ _ | omega | (simp; done) | (simp; omega)))); exact ⟨(hq.cell (p := ⟨b, off + p, none⟩) hbw).trans Q0.out, (hq.cell (p := ⟨b, off + (p + 1), none⟩) hbw).trans Q1.out, (hq.cell (p := ⟨b, off + (p + 2), none⟩) hbw).trans Q2.out, (hq.cell (p := ⟨b, off + (p + 3), none⟩) hbw).trans Q3.out⟩)
          | go_keep)
        ((refine step_append_rd rfl _ _ 108 (by rfl) b32_one' w.heap.size 90 i0 _ 4 Try.underlying108 hi0 hz0 hz1 hz2 rfl _ (wordsTo xs k) (by rfl) (hown.drew.alloc _) (wr.heap.size + 1) _ 1 1 [word4 x0 x1 x2 x3] (by rfl) rfl (by rw [← word_sum]; exact Rd.new b32 _ _ [_]) (by simp [wordsTo_len, maxLen]; omega) (by simp [wordsTo_len]; omega) (by simp; omega) ?_; intro v7 w7 hown7 hg7 hbb7))
      all_goals
        clear hw1 hw2 hw3 t2 t3
        go_wp2_with fail
        go_roundw
        case rel =>
          refine ⟨k + 1, p + 4, by rw [Hp.out]; omega, by omega, by go_num, ?_, hbb7 _ _ (Nat.le_refl _) (by (repeat' (first | assumption | exact Below.refl _ _ | refine Below.drew ?_ | refine Below.alloc ?_ ?_ _ | omega | (simp; done) | (simp; omega))))⟩
          rw [wordsTo_succ, Hw.out]; exact hown7
        case measure => simp [intOf]; omega
    · have hge : decide ((p : Int) + 4 ≤ (n : Int)) = false := by simp; omega
      have Hk := Lib.hid (show k = n / 4 by omega)
      go_wp2_with fail
      go_ret
      exact ⟨_, rfl, hown.cast (by unfold wordsL; rw [HN.out, Hk.out]), hb⟩
end Go.Proofs.Ytkoefhbmkmepaaa
