/- CONTRACTS: aead.put, aead.Nonce, burrowref04.Nonce. -/
import Derived.Test.YtkoefhbmkmepaaaInfo
namespace Go.Proofs.Ytkoefhbmkmepaaa
open Go.RowKit

/-- byte k of a number, the lowest first -/
def le (n : BitVec 64) (k : Nat) : BitVec 8 := (n >>> (8 * k)).setWidth 8
def le8 (n : BitVec 64) : List (BitVec 8) := (List.range 8).map (le n)
def leTo (n : BitVec 64) (k : Nat) : List (BitVec 8) := (List.range 8).map fun j => if j < k then le n j else 0#8
theorem leTo_len (n : BitVec 64) (k : Nat) : (leTo n k).length = 8 := by simp [leTo]
theorem leTo_set (n : BitVec 64) (k : Nat) : (leTo n k).set k (le n k) = leTo n (k + 1) := by
  apply List.ext_getElem
  · simp [leTo]
  · intro i h1 h2
    simp only [leTo, List.getElem_set, List.getElem_map, List.getElem_range]
    by_cases h : k = i
    · subst h; simp
    · rw [if_neg h]
      by_cases h' : i < k
      · rw [if_pos h', if_pos (by omega)]
      · rw [if_neg h', if_neg (by omega)]
theorem leTo_8 (n : BitVec 64) : leTo n 8 = le8 n := rfl

set_option maxHeartbeats 400000 in
theorem put_any (n : BitVec 64) (w : World) :
    Calls Try.prog 40 #[.int .u64 (bv n)] w fun e w' => ∃ v, e = .returned v ∧ Own b8 w' w.heap.size 5 v (le8 n) ∧ Below w.heap.size w w' := by
  have hmk : ∀ w, (Instr.makeSlice 47 (.int .i64 8) (.int .i64 8)).run Try.prog w = .ok (.slice (some ⟨w.heap.size, 0, none⟩) 8 8) (w.alloc (.cells #[.int .u8 0, .int .u8 0, .int .u8 0, .int .u8 0, .int .u8 0, .int .u8 0, .int .u8 0, .int .u8 0] 5)) := fun _ => by kernel_rfl
  go_enter Try.func40, Try.ntmps40
  go_wp2
  go_loopw [8] (fun i wr => ∃ k : Nat, k ≤ 8 ∧ i = .int .i64 k ∧ Own b8 wr w.heap.size 5 (.slice (some ⟨w.heap.size, 0, none⟩) 8 8) (leTo n k) ∧ Below w.heap.size w wr) (fun i _ => 8 - (intOf i).toNat)
  case atStart =>
    exact ⟨0, by omega, rfl, Own.lit b8 w w.heap.size 5 (leTo n 0) (Nat.le_refl _) (by rw [leTo_len]; simp [maxLen]), (Below.refl _ _).alloc (Nat.le_refl _) _⟩
  case round =>
    obtain ⟨k, hk, rfl, hown, hb⟩ := hrel
    by_cases hlt : k < 8
    · have hc := (hown.at_ (k := k) (by rw [leTo_len]; omega)).1
      have hf := (hown.at_ (k := k) (by rw [leTo_len]; omega)).2
      go_wp2
      go_roundw
      case rel =>
        have hs := hown.set_ k (le n k)
        refine ⟨k + 1, by omega, by go_num, ?_, hb.setCell (Nat.le_refl _) _⟩
        rw [leTo_set] at hs
        exact hs.1
      case measure => simp [intOf]; omega
    · obtain rfl : k = 8 := by omega
      go_wp2
      go_ret
      exact ⟨_, rfl, hown, hb⟩

def nonce (n : BitVec 64) : List (BitVec 8) := [0#8, 0#8, 0#8, 0#8] ++ le8 n

set_option maxHeartbeats 400000 in
theorem nonce_any (n : Int) (w : World) :
    Calls Try.prog 31 #[.int .i64 n] w fun e w' => ∃ v, e = .returned v ∧ Own b8 w' w.heap.size 5 v (nonce (BitVec.ofInt 64 n)) ∧ Below w.heap.size w w' := by
  obtain ⟨i0, hi0, hz0, hz1, hz2⟩ := info_parts infoU8
  have hmk : ∀ w, (Instr.makeSlice 47 (.int .i64 4) (.int .i64 4)).run Try.prog w = .ok (.slice (some ⟨w.heap.size, 0, none⟩) 4 4) (w.alloc (.cells #[.int .u8 0, .int .u8 0, .int .u8 0, .int .u8 0] 5)) := fun _ => by kernel_rfl
  have hcv := ofint_u64 n
  go_enter Try.func31, Try.ntmps31
  go_wp2
  go_region_law (first
    | (refine step_append_rd rfl (.tmp 3) (.tmp 6) 47 rfl b8_one w.heap.size 5 i0 _ 1 Try.underlying47 hi0 hz0 hz1 hz2 rfl _ [0#8, 0#8, 0#8, 0#8] rfl ?_ w6.heap.size A6 _ c6 (le8 (BitVec.ofInt 64 n)) rfl rfl ?_ (by simp [le8, maxLen]) (by simp [le8]) ?_ ?_; (first | exact (Own.lit b8 w _ _ [0#8, 0#8, 0#8, 0#8] (Nat.le_refl _) (by simp [maxLen])).drew.below hb6 (by simp) | exact Own.lit b8 w6 _ _ [0#8, 0#8, 0#8, 0#8] (by omega) (by simp [maxLen])); (first | exact hr6 | exact hr6.alloc (Nat.le_refl _) _); (first | omega | (simp; omega)); intro v7 w7 hown7 hg7 hbb7)
    | (go_simp; go_at_call 40; refine (put_any _ _).mono ?_; rintro e w6 ⟨v6, rfl, hown6, hb6⟩; obtain ⟨A6, c6, rfl, hr6, -, -, -⟩ := hown6.shape; have hbb6 : Below w.heap.size w w6 := (below_step (by (repeat' (first | assumption | exact Below.refl _ _ | refine Below.drew ?_ | refine Below.alloc ?_ ?_ _ | omega | (simp; done) | (simp; omega)))) hb6); have hz6 := hb6.size; simp at hz6))
  all_goals go_wp2
  all_goals go_ret
  all_goals exact ⟨_, rfl, hown7, hbb7 _ _ (Nat.le_refl _) (by (repeat' (first | assumption | exact Below.refl _ _ | refine Below.drew ?_ | refine Below.alloc ?_ ?_ _ | omega | (simp; done) | (simp; omega))))⟩

set_option maxRecDepth 100000 in
set_option maxHeartbeats 400000 in
theorem refNonce_any (n : Int) (w : World) :
    Calls Try.prog 36 #[.int .i64 n] w fun e w' => ∃ v, e = .returned v ∧ Own b8 w' w.heap.size 5 v (nonce (BitVec.ofInt 64 n)) ∧ Below w.heap.size w w' := by
  obtain ⟨i0, hi0, hz0, hz1, hz2⟩ := info_parts infoU8
  have hcv := ofint_u64 n
  generalize BitVec.ofInt 64 n = N at hcv ⊢
  go_enter Try.func36, Try.ntmps36
  go_wp2
  clear hcv
  go_loopw [3, 4, 5] (fun v u i wr => ∃ k : Nat, k ≤ 8 ∧ i = .int .i64 k ∧ u = .int .u64 (bv (N >>> (8 * k))) ∧ Own b8 wr w.heap.size 5 v ([0#8, 0#8, 0#8, 0#8] ++ (List.range k).map (le N)) ∧ Below w.heap.size w wr) (fun _ _ i _ => 8 - (intOf i).toNat)
  case atStart => exact ⟨0, by omega, rfl, by simp, Own.lit b8 w w.heap.size 5 [0#8, 0#8, 0#8, 0#8] (Nat.le_refl _) (by simp [maxLen]), by (repeat' (first | assumption | exact Below.refl _ _ | refine Below.drew ?_ | refine Below.alloc ?_ ?_ _ | omega | (simp; done) | (simp; omega)))⟩
  case round =>
    obtain ⟨k, hk, rfl, rfl, hown, hb⟩ := hrel
    by_cases hlt : k < 8
    · have hz := hb.size
      go_wp2_with (at_builtin; refine wpList_append_rd rfl _ _ 47 rfl b8_one w.heap.size 5 i0 _ 1 Try.underlying47 hi0 hz0 hz1 hz2 rfl _ _ rfl (hown.alloc _) (wr.heap.size + 1) _ 1 1 [le N k] rfl rfl (Rd.new b8 _ _ [le N k]) (by simp [maxLen]; omega) (by simp; omega) (by (first | omega | (simp; done) | (simp; omega) | (simp at *; omega))) ?_; intro v7 w7 hown7 hg7 hbb7)
      go_roundw
      case rel =>
        refine ⟨k + 1, by omega, by go_num, rfl, ?_, hbb7 _ _ (Nat.le_refl _) (by (repeat' (first | assumption | exact Below.refl _ _ | refine Below.drew ?_ | refine Below.alloc ?_ ?_ _ | omega | (simp; done) | (simp; omega))))⟩
        rw [List.range_succ, List.map_append, ← List.append_assoc]; exact hown7
      case measure => simp [intOf]; omega
    · obtain rfl : k = 8 := by omega
      go_wp2
      go_ret
      exact ⟨_, rfl, hown, hb⟩
end Go.Proofs.Ytkoefhbmkmepaaa
