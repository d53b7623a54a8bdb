/- PLAIN LEMMA: what a secret is expanded to. -/
import Derived.Test.YtmncihhofppkdaaDoorRefTag
namespace Go.Proofs.YtmncihhofppkdaaDoor
open Go.RowKit
set_option linter.unusedVariables false
set_option linter.unusedSimpArgs false

/-- the tag number i, from one on; none ahead of them -/
def tagI (key inf : List (BitVec 8)) : Nat → List (BitVec 8)
  | 0 => []
  | i + 1 => tagV key (tagI key inf i ++ inf ++ [BitVec.ofInt 8 ((i : Int) + 1)])
def exA (key inf : List (BitVec 8)) : Nat → List (BitVec 8)
  | 0 => []
  | i + 1 => exA key inf i ++ tagI key inf (i + 1)
theorem tagI_len (key inf : List (BitVec 8)) (i : Nat) : (tagI key inf (i + 1)).length = 32 := tagV_len _ _
theorem tagI_le (key inf : List (BitVec 8)) (i : Nat) : (tagI key inf i).length ≤ 32 := by
  cases i with
  | zero => simp [tagI]
  | succ i => rw [tagI_len]; exact Nat.le_refl _
theorem exA_len (key inf : List (BitVec 8)) (i : Nat) : (exA key inf i).length = 32 * i := by
  induction i with
  | zero => rfl
  | succ i ih => simp only [exA, List.length_append, ih, tagI_len]; omega
theorem exA_take (key inf : List (BitVec 8)) (i j n : Nat) (hij : i ≤ j) (hn : n ≤ 32 * i) : (exA key inf j).take n = (exA key inf i).take n := by
  induction j with
  | zero => have : i = 0 := by omega
            subst this; rfl
  | succ j ih =>
    rcases Nat.lt_or_ge i (j + 1) with h | h
    · simp only [exA]
      rw [List.take_append_of_le_length (by rw [exA_len]; omega)]
      exact ih (by omega)
    · have : i = j + 1 := by omega
      subst this; rfl
/-- so many bytes -/
def expV (key inf : List (BitVec 8)) (n : Nat) : List (BitVec 8) := (exA key inf 255).take n
theorem expV_len (key inf : List (BitVec 8)) (n : Nat) (h : n ≤ 8160) : (expV key inf n).length = n := by
  unfold expV; rw [List.length_take, exA_len]; omega
theorem expV_of (key inf : List (BitVec 8)) (i n : Nat) (hi : i ≤ 255) (hn : n ≤ 32 * i) : expV key inf n = (exA key inf i).take n := exA_take key inf i 255 n hi hn
/-- the tags of these numbers, one behind the other -/
def exL (key inf : List (BitVec 8)) (l : List Nat) : List (BitVec 8) := l.flatMap (tagI key inf)
theorem exL_snoc (key inf : List (BitVec 8)) (l : List Nat) (i : Nat) : exL key inf (l ++ [i]) = exL key inf l ++ tagI key inf i := by unfold exL; rw [List.flatMap_append]; simp
theorem exL_len (key inf : List (BitVec 8)) (l : List Nat) (h : ∀ i ∈ l, 1 ≤ i) : (exL key inf l).length = 32 * l.length := by
  induction l with
  | nil => rfl
  | cons i l ih =>
    have h1 : (tagI key inf i).length = 32 := by
      obtain ⟨j, rfl⟩ : ∃ j, i = j + 1 := ⟨i - 1, by have := h i (by simp); omega⟩
      exact tagI_len _ _ _
    have h2 := ih (fun j hj => h j (by simp [hj]))
    unfold exL at h2 ⊢
    rw [List.flatMap_cons, List.length_append, h1, h2, List.length_cons]; omega
theorem exL_range (key inf : List (BitVec 8)) (k : Nat) : exL key inf (List.range' 1 k) = exA key inf k := by
  induction k with
  | zero => rfl
  | succ k ih => rw [List.range'_concat, exL_snoc, ih, show 1 + 1 * k = k + 1 by omega]; rfl
end Go.Proofs.YtmncihhofppkdaaDoor
