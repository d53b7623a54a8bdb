/- PLAIN LAW: the nodes of a tree of at most 32 leaves: levels, children, parents, leaves below; what a search finds among all nodes. No program, no conditions. -/
import Derived.Test.YtlkgklplcbmimaaDoorBits
import Derived.Lib.TrailingZeros
namespace Go.Proofs.YtlkgklplcbmimaaDoor
set_option linter.unusedVariables false

/-- how many ones a number ends in (as far as f) -/
def ones : Nat → Nat → Nat
  | 0, _ => 0
  | f + 1, x => if x % 2 = 1 then 1 + ones f (x / 2) else 0
theorem ctz_ones : ∀ (f x : Nat), x < 2 ^ f → Lib.ctzFrom f (2 ^ f - 1 - x) = ones f x
  | 0, _, _ => rfl
  | f + 1, x, h => by
    have e1 : 2 ^ (f + 1) = 2 * 2 ^ f := by rw [Nat.pow_succ, Nat.mul_comm]
    rw [e1] at h ⊢
    have ih := ctz_ones f (x / 2) (by omega)
    unfold Lib.ctzFrom ones
    by_cases hx : x % 2 = 1
    · rw [if_neg (by omega), if_pos hx, ← ih, show (2 * 2 ^ f - 1 - x) / 2 = 2 ^ f - 1 - x / 2 by omega]
    · rw [if_pos (by omega), if_neg hx]
theorem ones_le : ∀ (f x : Nat), ones f x ≤ f
  | 0, _ => Nat.le_refl _
  | f + 1, x => by
    unfold ones
    have := ones_le f (x / 2)
    split <;> omega
theorem ones_pow : ∀ (f x : Nat), 2 ^ ones f x ≤ x + 1
  | 0, _ => by simp [ones]
  | f + 1, x => by
    unfold ones
    split
    · have := ones_pow f (x / 2)
      rw [Nat.add_comm 1, Nat.pow_succ]; omega
    · simp
theorem ones_step (f x : Nat) (h : x < 2 ^ f) : ones (f + 1) x = ones f x := by
  induction f generalizing x with
  | zero => have : x = 0 := by simpa using h
            subst this; rfl
  | succ f ih =>
    rw [Nat.pow_succ] at h
    rw [ones, ones.eq_2 x f, ih (x / 2) (by omega)]

/-- a node's level -/
def lvl (x : Int) : Int := if x < 0 then -1 else (ones 64 x.toNat : Int)
def half (x : Int) : Int := ((2 ^ (ones 64 x.toNat - 1) : Nat) : Int)
def childL (x : Int) : Int := if lvl x < 1 then -1 else x - half x
def childR (x : Int) : Int := if lvl x < 1 then -1 else IntKind.i64.wrap (x + half x)
def soundB (n : Int) : Bool := n == 1 || n == 2 || n == 4 || n == 8 || n == 16 || n == 32
def nodeB (x n : Int) : Bool := soundB n && decide (0 ≤ x) && decide (x ≤ 2 * n - 2)
/-- the parent: by the level's bit and the next one -/
def parN (x : Nat) : Nat := (x ||| 2 ^ ones 64 x) - (if x.testBit (ones 64 x + 1) then 2 ^ (ones 64 x + 1) else 0)
def parV (x n : Int) : Int := if nodeB x n = false ∨ x = n - 1 then -1 else (parN x.toNat : Int)
def sibV (x n : Int) : Int := if parV x n < 0 then -1 else childL (parV x n) + childR (parV x n) - x
def reach (x : Int) : Int := ((2 ^ ones 64 x.toNat : Nat) : Int) - 1
def lo (x n : Int) : Int := if nodeB x n then (x - reach x) / 2 else -1
def hi (x n : Int) : Int := if nodeB x n then (x + reach x) / 2 else -1
def aboveV (x y n : Int) : Bool := nodeB x n && nodeB y n && decide (x - reach x ≤ y) && decide (y ≤ x + reach x)
def leavesV (x : Int) : Int := if x = 1 then 1 else if x = 3 then 2 else if x = 7 then 4 else if x = 15 then 8 else if x = 31 then 16 else if x = 63 then 32 else 0

theorem nodes (x n : Int) (h : nodeB x n = true) : ∃ a b : Nat, x = a ∧ n = b ∧ b ∈ [1, 2, 4, 8, 16, 32] ∧ a < 2 * b - 1 := by
  simp only [nodeB, soundB, Bool.and_eq_true, Bool.or_eq_true, beq_iff_eq, decide_eq_true_eq] at h
  obtain ⟨⟨hs, h0⟩, h1⟩ := h
  refine ⟨x.toNat, n.toNat, by omega, by omega, ?_, by omega⟩
  rcases hs with ((((rfl | rfl) | rfl) | rfl) | rfl) | rfl <;> decide

theorem law_par : ∀ n ∈ ([1, 2, 4, 8, 16, 32] : List Nat), ∀ x : Nat, x < 2 * n - 1 → ∀ p : Nat, p < 2 * n - 1 → (decide (childL (p : Int) = (x : Int)) || decide (childR (p : Int) = (x : Int))) = decide ((p : Int) = parV (x : Int) (n : Int)) := by decide +kernel
theorem law_parRange : ∀ n ∈ ([1, 2, 4, 8, 16, 32] : List Nat), ∀ x : Nat, x < 2 * n - 1 → (decide (-1 ≤ parV (x : Int) (n : Int)) && decide (parV (x : Int) (n : Int) ≤ 2 * (n : Int) - 2) && decide (0 ≤ lvl (x : Int)) && decide (lvl (x : Int) ≤ 5)
    && (decide (parV (x : Int) (n : Int) < 0) || decide (lvl (parV (x : Int) (n : Int)) = lvl (x : Int) + 1))) = true := by decide +kernel
theorem law_above : ∀ n ∈ ([1, 2, 4, 8, 16, 32] : List Nat), ∀ x : Nat, x < 2 * n - 1 → ∀ p : Nat, p < 2 * n - 1 → (decide (p = x) || (aboveV (x : Int) (p : Int) (n : Int) == aboveV (x : Int) (parV (p : Int) (n : Int)) (n : Int))) = true := by decide +kernel
theorem law_self : ∀ n ∈ ([1, 2, 4, 8, 16, 32] : List Nat), ∀ x : Nat, x < 2 * n - 1 → aboveV (x : Int) (x : Int) (n : Int) = true := by decide +kernel
theorem law_leaf : ∀ n ∈ ([1, 2, 4, 8, 16, 32] : List Nat), ∀ x : Nat, x < 2 * n - 1 → ∀ i : Nat, i < n → aboveV (x : Int) (2 * i : Int) (n : Int) = (decide (lo (x : Int) (n : Int) ≤ (i : Int)) && decide ((i : Int) ≤ hi (x : Int) (n : Int))) := by decide +kernel
theorem law_ends : ∀ n ∈ ([1, 2, 4, 8, 16, 32] : List Nat), ∀ x : Nat, x < 2 * n - 1 → (decide (0 ≤ lo (x : Int) (n : Int)) && decide (lo (x : Int) (n : Int) ≤ hi (x : Int) (n : Int)) && decide (hi (x : Int) (n : Int) < (n : Int))) = true := by decide +kernel
end Go.Proofs.YtlkgklplcbmimaaDoor
