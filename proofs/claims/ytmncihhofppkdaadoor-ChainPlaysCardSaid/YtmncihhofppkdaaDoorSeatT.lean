/- PLAIN LAW: the nodes of a tree of at most 32 leaves: levels, children, parents, leaves below; what a search finds among all nodes. No program, no conditions. -/
import Derived.Test.YtmncihhofppkdaaDoorBits
import Derived.Lib.TrailingZeros
import Derived.Test.YtmncihhofppkdaaDoorRows
import Derived.Shelf.Spec.TrailingZeros
import Derived.Lib.Hide
import Derived.WalkSpells
import Derived.WalkLawsBesides
import Derived.WalkKit
import Derived.Lib.LaidTab
import Derived.Stop.LaidErr
import Derived.ProofKit
namespace Go.Proofs.YtmncihhofppkdaaDoor
set_option linter.unusedVariables false

/-- how many ones a number ends in (as far as f) -/
def ones : Nat → Nat → Nat
  | 0, _ => 0
  | f + 1, x => if x % 2 = 1 then 1 + ones f (x / 2) else 0
theorem ctz_ones : ∀ (f x : Nat), x < 2 ^ f → Lib.ctzFrom f (2 ^ f - 1 - x) = ones f x
  | 0, _, _ => rfl
  | f + 1, x, h => by
    have e1 : 2 ^ (f + 1) = 2 * 2 ^ f := by rw [Nat.pow_succ, Nat.mul_comm]
    rw [e1] at h ⊢
    have ih := ctz_ones f (x / 2) (by omega)
    unfold Lib.ctzFrom ones
    by_cases hx : x % 2 = 1
    · rw [if_neg (by omega), if_pos hx, ← ih, show (2 * 2 ^ f - 1 - x) / 2 = 2 ^ f - 1 - x / 2 by omega]
    · rw [if_pos (by omega), if_neg hx]
theorem ones_le : ∀ (f x : Nat), ones f x ≤ f
  | 0, _ => Nat.le_refl _
  | f + 1, x => by
    unfold ones
    have := ones_le f (x / 2)
    split <;> omega
theorem ones_pow : ∀ (f x : Nat), 2 ^ ones f x ≤ x + 1
  | 0, _ => by simp [ones]
  | f + 1, x => by
    unfold ones
    split
    · have := ones_pow f (x / 2)
      rw [Nat.add_comm 1, Nat.pow_succ]; omega
    · simp
theorem ones_step (f x : Nat) (h : x < 2 ^ f) : ones (f + 1) x = ones f x := by
  induction f generalizing x with
  | zero => have : x = 0 := by simpa using h
            subst this; rfl
  | succ f ih =>
    rw [Nat.pow_succ] at h
    rw [ones, ones.eq_2 x f, ih (x / 2) (by omega)]

/-- a node's level -/
def lvl (x : Int) : Int := if x < 0 then -1 else (ones 64 x.toNat : Int)
def half (x : Int) : Int := ((2 ^ (ones 64 x.toNat - 1) : Nat) : Int)
def childL (x : Int) : Int := if lvl x < 1 then -1 else x - half x
def childR (x : Int) : Int := if lvl x < 1 then -1 else IntKind.i64.wrap (x + half x)
def soundB (n : Int) : Bool := n == 1 || n == 2 || n == 4 || n == 8 || n == 16 || n == 32
def nodeB (x n : Int) : Bool := soundB n && decide (0 ≤ x) && decide (x ≤ 2 * n - 2)
/-- the parent: by the level's bit and the next one -/
def parN (x : Nat) : Nat := (x ||| 2 ^ ones 64 x) - (if x.testBit (ones 64 x + 1) then 2 ^ (ones 64 x + 1) else 0)
def parV (x n : Int) : Int := if nodeB x n = false ∨ x = n - 1 then -1 else (parN x.toNat : Int)
def sibV (x n : Int) : Int := if parV x n < 0 then -1 else childL (parV x n) + childR (parV x n) - x
def reach (x : Int) : Int := ((2 ^ ones 64 x.toNat : Nat) : Int) - 1
def lo (x n : Int) : Int := if nodeB x n then (x - reach x) / 2 else -1
def hi (x n : Int) : Int := if nodeB x n then (x + reach x) / 2 else -1
def aboveV (x y n : Int) : Bool := nodeB x n && nodeB y n && decide (x - reach x ≤ y) && decide (y ≤ x + reach x)
def leavesV (x : Int) : Int := if x = 1 then 1 else if x = 3 then 2 else if x = 7 then 4 else if x = 15 then 8 else if x = 31 then 16 else if x = 63 then 32 else 0

theorem nodes (x n : Int) (h : nodeB x n = true) : ∃ a b : Nat, x = a ∧ n = b ∧ b ∈ [1, 2, 4, 8, 16, 32] ∧ a < 2 * b - 1 := by
  simp only [nodeB, soundB, Bool.and_eq_true, Bool.or_eq_true, beq_iff_eq, decide_eq_true_eq] at h
  obtain ⟨⟨hs, h0⟩, h1⟩ := h
  refine ⟨x.toNat, n.toNat, by omega, by omega, ?_, by omega⟩
  rcases hs with ((((rfl | rfl) | rfl) | rfl) | rfl) | rfl <;> decide

theorem law_par : ∀ n ∈ ([1, 2, 4, 8, 16, 32] : List Nat), ∀ x : Nat, x < 2 * n - 1 → ∀ p : Nat, p < 2 * n - 1 → (decide (childL (p : Int) = (x : Int)) || decide (childR (p : Int) = (x : Int))) = decide ((p : Int) = parV (x : Int) (n : Int)) := by decide +kernel
theorem law_parRange : ∀ n ∈ ([1, 2, 4, 8, 16, 32] : List Nat), ∀ x : Nat, x < 2 * n - 1 → (decide (-1 ≤ parV (x : Int) (n : Int)) && decide (parV (x : Int) (n : Int) ≤ 2 * (n : Int) - 2) && decide (0 ≤ lvl (x : Int)) && decide (lvl (x : Int) ≤ 5)
    && (decide (parV (x : Int) (n : Int) < 0) || decide (lvl (parV (x : Int) (n : Int)) = lvl (x : Int) + 1))) = true := by decide +kernel
theorem law_above : ∀ n ∈ ([1, 2, 4, 8, 16, 32] : List Nat), ∀ x : Nat, x < 2 * n - 1 → ∀ p : Nat, p < 2 * n - 1 → (decide (p = x) || (aboveV (x : Int) (p : Int) (n : Int) == aboveV (x : Int) (parV (p : Int) (n : Int)) (n : Int))) = true := by decide +kernel
theorem law_self : ∀ n ∈ ([1, 2, 4, 8, 16, 32] : List Nat), ∀ x : Nat, x < 2 * n - 1 → aboveV (x : Int) (x : Int) (n : Int) = true := by decide +kernel
theorem law_leaf : ∀ n ∈ ([1, 2, 4, 8, 16, 32] : List Nat), ∀ x : Nat, x < 2 * n - 1 → ∀ i : Nat, i < n → aboveV (x : Int) (2 * i : Int) (n : Int) = (decide (lo (x : Int) (n : Int) ≤ (i : Int)) && decide ((i : Int) ≤ hi (x : Int) (n : Int))) := by decide +kernel
theorem law_ends : ∀ n ∈ ([1, 2, 4, 8, 16, 32] : List Nat), ∀ x : Nat, x < 2 * n - 1 → (decide (0 ≤ lo (x : Int) (n : Int)) && decide (lo (x : Int) (n : Int) ≤ hi (x : Int) (n : Int)) && decide (hi (x : Int) (n : Int) < (n : Int))) = true := by decide +kernel
end Go.Proofs.YtmncihhofppkdaaDoor

/- CONTRACTS: math/bits.TrailingZeros; seat's Level, Children, Root, Leaves and the document's; which sizes and nodes there are. -/
namespace Go.Proofs.YtmncihhofppkdaaDoor
open Go.RowKit
set_option linter.unusedVariables false

/-- the library's table lies in its variable -/
def Tab (w : World) : Prop := TabAt 1 Lib.deBruijn64tab w
theorem Tab.lt {w : World} (h : Tab w) : 1 < w.heap.size := by
  have h0 := h 0 (by decide)
  apply Decidable.byContradiction
  intro hn
  rw [World.cell?] at h0
  simp [Array.getElem?_eq_none (Nat.le_of_not_lt hn)] at h0
theorem Tab.below {w w' : World} (h : Tab w) (hb : Below w.heap.size w w') : Tab w' := fun j hj => (World.cell?_of_block (a := ⟨1, j, none⟩) (hb.block 1 h.lt)).trans (h j hj)

set_option maxRecDepth 100000 in
set_option maxHeartbeats 1000000 in
theorem tz64_core (x k idx : Nat) (w : World) (hx0 : ((x : Int) == 0) = false)
    (key : IntKind.u64.wrap (bits BinOp.and IntKind.u64 (x : Int) (IntKind.u64.wrap (-(x : Int))) * 285870213051353865) / 288230376151711744 = (idx : Int))
    (hi : idx < 64) (hk : k < 64) (hcell : w.cell? ⟨1, idx, none⟩ = some (.int .u8 k)) :
    Calls Tryd.prog 61 #[.int .u64 x] w fun e w' => e = .returned (.int .i64 k) ∧ w = w' := by
  go_enter Tryd.func61, Tryd.ntmps61
  go_wp2_with (simp only [key])
  go_ret
  exact ⟨rfl, rfl⟩
theorem tz64_any (x : Nat) (hx : x < 18446744073709551616) (hx0 : x ≠ 0) (w : World) (hT : Tab w) :
    Calls Tryd.prog 61 #[.int .u64 x] w fun e w' => e = .returned (.int .i64 (Lib.ctz 64 x)) ∧ w = w' := by
  obtain ⟨hlow, hk⟩ := Lib.lowest_bit 64 x hx0 hx
  obtain ⟨hi, htab⟩ := Lib.deBruijn64_at _ hk
  have hcell := hT _ hi
  rw [htab] at hcell
  exact tz64_core x _ _ w (by simp; omega) (tz64_key x _ hx hx0 hlow) hi hk hcell
set_option maxRecDepth 100000 in
set_option maxHeartbeats 1000000 in
theorem tz_any (x : Nat) (hx : x < 18446744073709551616) (hx0 : x ≠ 0) (w : World) (hT : Tab w) :
    Calls Tryd.prog 56 #[.int .u64 x] w fun e w' => e = .returned (.int .i64 (Lib.ctz 64 x)) ∧ w = w' := by
  have Hc := Lib.hid (tz64_any x hx hx0 w hT)
  go_enter Tryd.func56, Tryd.ntmps56
  go_wp2_with (go_at_call 61; refine Hc.out.mono ?_; rintro e w' ⟨rfl, rfl⟩)
  go_ret
  exact ⟨rfl, rfl⟩
set_option maxRecDepth 100000 in
set_option maxHeartbeats 1000000 in
theorem level_any (x : Int) (hx : x < 9223372036854775808) (w : World) (hT : Tab w) :
    Calls Tryd.prog 50 #[.int .i64 x] w fun e w' => e = .returned (.int .i64 (lvl x)) ∧ w = w' := by
  by_cases h0 : x < 0
  · have e : lvl x = -1 := if_pos h0
    rw [e]
    go_enter Tryd.func50, Tryd.ntmps50
    go_wp2
    go_ret
    exact ⟨rfl, rfl⟩
  · obtain ⟨X, rfl, hX⟩ : ∃ X : BitVec 64, x = bv X ∧ X.toNat = x.toNat := ⟨BitVec.ofNat 64 x.toNat, by unfold bv; rw [BitVec.toNat_ofNat]; omega, by rw [BitVec.toNat_ofNat]; omega⟩
    have e : lvl (bv X) = (ones 64 X.toNat : Int) := by unfold lvl; rw [if_neg h0, ← hX]
    have hn : X.toNat < 2 ^ 64 := X.isLt
    have hY : (BitVec.ofNat 64 18446744073709551615 ^^^ X).toNat = 18446744073709551615 - X.toNat := by
      rw [show BitVec.ofNat 64 18446744073709551615 = BitVec.allOnes 64 from rfl, BitVec.allOnes_xor, BitVec.toNat_not]
    have hlt : X.toNat < 9223372036854775808 := by unfold bv at hx; omega
    have ec : Lib.ctz 64 (BitVec.ofNat 64 18446744073709551615 ^^^ X).toNat = ones 64 X.toNat := by
      have := ctz_ones 64 X.toNat hn
      rw [hY]
      unfold Lib.ctz
      rw [if_neg (by omega)]
      exact this
    have hc0 : Calls Tryd.prog 56 #[.int .u64 (bv (BitVec.ofNat 64 18446744073709551615 ^^^ X))] w fun e w' => e = .returned (.int .i64 (Lib.ctz 64 (BitVec.ofNat 64 18446744073709551615 ^^^ X).toNat)) ∧ w = w' :=
      tz_any (BitVec.ofNat 64 18446744073709551615 ^^^ X).toNat (BitVec.isLt _) (by omega) w hT
    have Hc := Lib.hid hc0
    have hxor : bits .xor .u64 (if IntKind.u64.signed = true then -1 else IntKind.u64.max) (bv X) = bv (BitVec.ofNat 64 18446744073709551615 ^^^ X) := by
      rw [show (if IntKind.u64.signed = true then (-1 : Int) else IntKind.u64.max) = @OfNat.ofNat Int 18446744073709551615 instOfNat from rfl]
      exact xor_u64_litl X 18446744073709551615
    have Hx := Lib.hid hxor
    clear hxor
    rw [e, ← ec]
    have h0' : decide (bv X < 0) = false := by simpa using h0
    clear e ec hY hn hX h0 hT hx hlt hc0
    go_enter Tryd.func50, Tryd.ntmps50
    go_wp2_with (go_at_call 56; rw [Hx.out]; (refine Hc.out.mono ?_; rintro e w' ⟨rfl, rfl⟩))
    go_ret
    exact ⟨rfl, rfl⟩
theorem sound_facts : ∀ m : Nat, m < 33 → 1 ≤ m → ((bits .and .i64 (m : Int) ((m : Int) - 1) == 0) = soundB (m : Int)) := by decide +kernel
set_option maxRecDepth 100000 in
set_option maxHeartbeats 1000000 in
theorem sound_any (n : Int) (w : World) :
    Calls Tryd.prog 39 #[.int .i64 n] w fun e w' => e = .returned (.bool (soundB n)) ∧ w = w' := by
  by_cases h1 : n < 1
  · have e : soundB n = false := by simp [soundB]; omega
    have h1' : decide (1 ≤ n) = false := by simp; omega
    rw [e]
    go_enter Tryd.func39, Tryd.ntmps39
    go_wp2
    go_ret
    exact ⟨rfl, rfl⟩
  by_cases h2 : 32 < n
  · have e : soundB n = false := by simp [soundB]; omega
    have h1' : decide (1 ≤ n) = true := by simp; omega
    have h2' : decide (n ≤ 32) = false := by simp; omega
    rw [e]
    go_enter Tryd.func39, Tryd.ntmps39
    go_wp2
    go_ret
    exact ⟨rfl, rfl⟩
  have hf : (bits .and .i64 n (n - 1) == 0) = soundB n := by
    have := sound_facts n.toNat (by omega) (by omega)
    rwa [show ((n.toNat : Nat) : Int) = n by omega] at this
  have h1' : decide (1 ≤ n) = true := by simp; omega
  have h2' : decide (n ≤ 32) = true := by simp; omega
  have b1 : 1 ≤ n := by omega
  have b2 : n ≤ 32 := by omega
  rw [← hf]
  clear hf
  go_enter Tryd.func39, Tryd.ntmps39
  go_wp2
  go_ret
  exact ⟨rfl, rfl⟩
theorem sound_split (n : Int) : (n = 1 ∨ n = 2 ∨ n = 4 ∨ n = 8 ∨ n = 16 ∨ n = 32) ∨ (soundB n = false ∧ (n == 1) = false ∧ (n == 2) = false ∧ (n == 4) = false ∧ (n == 8) = false ∧ (n == 16) = false ∧ (n == 32) = false) := by
  simp [soundB]; omega
set_option maxRecDepth 100000 in
set_option maxHeartbeats 1000000 in
theorem refSound_any (n : Int) (w : World) :
    Calls Tryd.prog 21 #[.int .i64 n] w fun e w' => e = .returned (.bool (soundB n)) ∧ w = w' := by
  rcases sound_split n with (rfl | rfl | rfl | rfl | rfl | rfl) | ⟨e, h1, h2, h3, h4, h5, h6⟩
  case inr =>
    rw [e]
    go_enter Tryd.func21, Tryd.ntmps21
    go_wp2
    go_ret
    exact ⟨rfl, rfl⟩
  all_goals
    go_enter Tryd.func21, Tryd.ntmps21
    go_wp2
    go_ret
    exact ⟨rfl, rfl⟩
end Go.Proofs.YtmncihhofppkdaaDoor

/- CONTRACTS: seat's Children, Root, Leaves, node and the document's Level, Children, Node, Leaves. -/
namespace Go.Proofs.YtmncihhofppkdaaDoor
open Go.RowKit
set_option linter.unusedVariables false

set_option maxRecDepth 100000 in
set_option maxHeartbeats 1000000 in
theorem refLevel_any (x : Int) (hx : x < 9223372036854775808) (w : World) :
    Calls Tryd.prog 43 #[.int .i64 x] w fun e w' => e = .returned (.int .i64 (lvl x)) ∧ w = w' := by
  by_cases h0 : x < 0
  · have e : lvl x = -1 := if_pos h0
    rw [e]
    go_enter Tryd.func43, Tryd.ntmps43
    go_wp2
    go_ret
    exact ⟨rfl, rfl⟩
  · obtain ⟨n, rfl⟩ : ∃ n : Nat, x = n := ⟨x.toNat, by omega⟩
    have e : lvl (n : Int) = (ones 64 n : Int) := by unfold lvl; rw [if_neg h0]; simp
    rw [e]
    have hn : n < 9223372036854775808 := by omega
    clear e h0 hx
    obtain ⟨L, hL⟩ : ∃ L, L = ones 64 n := ⟨_, rfl⟩
    rw [← hL]
    have HL := Lib.hid hL
    clear hL
    go_enter Tryd.func43, Tryd.ntmps43
    go_wp2
    go_loop [0, 3] (fun x k => ∃ m j f : Nat, m < 2 ^ f ∧ m < 9223372036854775808 ∧ j + ones f m = L ∧ j + f = 64 ∧ x = .int .i64 m ∧ k = .int .i64 j) (fun x _ => (intOf x).toNat)
    case atStart => exact ⟨n, 0, 64, by omega, hn, by rw [HL.out]; omega, rfl, rfl, rfl⟩
    case round =>
      obtain ⟨m, j, f, hm, hm2, hj, hf, rfl, rfl⟩ := hrel
      have Hm := Lib.hid hm
      have Hj := Lib.hid hj
      have jle : j ≤ 64 := by omega
      clear hm hj
      by_cases hodd : m % 2 = 1
      · have hodd' : ((m : Int) % 2 == 1) = true := by simp; omega
        have Ho := Lib.hid hodd
        clear hodd
        go_wp2
        go_round
        case rel =>
          have ho := Ho.out
          have hm := Hm.out
          have hj := Hj.out
          cases f with
          | zero => simp at hm; omega
          | succ f =>
            rw [Nat.pow_succ] at hm
            rw [ones, if_pos ho] at hj
            exact ⟨m / 2, j + 1, f, by omega, by omega, by omega, by omega, by go_num, by go_num⟩
        case measure => have ho := Ho.out; simp [intOf]; omega
      · have hodd' : ((m : Int) % 2 == 1) = false := by simp; omega
        have ej : L = j := by
          have hj := Hj.out
          cases f with
          | zero => simpa [ones] using hj.symm
          | succ f => rw [ones, if_neg hodd] at hj; omega
        have Ej := Lib.hid ej
        clear hodd ej
        go_wp2
        go_ret
        exact ⟨by rw [Ej.out]; rfl, rfl⟩

theorem lvl_le (x : Int) : lvl x ≤ 64 := by
  unfold lvl
  have := ones_le 64 x.toNat
  split <;> omega
set_option maxRecDepth 100000 in
set_option maxHeartbeats 1000000 in
theorem refNode_any (x n : Int) (w : World) :
    Calls Tryd.prog 52 #[.int .i64 x, .int .i64 n] w fun e w' => e = .returned (.bool (nodeB x n)) ∧ w = w' := by
  have Hc := Lib.hid (refSound_any n w)
  cases hs : soundB n with
  | false =>
    have e : nodeB x n = false := by simp [nodeB, hs]
    rw [e]
    rw [hs] at Hc
    have Hs := Lib.hid hs
    clear hs e
    go_enter Tryd.func52, Tryd.ntmps52
    go_wp2_with (go_at_call 21; refine Hc.out.mono ?_; rintro e w' ⟨rfl, rfl⟩)
    go_ret
    exact ⟨rfl, rfl⟩
  | true =>
    have b : 1 ≤ n ∧ n ≤ 32 := by simp [soundB] at hs; omega
    obtain ⟨b1, b2⟩ := b
    rw [hs] at Hc
    have Hs := Lib.hid hs
    by_cases h0 : 0 ≤ x
    · have h0' : decide (0 ≤ x) = true := by simpa using h0
      have e : nodeB x n = decide (x ≤ 2 * n - 2) := by simp [nodeB, hs, h0]
      rw [e]
      clear hs e
      go_enter Tryd.func52, Tryd.ntmps52
      go_wp2_with (go_at_call 21; refine Hc.out.mono ?_; rintro e w' ⟨rfl, rfl⟩)
      go_ret
      exact ⟨rfl, rfl⟩
    · have h0' : decide (0 ≤ x) = false := by simp; omega
      have e : nodeB x n = false := by simp [nodeB, hs]; omega
      rw [e]
      clear hs e
      go_enter Tryd.func52, Tryd.ntmps52
      go_wp2_with (go_at_call 21; refine Hc.out.mono ?_; rintro e w' ⟨rfl, rfl⟩)
      go_ret
      exact ⟨rfl, rfl⟩

def rootV (n : Int) : Int := if soundB n then n - 1 else -1
set_option maxRecDepth 100000 in
set_option maxHeartbeats 1000000 in
theorem root_any (n : Int) (h1 : -9223372036854775808 ≤ n) (h2 : n < 9223372036854775808) (w : World) :
    Calls Tryd.prog 27 #[.int .i64 n] w fun e w' => e = .returned (.int .i64 (rootV n)) ∧ w = w' := by
  have Hc := Lib.hid (sound_any n w)
  cases hs : soundB n with
  | false =>
    have e : rootV n = -1 := by simp [rootV, hs]
    rw [e]
    rw [hs] at Hc
    clear hs e
    go_enter Tryd.func27, Tryd.ntmps27
    go_wp2_with (go_at_call 39; refine Hc.out.mono ?_; rintro e w' ⟨rfl, rfl⟩)
    go_ret
    exact ⟨rfl, rfl⟩
  | true =>
    have b : 1 ≤ n ∧ n ≤ 32 := by simp [soundB] at hs; omega
    obtain ⟨b1, b2⟩ := b
    have e : rootV n = n - 1 := by simp [rootV, hs]
    rw [e]
    rw [hs] at Hc
    clear hs e
    go_enter Tryd.func27, Tryd.ntmps27
    go_wp2_with (go_at_call 39; refine Hc.out.mono ?_; rintro e w' ⟨rfl, rfl⟩)
    go_ret
    exact ⟨rfl, rfl⟩
theorem children_deep (x : Int) (h : ¬ lvl x < 1) (hx : x < 9223372036854775808) : ∃ k : Nat, k ≤ 62 ∧ lvl x = ((k + 1 : Nat) : Int) ∧ half x = ((2 ^ k : Nat) : Int) ∧ ((2 ^ k : Nat) : Int) ≤ x ∧ 2 ^ k ≤ 4611686018427387904 := by
  have h0 : ¬ x < 0 := by
    intro h0; apply h; unfold lvl; rw [if_pos h0]; decide
  have e : lvl x = (ones 64 x.toNat : Int) := by unfold lvl; rw [if_neg h0]
  have := ones_le 64 x.toNat
  rw [e] at h
  have hp := ones_pow 64 x.toNat
  obtain ⟨k, hk⟩ : ∃ k, ones 64 x.toNat = k + 1 := ⟨ones 64 x.toNat - 1, by omega⟩
  have hk62 : k ≤ 62 := by
    apply Decidable.byContradiction
    intro hn
    have : 2 ^ 64 ≤ 2 ^ ones 64 x.toNat := Nat.pow_le_pow_right (by decide) (by omega)
    omega
  have hmax : (2 : Nat) ^ k ≤ 2 ^ 62 := Nat.pow_le_pow_right (by decide) hk62
  rw [hk, Nat.pow_succ] at hp
  exact ⟨k, hk62, by rw [e, hk], by unfold half; rw [hk]; rfl, by omega, by omega⟩
theorem pow_cast (k : Nat) : (2 : Int) ^ k = ((2 ^ k : Nat) : Int) := by simp
set_option maxRecDepth 100000 in
set_option maxHeartbeats 1000000 in
theorem children_any (x : Int) (hx : x < 9223372036854775808) (w : World) (hT : Tab w) :
    Calls Tryd.prog 40 #[.int .i64 x] w fun e w' => e = .returned (.tuple #[.int .i64 (childL x), .int .i64 (childR x)]) ∧ w = w' := by
  have Hc := Lib.hid (level_any x hx w hT)
  by_cases h : lvl x < 1
  · have e1 : childL x = -1 := if_pos h
    have e2 : childR x = -1 := if_pos h
    have h' : decide (lvl x < 1) = true := by simpa using h
    rw [e1, e2]
    clear e1 e2 h
    generalize lvl x = l at *
    go_enter Tryd.func40, Tryd.ntmps40
    go_wp2_with (go_at_call 50; refine Hc.out.mono ?_; rintro e w' ⟨rfl, rfl⟩)
    go_ret2
    exact ⟨rfl, rfl⟩
  · obtain ⟨k, hk, e, hh, h0, hm⟩ := children_deep x h hx
    have e1 : childL x = x - half x := if_neg h
    have e2 : childR x = IntKind.i64.wrap (x + half x) := if_neg h
    have hc := pow_cast k
    rw [hh] at e1 e2
    rw [e1, e2]
    rw [e] at Hc
    clear e1 e2 h e hh hT
    generalize 2 ^ k = p at *
    have Hp := Lib.hid hc
    have f1 : wrap64 (x - wrap64 (p : Int)) = x - p := by rw [IntWalk.wrap64_in (p : Int) (by omega), IntWalk.wrap64_in (x - p) (by omega)]
    have f2 : wrap64 (x + wrap64 (p : Int)) = IntKind.i64.wrap (x + p) := by rw [IntWalk.wrap64_in (p : Int) (by omega), IntWalk.i64_left]
    have F1 := Lib.hid f1
    have F2 := Lib.hid f2
    clear hc f1 f2
    go_enter Tryd.func40, Tryd.ntmps40
    go_wp2_with (go_at_call 50; refine Hc.out.mono ?_; rintro e w' ⟨rfl, rfl⟩)
    go_ret2
    exact ⟨by rw [← F1.out, ← F2.out, ← Hp.out]; rfl, rfl⟩

set_option maxRecDepth 100000 in
set_option maxHeartbeats 1000000 in
theorem refChildren_any (x : Int) (hx : x < 9223372036854775808) (w : World) :
    Calls Tryd.prog 30 #[.int .i64 x] w fun e w' => e = .returned (.tuple #[.int .i64 (childL x), .int .i64 (childR x)]) ∧ w = w' := by
  have Hc := Lib.hid (refLevel_any x hx w)
  by_cases h : lvl x < 1
  · have e1 : childL x = -1 := if_pos h
    have e2 : childR x = -1 := if_pos h
    have h' : decide (lvl x < 1) = true := by simpa using h
    rw [e1, e2]
    clear e1 e2 h
    generalize lvl x = l at *
    go_enter Tryd.func30, Tryd.ntmps30
    go_wp2_with (go_at_call 43; refine Hc.out.mono ?_; rintro e w' ⟨rfl, rfl⟩)
    go_ret2
    exact ⟨rfl, rfl⟩
  · obtain ⟨k, hk, e, hh, h0, hm⟩ := children_deep x h hx
    have e1 : childL x = x - half x := if_neg h
    have e2 : childR x = IntKind.i64.wrap (x + half x) := if_neg h
    rw [hh] at e1 e2
    rw [e1, e2]
    rw [e] at Hc
    clear e1 e2 h e hh
    obtain ⟨p, hp⟩ : ∃ p, p = 2 ^ k := ⟨_, rfl⟩
    rw [← hp] at h0 hm ⊢
    have Hp := Lib.hid hp
    have f2 : wrap64 (x + (p : Int)) = IntKind.i64.wrap (x + p) := by rw [IntWalk.i64_left]
    have F2 := Lib.hid f2
    clear hp f2
    go_enter Tryd.func30, Tryd.ntmps30
    go_wp2_with (go_at_call 43; refine Hc.out.mono ?_; rintro e w' ⟨rfl, rfl⟩)
    go_loop [5, 6] (fun q i => ∃ j q' : Nat, j ≤ k ∧ q' = 2 ^ j ∧ q' ≤ p ∧ i = .int .i64 ((j + 1 : Nat) : Int) ∧ q = .int .i64 q') (fun _ i => k + 1 - (intOf i).toNat)
    case atStart => exact ⟨0, 1, by omega, rfl, by rw [Hp.out]; exact Nat.one_le_two_pow, rfl, rfl⟩
    case round =>
      obtain ⟨j, q, hj, hq, hqp, rfl, rfl⟩ := hrel
      have Hq := Lib.hid hq
      clear hq
      by_cases hlt : j < k
      · have hq2 : 2 * q ≤ p := by
          rw [Hp.out, Hq.out]
          have : 2 ^ (j + 1) ≤ 2 ^ k := Nat.pow_le_pow_right (by decide) (by omega)
          rw [Nat.pow_succ] at this
          omega
        go_wp2
        go_round
        case rel => exact ⟨j + 1, 2 * q, by omega, by rw [Hq.out, Nat.pow_succ, Nat.mul_comm], hq2, by go_num, by go_num⟩
        case measure => simp [intOf]; omega
      · obtain rfl : j = k := by omega
        obtain rfl : q = p := by rw [Hp.out, Hq.out]
        go_wp2
        go_ret2
        exact ⟨by rw [← F2.out]; rfl, rfl⟩
end Go.Proofs.YtmncihhofppkdaaDoor

/- what a row's list gives: the library's table lies in its variable; a world for the witness. -/
namespace Go.Proofs.YtmncihhofppkdaaDoor
open Go.RowKit
set_option linter.unusedVariables false
theorem gTab : Tryd.prog.globalNamed "math/bits.deBruijn64tab" = some 1 := by kernel_rfl
theorem gTabType : (Tryd.prog.globals[1]?).map (·.type) = some 121 := by kernel_rfl
theorem cellsTab : Tryd.prog.cellsOf 121 = 64 := by kernel_rfl
theorem cellsByte : Tryd.prog.cellsOf 5 = 1 := by kernel_rfl
def tabInts : List Int := Lib.deBruijn64tab.map Int.ofNat
def rowsLaid : List (String × DataW Unit) := [("math/bits.deBruijn32tab", Rows.laid_math_bits_deBruijn32tab), ("math/bits.deBruijn64tab", Rows.laid_math_bits_deBruijn64tab)]
theorem tab_eq : (Rows.laid_math_bits_deBruijn64tab : DataW Unit) = Lib.tabData .u8 tabInts := rfl
theorem tab_at : ∀ j, j < 64 → tabInts.getD j 0 = ((Lib.deBruijn64tab.getD j 0 : Nat) : Int) := by decide +kernel
theorem tab_of_row {W : World} (h : laidMetH Tryd.prog rowsLaid W) : Tab W := by
  have h1 : laidMet Tryd.prog rowsLaid W := h
  have h2 : laidMet Tryd.prog [("math/bits.deBruijn64tab", Lib.tabData .u8 tabInts)] W := by
    rw [← tab_eq]; exact h1.tail
  have h3 : Lib.TabIs Tryd.prog W "math/bits.deBruijn64tab" .u8 tabInts := Lib.tabIs_of_head (rest := []) gTab gTabType Tryd.underlying121 Tryd.underlying5 cellsByte cellsTab h2
  intro j hj
  have hj64 : j < 64 := hj
  have := h3.cell gTab j (by simpa [tabInts, Lib.deBruijn64tab] using hj64)
  rw [tab_at j hj64] at this
  exact this

def layCells (vs : Array Value) : Obj → Obj
  | .cells _ t frozen => .cells vs t frozen
  | o => o
/-- a world for a witness: the settled one, with the tables as their initialisers lay them -/
noncomputable def laidWorld (os : Os) : World :=
  { World.holding Tryd.prog os ⟨#[], #[], []⟩ with heap := ((World.holding Tryd.prog os ⟨#[], #[], []⟩).heap.modify 0 (layCells (Lib.deBruijn32tab.map fun n => Value.int .u8 (Int.ofNat n)).toArray)).modify 1 (layCells (Lib.deBruijn64tab.map fun n => Value.int .u8 (Int.ofNat n)).toArray) }
end Go.Proofs.YtmncihhofppkdaaDoor
