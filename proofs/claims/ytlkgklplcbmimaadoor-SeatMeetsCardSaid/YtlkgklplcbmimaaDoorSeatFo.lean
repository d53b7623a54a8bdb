/- CONTRACTS: seat's Children, Root, Leaves, node and the document's Level, Children, Node, Leaves. -/
import Derived.Test.YtlkgklplcbmimaaDoorSeatFn
namespace Go.Proofs.YtlkgklplcbmimaaDoor
open Go.RowKit
set_option linter.unusedVariables false

set_option maxRecDepth 100000 in
set_option maxHeartbeats 1000000 in
theorem refLevel_any (x : Int) (hx : x < 9223372036854775808) (w : World) :
    Calls Tryd.prog 14 #[.int .i64 x] w fun e w' => e = .returned (.int .i64 (lvl x)) ∧ w = w' := by
  by_cases h0 : x < 0
  · have e : lvl x = -1 := if_pos h0
    rw [e]
    go_enter Tryd.func14, Tryd.ntmps14
    go_wp2
    go_ret
    exact ⟨rfl, rfl⟩
  · obtain ⟨n, rfl⟩ : ∃ n : Nat, x = n := ⟨x.toNat, by omega⟩
    have e : lvl (n : Int) = (ones 64 n : Int) := by unfold lvl; rw [if_neg h0]; simp
    rw [e]
    have hn : n < 9223372036854775808 := by omega
    clear e h0 hx
    obtain ⟨L, hL⟩ : ∃ L, L = ones 64 n := ⟨_, rfl⟩
    rw [← hL]
    have HL := Lib.hid hL
    clear hL
    go_enter Tryd.func14, Tryd.ntmps14
    go_wp2
    go_loop [0, 3] (fun x k => ∃ m j f : Nat, m < 2 ^ f ∧ m < 9223372036854775808 ∧ j + ones f m = L ∧ j + f = 64 ∧ x = .int .i64 m ∧ k = .int .i64 j) (fun x _ => (intOf x).toNat)
    case atStart => exact ⟨n, 0, 64, by omega, hn, by rw [HL.out]; omega, rfl, rfl, rfl⟩
    case round =>
      obtain ⟨m, j, f, hm, hm2, hj, hf, rfl, rfl⟩ := hrel
      have Hm := Lib.hid hm
      have Hj := Lib.hid hj
      have jle : j ≤ 64 := by omega
      clear hm hj
      by_cases hodd : m % 2 = 1
      · have hodd' : ((m : Int) % 2 == 1) = true := by simp; omega
        have Ho := Lib.hid hodd
        clear hodd
        go_wp2
        go_round
        case rel =>
          have ho := Ho.out
          have hm := Hm.out
          have hj := Hj.out
          cases f with
          | zero => simp at hm; omega
          | succ f =>
            rw [Nat.pow_succ] at hm
            rw [ones, if_pos ho] at hj
            exact ⟨m / 2, j + 1, f, by omega, by omega, by omega, by omega, by go_num, by go_num⟩
        case measure => have ho := Ho.out; simp [intOf]; omega
      · have hodd' : ((m : Int) % 2 == 1) = false := by simp; omega
        have ej : L = j := by
          have hj := Hj.out
          cases f with
          | zero => simpa [ones] using hj.symm
          | succ f => rw [ones, if_neg hodd] at hj; omega
        have Ej := Lib.hid ej
        clear hodd ej
        go_wp2
        go_ret
        exact ⟨by rw [Ej.out]; rfl, rfl⟩

theorem lvl_le (x : Int) : lvl x ≤ 64 := by
  unfold lvl
  have := ones_le 64 x.toNat
  split <;> omega
set_option maxRecDepth 100000 in
set_option maxHeartbeats 1000000 in
theorem node_any (x n : Int) (h1 : -9223372036854775808 ≤ n) (h2 : n < 9223372036854775808) (w : World) :
    Calls Tryd.prog 29 #[.int .i64 x, .int .i64 n] w fun e w' => e = .returned (.bool (nodeB x n)) ∧ w = w' := by
  have Hc := Lib.hid (sound_any n w)
  cases hs : soundB n with
  | false =>
    have e : nodeB x n = false := by simp [nodeB, hs]
    rw [e]
    rw [hs] at Hc
    have Hs := Lib.hid hs
    clear hs e
    go_enter Tryd.func29, Tryd.ntmps29
    go_wp2_with (go_at_call 32; refine Hc.out.mono ?_; rintro e w' ⟨rfl, rfl⟩)
    go_ret
    exact ⟨rfl, rfl⟩
  | true =>
    have b : 1 ≤ n ∧ n ≤ 32 := by simp [soundB] at hs; omega
    obtain ⟨b1, b2⟩ := b
    rw [hs] at Hc
    have Hs := Lib.hid hs
    by_cases h0 : 0 ≤ x
    · have h0' : decide (0 ≤ x) = true := by simpa using h0
      have e : nodeB x n = decide (x ≤ 2 * n - 2) := by simp [nodeB, hs, h0]
      rw [e]
      clear hs e
      go_enter Tryd.func29, Tryd.ntmps29
      go_wp2_with (go_at_call 32; refine Hc.out.mono ?_; rintro e w' ⟨rfl, rfl⟩)
      go_ret
      exact ⟨rfl, rfl⟩
    · have h0' : decide (0 ≤ x) = false := by simp; omega
      have e : nodeB x n = false := by simp [nodeB, hs]; omega
      rw [e]
      clear hs e
      go_enter Tryd.func29, Tryd.ntmps29
      go_wp2_with (go_at_call 32; refine Hc.out.mono ?_; rintro e w' ⟨rfl, rfl⟩)
      go_ret
      exact ⟨rfl, rfl⟩
set_option maxRecDepth 100000 in
set_option maxHeartbeats 1000000 in
theorem refNode_any (x n : Int) (w : World) :
    Calls Tryd.prog 30 #[.int .i64 x, .int .i64 n] w fun e w' => e = .returned (.bool (nodeB x n)) ∧ w = w' := by
  have Hc := Lib.hid (refSound_any n w)
  cases hs : soundB n with
  | false =>
    have e : nodeB x n = false := by simp [nodeB, hs]
    rw [e]
    rw [hs] at Hc
    have Hs := Lib.hid hs
    clear hs e
    go_enter Tryd.func30, Tryd.ntmps30
    go_wp2_with (go_at_call 21; refine Hc.out.mono ?_; rintro e w' ⟨rfl, rfl⟩)
    go_ret
    exact ⟨rfl, rfl⟩
  | true =>
    have b : 1 ≤ n ∧ n ≤ 32 := by simp [soundB] at hs; omega
    obtain ⟨b1, b2⟩ := b
    rw [hs] at Hc
    have Hs := Lib.hid hs
    by_cases h0 : 0 ≤ x
    · have h0' : decide (0 ≤ x) = true := by simpa using h0
      have e : nodeB x n = decide (x ≤ 2 * n - 2) := by simp [nodeB, hs, h0]
      rw [e]
      clear hs e
      go_enter Tryd.func30, Tryd.ntmps30
      go_wp2_with (go_at_call 21; refine Hc.out.mono ?_; rintro e w' ⟨rfl, rfl⟩)
      go_ret
      exact ⟨rfl, rfl⟩
    · have h0' : decide (0 ≤ x) = false := by simp; omega
      have e : nodeB x n = false := by simp [nodeB, hs]; omega
      rw [e]
      clear hs e
      go_enter Tryd.func30, Tryd.ntmps30
      go_wp2_with (go_at_call 21; refine Hc.out.mono ?_; rintro e w' ⟨rfl, rfl⟩)
      go_ret
      exact ⟨rfl, rfl⟩

def rootV (n : Int) : Int := if soundB n then n - 1 else -1
set_option maxRecDepth 100000 in
set_option maxHeartbeats 1000000 in
theorem root_any (n : Int) (h1 : -9223372036854775808 ≤ n) (h2 : n < 9223372036854775808) (w : World) :
    Calls Tryd.prog 22 #[.int .i64 n] w fun e w' => e = .returned (.int .i64 (rootV n)) ∧ w = w' := by
  have Hc := Lib.hid (sound_any n w)
  cases hs : soundB n with
  | false =>
    have e : rootV n = -1 := by simp [rootV, hs]
    rw [e]
    rw [hs] at Hc
    clear hs e
    go_enter Tryd.func22, Tryd.ntmps22
    go_wp2_with (go_at_call 32; refine Hc.out.mono ?_; rintro e w' ⟨rfl, rfl⟩)
    go_ret
    exact ⟨rfl, rfl⟩
  | true =>
    have b : 1 ≤ n ∧ n ≤ 32 := by simp [soundB] at hs; omega
    obtain ⟨b1, b2⟩ := b
    have e : rootV n = n - 1 := by simp [rootV, hs]
    rw [e]
    rw [hs] at Hc
    clear hs e
    go_enter Tryd.func22, Tryd.ntmps22
    go_wp2_with (go_at_call 32; refine Hc.out.mono ?_; rintro e w' ⟨rfl, rfl⟩)
    go_ret
    exact ⟨rfl, rfl⟩
theorem children_deep (x : Int) (h : ¬ lvl x < 1) (hx : x < 9223372036854775808) : ∃ k : Nat, k ≤ 62 ∧ lvl x = ((k + 1 : Nat) : Int) ∧ half x = ((2 ^ k : Nat) : Int) ∧ ((2 ^ k : Nat) : Int) ≤ x ∧ 2 ^ k ≤ 4611686018427387904 := by
  have h0 : ¬ x < 0 := by
    intro h0; apply h; unfold lvl; rw [if_pos h0]; decide
  have e : lvl x = (ones 64 x.toNat : Int) := by unfold lvl; rw [if_neg h0]
  have := ones_le 64 x.toNat
  rw [e] at h
  have hp := ones_pow 64 x.toNat
  obtain ⟨k, hk⟩ : ∃ k, ones 64 x.toNat = k + 1 := ⟨ones 64 x.toNat - 1, by omega⟩
  have hk62 : k ≤ 62 := by
    apply Decidable.byContradiction
    intro hn
    have : 2 ^ 64 ≤ 2 ^ ones 64 x.toNat := Nat.pow_le_pow_right (by decide) (by omega)
    omega
  have hmax : (2 : Nat) ^ k ≤ 2 ^ 62 := Nat.pow_le_pow_right (by decide) hk62
  rw [hk, Nat.pow_succ] at hp
  exact ⟨k, hk62, by rw [e, hk], by unfold half; rw [hk]; rfl, by omega, by omega⟩
theorem pow_cast (k : Nat) : (2 : Int) ^ k = ((2 ^ k : Nat) : Int) := by simp
set_option maxRecDepth 100000 in
set_option maxHeartbeats 1000000 in
theorem children_any (x : Int) (hx : x < 9223372036854775808) (w : World) (hT : Tab w) :
    Calls Tryd.prog 11 #[.int .i64 x] w fun e w' => e = .returned (.tuple #[.int .i64 (childL x), .int .i64 (childR x)]) ∧ w = w' := by
  have Hc := Lib.hid (level_any x hx w hT)
  by_cases h : lvl x < 1
  · have e1 : childL x = -1 := if_pos h
    have e2 : childR x = -1 := if_pos h
    have h' : decide (lvl x < 1) = true := by simpa using h
    rw [e1, e2]
    clear e1 e2 h
    generalize lvl x = l at *
    go_enter Tryd.func11, Tryd.ntmps11
    go_wp2_with (go_at_call 13; refine Hc.out.mono ?_; rintro e w' ⟨rfl, rfl⟩)
    go_ret2
    exact ⟨rfl, rfl⟩
  · obtain ⟨k, hk, e, hh, h0, hm⟩ := children_deep x h hx
    have e1 : childL x = x - half x := if_neg h
    have e2 : childR x = IntKind.i64.wrap (x + half x) := if_neg h
    have hc := pow_cast k
    rw [hh] at e1 e2
    rw [e1, e2]
    rw [e] at Hc
    clear e1 e2 h e hh hT
    generalize 2 ^ k = p at *
    have Hp := Lib.hid hc
    have f1 : wrap64 (x - wrap64 (p : Int)) = x - p := by rw [IntWalk.wrap64_in (p : Int) (by omega), IntWalk.wrap64_in (x - p) (by omega)]
    have f2 : wrap64 (x + wrap64 (p : Int)) = IntKind.i64.wrap (x + p) := by rw [IntWalk.wrap64_in (p : Int) (by omega), IntWalk.i64_left]
    have F1 := Lib.hid f1
    have F2 := Lib.hid f2
    clear hc f1 f2
    go_enter Tryd.func11, Tryd.ntmps11
    go_wp2_with (go_at_call 13; refine Hc.out.mono ?_; rintro e w' ⟨rfl, rfl⟩)
    go_ret2
    exact ⟨by rw [← F1.out, ← F2.out, ← Hp.out]; rfl, rfl⟩

set_option maxRecDepth 100000 in
set_option maxHeartbeats 1000000 in
theorem refChildren_any (x : Int) (hx : x < 9223372036854775808) (w : World) :
    Calls Tryd.prog 12 #[.int .i64 x] w fun e w' => e = .returned (.tuple #[.int .i64 (childL x), .int .i64 (childR x)]) ∧ w = w' := by
  have Hc := Lib.hid (refLevel_any x hx w)
  by_cases h : lvl x < 1
  · have e1 : childL x = -1 := if_pos h
    have e2 : childR x = -1 := if_pos h
    have h' : decide (lvl x < 1) = true := by simpa using h
    rw [e1, e2]
    clear e1 e2 h
    generalize lvl x = l at *
    go_enter Tryd.func12, Tryd.ntmps12
    go_wp2_with (go_at_call 14; refine Hc.out.mono ?_; rintro e w' ⟨rfl, rfl⟩)
    go_ret2
    exact ⟨rfl, rfl⟩
  · obtain ⟨k, hk, e, hh, h0, hm⟩ := children_deep x h hx
    have e1 : childL x = x - half x := if_neg h
    have e2 : childR x = IntKind.i64.wrap (x + half x) := if_neg h
    rw [hh] at e1 e2
    rw [e1, e2]
    rw [e] at Hc
    clear e1 e2 h e hh
    obtain ⟨p, hp⟩ : ∃ p, p = 2 ^ k := ⟨_, rfl⟩
    rw [← hp] at h0 hm ⊢
    have Hp := Lib.hid hp
    have f2 : wrap64 (x + (p : Int)) = IntKind.i64.wrap (x + p) := by rw [IntWalk.i64_left]
    have F2 := Lib.hid f2
    clear hp f2
    go_enter Tryd.func12, Tryd.ntmps12
    go_wp2_with (go_at_call 14; refine Hc.out.mono ?_; rintro e w' ⟨rfl, rfl⟩)
    go_loop [5, 6] (fun q i => ∃ j q' : Nat, j ≤ k ∧ q' = 2 ^ j ∧ q' ≤ p ∧ i = .int .i64 ((j + 1 : Nat) : Int) ∧ q = .int .i64 q') (fun _ i => k + 1 - (intOf i).toNat)
    case atStart => exact ⟨0, 1, by omega, rfl, by rw [Hp.out]; exact Nat.one_le_two_pow, rfl, rfl⟩
    case round =>
      obtain ⟨j, q, hj, hq, hqp, rfl, rfl⟩ := hrel
      have Hq := Lib.hid hq
      clear hq
      by_cases hlt : j < k
      · have hq2 : 2 * q ≤ p := by
          rw [Hp.out, Hq.out]
          have : 2 ^ (j + 1) ≤ 2 ^ k := Nat.pow_le_pow_right (by decide) (by omega)
          rw [Nat.pow_succ] at this
          omega
        go_wp2
        go_round
        case rel => exact ⟨j + 1, 2 * q, by omega, by rw [Hq.out, Nat.pow_succ, Nat.mul_comm], hq2, by go_num, by go_num⟩
        case measure => simp [intOf]; omega
      · obtain rfl : j = k := by omega
        obtain rfl : q = p := by rw [Hp.out, Hq.out]
        go_wp2
        go_ret2
        exact ⟨by rw [← F2.out]; rfl, rfl⟩
end Go.Proofs.YtlkgklplcbmimaaDoor
