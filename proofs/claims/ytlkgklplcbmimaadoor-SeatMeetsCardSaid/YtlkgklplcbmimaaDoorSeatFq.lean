/- CONTRACTS: seat.Sibling, Below, Leaves and the document's; Above; the chapter's example. -/
import Derived.Test.YtlkgklplcbmimaaDoorSeatFp
namespace Go.Proofs.YtlkgklplcbmimaaDoor
open Go.RowKit
set_option linter.unusedVariables false

theorem child_small : ∀ p : Nat, p ≤ 62 → (decide (-1 ≤ childL (p : Int)) && decide (childL (p : Int) ≤ 100) && decide (-1 ≤ childR (p : Int)) && decide (childR (p : Int) ≤ 100)) = true := by decide +kernel
theorem par_pos (x n : Int) (h : ¬ parV x n < 0) : ∃ a b p : Nat, x = a ∧ n = b ∧ parV x n = p ∧ b ∈ ([1, 2, 4, 8, 16, 32] : List Nat) ∧ a < 2 * b - 1 ∧ p < 2 * b - 1 ∧ b ≤ 32 ∧ 1 ≤ b := by
  cases hs : nodeB x n with
  | false => exact absurd (show parV x n < 0 by unfold parV; rw [if_pos (.inl hs)]; decide) h
  | true =>
    obtain ⟨a, b, rfl, rfl, hb, ha⟩ := nodes x n hs
    have hrange := law_parRange b hb a ha
    simp only [Bool.and_eq_true, decide_eq_true_eq] at hrange
    obtain ⟨⟨⟨⟨hr1, hr2⟩, -⟩, -⟩, -⟩ := hrange
    have hb32 : 1 ≤ b ∧ b ≤ 32 := by simp at hb; omega
    exact ⟨a, b, (parV (a : Int) (b : Int)).toNat, rfl, rfl, by omega, hb, ha, by omega, hb32.2, hb32.1⟩

set_option maxRecDepth 100000 in
set_option maxHeartbeats 1000000 in
theorem sibling_any (x n : Int) (hx : x < 9223372036854775808) (h1 : -9223372036854775808 ≤ n) (h2 : n < 9223372036854775808) (w : World) (hT : Tab w) :
    Calls Tryd.prog 17 #[.int .i64 x, .int .i64 n] w fun e w' => e = .returned (.int .i64 (sibV x n)) ∧ Below w.heap.size w w' := by
  have Hp := Lib.hid (parent_any x n hx h1 h2 w hT)
  by_cases h : parV x n < 0
  · have e : sibV x n = -1 := if_pos h
    have h' : decide (parV x n < 0) = true := by simpa using h
    rw [e]
    clear e h
    generalize parV x n = p at *
    go_enter Tryd.func17, Tryd.ntmps17
    go_wp2_with (go_at_call 15; refine Hp.out.mono ?_; rintro e w1 ⟨rfl, hb1⟩)
    go_ret
    exact ⟨rfl, hb1⟩
  · have e : sibV x n = childL (parV x n) + childR (parV x n) - x := if_neg h
    obtain ⟨a, b, p, rfl, rfl, hpv, hb, ha, hp, b2, b1⟩ := par_pos x n h
    have hs := child_small p (by omega)
    simp only [Bool.and_eq_true, decide_eq_true_eq] at hs
    obtain ⟨⟨⟨s1, s2⟩, s3⟩, s4⟩ := hs
    have hch : ∀ w1, Tab w1 → _ := fun w1 ht => children_any (p : Int) (by omega) w1 ht
    rw [hpv] at e Hp
    rw [e]
    have Hch := Lib.hid hch
    have HT := Lib.hid hT
    have ha62 : a ≤ 62 := by omega
    clear e h hpv hb hch hT ha hx h1 h2
    generalize childL (p : Int) = l at *
    generalize childR (p : Int) = r at *
    go_enter Tryd.func17, Tryd.ntmps17
    go_wp2_with (first
      | (go_at_call 15; refine Hp.out.mono ?_; rintro e w1 ⟨rfl, hb1⟩)
      | (go_at_call 11; refine (Hch.out _ (HT.out.below hb1)).mono ?_; rintro e w2 ⟨rfl, rfl⟩))
    go_ret
    exact ⟨rfl, hb1⟩
set_option maxRecDepth 100000 in
set_option maxHeartbeats 1000000 in
theorem refSibling_any (x n : Int) (w : World) :
    Calls Tryd.prog 18 #[.int .i64 x, .int .i64 n] w fun e w' => e = .returned (.int .i64 (sibV x n)) ∧ w = w' := by
  have Hp := Lib.hid (refParent_any x n w)
  by_cases h : parV x n < 0
  · have e : sibV x n = -1 := if_pos h
    have h' : decide (parV x n < 0) = true := by simpa using h
    rw [e]
    clear e h
    generalize parV x n = p at *
    go_enter Tryd.func18, Tryd.ntmps18
    go_wp2_with (go_at_call 16; refine Hp.out.mono ?_; rintro e w' ⟨rfl, rfl⟩)
    go_ret
    exact ⟨rfl, rfl⟩
  · have e : sibV x n = childL (parV x n) + childR (parV x n) - x := if_neg h
    obtain ⟨a, b, p, rfl, rfl, hpv, hb, ha, hp, b2, b1⟩ := par_pos x n h
    have hc := law_par b hb a ha p hp
    rw [Bool.eq_iff_iff] at hc
    simp only [Bool.or_eq_true, decide_eq_true_eq] at hc
    have hc2 := hc.2 hpv.symm
    have Hch := Lib.hid (refChildren_any (p : Int) (by omega) w)
    rw [hpv] at e Hp
    clear h hpv hb hc
    generalize childL (p : Int) = l at *
    generalize childR (p : Int) = r at *
    by_cases hl : l = (a : Int)
    · have e2 : sibV (a : Int) (b : Int) = r := by rw [e, hl]; omega
      have hl' : (l == (a : Int)) = true := by simpa using hl
      rw [e2]
      clear e e2 hl hc2
      go_enter Tryd.func18, Tryd.ntmps18
      go_wp2_with (first
        | (go_at_call 16; refine Hp.out.mono ?_; rintro e w' ⟨rfl, rfl⟩)
        | (go_at_call 12; refine Hch.out.mono ?_; rintro e w' ⟨rfl, rfl⟩))
      go_ret
      exact ⟨rfl, rfl⟩
    · have e2 : sibV (a : Int) (b : Int) = l := by rw [e]; omega
      have hl' : (l == (a : Int)) = false := by simpa using hl
      rw [e2]
      clear e e2 hl hc2
      go_enter Tryd.func18, Tryd.ntmps18
      go_wp2_with (first
        | (go_at_call 16; refine Hp.out.mono ?_; rintro e w' ⟨rfl, rfl⟩)
        | (go_at_call 12; refine Hch.out.mono ?_; rintro e w' ⟨rfl, rfl⟩))
      go_ret
      exact ⟨rfl, rfl⟩

theorem below_fact : ∀ a : Nat, a ≤ 62 → (decide (ones 64 a ≤ 5) && decide (2 ^ ones 64 a ≤ a + 1)) = true := by decide +kernel
set_option maxRecDepth 100000 in
set_option maxHeartbeats 1000000 in
theorem below_any (x n : Int) (hx : x < 9223372036854775808) (h1 : -9223372036854775808 ≤ n) (h2 : n < 9223372036854775808) (w : World) (hT : Tab w) :
    Calls Tryd.prog 19 #[.int .i64 x, .int .i64 n] w fun e w' => e = .returned (.tuple #[.int .i64 (lo x n), .int .i64 (hi x n)]) ∧ w = w' := by
  have Hn := Lib.hid (node_any x n h1 h2 w)
  cases hs : nodeB x n with
  | false =>
    have e1 : lo x n = -1 := by simp [lo, hs]
    have e2 : hi x n = -1 := by simp [hi, hs]
    rw [e1, e2]
    rw [hs] at Hn
    clear e1 e2 hs
    go_enter Tryd.func19, Tryd.ntmps19
    go_wp2_with (go_at_call 29; refine Hn.out.mono ?_; rintro e w' ⟨rfl, rfl⟩)
    go_ret2
    exact ⟨rfl, rfl⟩
  | true =>
    have e1 : lo x n = (x - reach x) / 2 := by simp [lo, hs]
    have e2 : hi x n = (x + reach x) / 2 := by simp [hi, hs]
    rw [e1, e2]
    rw [hs] at Hn
    obtain ⟨a, b, rfl, rfl, hb, ha⟩ := nodes x n hs
    have hb32 : 1 ≤ b ∧ b ≤ 32 := by simp at hb; omega
    obtain ⟨b1, b2⟩ := hb32
    have ha62 : a ≤ 62 := by omega
    have Hl := Lib.hid (level_any (a : Int) hx w hT)
    have el : lvl (a : Int) = (ones 64 a : Int) := by unfold lvl; rw [if_neg (by omega)]; simp
    have er : reach (a : Int) = ((2 ^ ones 64 a : Nat) : Int) - 1 := by unfold reach; simp
    rw [el] at Hl
    rw [er]
    have hf := below_fact a ha62
    simp only [Bool.and_eq_true, decide_eq_true_eq] at hf
    obtain ⟨hk, hpa⟩ := hf
    generalize ones 64 a = k at *
    have hc := pow_cast k
    have hp1 : 1 ≤ 2 ^ k := Nat.one_le_two_pow
    generalize 2 ^ k = p at *
    have hw : wrap64 (2 ^ k) = (p : Int) := by rw [hc, IntWalk.wrap64_in _ (by omega)]
    clear e1 e2 hs hb el er hc hT
    go_enter Tryd.func19, Tryd.ntmps19
    go_wp2_with (first
      | (go_at_call 29; refine Hn.out.mono ?_; rintro e w' ⟨rfl, rfl⟩)
      | (go_at_call 13; refine Hl.out.mono ?_; rintro e w' ⟨rfl, rfl⟩)
      | simp only [hw])
    go_ret2
    exact ⟨rfl, rfl⟩
end Go.Proofs.YtlkgklplcbmimaaDoor
