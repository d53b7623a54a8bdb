/- CONTRACTS: seat.Parent and the document's. -/
import Derived.Test.YtmncihhofppkdaaDoorSeatT
import Derived.Test.YtmncihhofppkdaaDoorBase
import Derived.StillTailTactics
import Derived.Deep.QuietTactic
import Derived.BigQuiet
import Derived.Deep.RegionLaw
import Derived.Deep.RegionWith
namespace Go.Proofs.YtmncihhofppkdaaDoor
open Go.RowKit
set_option linter.unusedVariables false

theorem par_fact : ∀ a : Nat, a ≤ 62 → bits .andNot .i64 (bits .or .i64 (a : Int) (wrap64 (2 ^ ones 64 a))) (wrap64 (2 ^ (ones 64 a + 1))) = (parN a : Int) := by decide +kernel
set_option maxRecDepth 100000 in
set_option maxHeartbeats 1000000 in
theorem refParent_any (x n : Int) (w : World) :
    Calls Tryd.prog 42 #[.int .i64 x, .int .i64 n] w fun e w' => e = .returned (.int .i64 (parV x n)) ∧ w = w' := by
  have Hn := Lib.hid (refNode_any x n w)
  cases hs : nodeB x n with
  | false =>
    have e : parV x n = -1 := by simp [parV, hs]
    rw [e]
    rw [hs] at Hn
    clear e hs
    go_enter Tryd.func42, Tryd.ntmps42
    go_wp2_with (go_at_call 52; refine Hn.out.mono ?_; rintro e w' ⟨rfl, rfl⟩)
    go_ret
    exact ⟨rfl, rfl⟩
  | true =>
    rw [hs] at Hn
    obtain ⟨a, b, rfl, rfl, hb, ha⟩ := nodes x n hs
    have hb32 : 1 ≤ b ∧ b ≤ 32 := by simp at hb; omega
    obtain ⟨b1, b2⟩ := hb32
    have hpar : ∀ p : Nat, p < 2 * b - 1 → (childL (p : Int) = (a : Int) ∨ childR (p : Int) = (a : Int) ↔ (p : Int) = parV (a : Int) (b : Int)) := by
      intro p hp
      have := law_par b hb a ha p hp
      rw [Bool.eq_iff_iff] at this
      simpa using this
    have hrange := law_parRange b hb a ha
    simp only [Bool.and_eq_true, decide_eq_true_eq] at hrange
    obtain ⟨⟨⟨⟨hr1, hr2⟩, -⟩, -⟩, -⟩ := hrange
    generalize parV (a : Int) (b : Int) = P at *
    have Hpar := Lib.hid hpar
    clear hs hb hpar
    go_enter Tryd.func42, Tryd.ntmps42
    go_wp2_with (go_at_call 52; refine Hn.out.mono ?_; rintro e w' ⟨rfl, rfl⟩)
    go_loop [5] (fun p => ∃ q : Nat, q ≤ 2 * b - 1 ∧ p = .int .i64 q ∧ ∀ r : Nat, r < q → (r : Int) ≠ P) (fun p => 2 * b - 1 - (intOf p).toNat)
    case atStart => exact ⟨0, by omega, rfl, fun r hr => by omega⟩
    case round =>
      obtain ⟨q, hq, rfl, hnot⟩ := hrel
      have Hnot := Lib.hid hnot
      clear hnot
      by_cases hlt : q < 2 * b - 1
      · have hiff := Hpar.out q hlt
        have Hc := Lib.hid (refChildren_any (q : Int) (by omega) w)
        have hle : decide ((q : Int) ≤ 2 * (b : Int) - 2) = true := by simp; omega
        generalize childL (q : Int) = l at *
        generalize childR (q : Int) = r at *
        by_cases hl : l = (a : Int)
        · have hP : (q : Int) = P := hiff.1 (.inl hl)
          have hl' : (l == (a : Int)) = true := by simpa using hl
          have HP := Lib.hid hP
          clear hiff hl hP hr1 hr2
          go_wp2_with (go_at_call 30; refine Hc.out.mono ?_; rintro e w' ⟨rfl, rfl⟩)
          go_ret
          exact ⟨by rw [← HP.out]; rfl, rfl⟩
        · have hl' : (l == (a : Int)) = false := by simpa using hl
          by_cases hr : r = (a : Int)
          · have hP : (q : Int) = P := hiff.1 (.inr hr)
            have hr' : (r == (a : Int)) = true := by simpa using hr
            have HP := Lib.hid hP
            clear hiff hl hr hP hr1 hr2
            go_wp2_with (go_at_call 30; refine Hc.out.mono ?_; rintro e w' ⟨rfl, rfl⟩)
            go_ret
            exact ⟨by rw [← HP.out]; rfl, rfl⟩
          · have hr' : (r == (a : Int)) = false := by simpa using hr
            have hP : (q : Int) ≠ P := fun e => by rcases hiff.2 e with h | h; exact hl h; exact hr h
            have HP := Lib.hid hP
            clear hiff hl hr hP
            go_wp2_with (go_at_call 30; refine Hc.out.mono ?_; rintro e w' ⟨rfl, rfl⟩)
            go_round
            case rel => exact ⟨q + 1, by omega, by go_num, fun r hr => by rcases Nat.lt_succ_iff_lt_or_eq.1 hr with h | h; exact Hnot.out r h; rw [h]; exact HP.out⟩
            case measure => simp [intOf]; omega
      · have hP : P = -1 := by
          apply Decidable.byContradiction
          intro hne
          exact Hnot.out P.toNat (by omega) (by omega)
        have HP := Lib.hid hP
        have hle : decide ((q : Int) ≤ 2 * (b : Int) - 2) = false := by simp; omega
        clear hP
        go_wp2
        go_ret
        exact ⟨by rw [HP.out]; rfl, rfl⟩
end Go.Proofs.YtmncihhofppkdaaDoor
