/- CONTRACTS: the document's Above, Below; Leaves of both; the chapter's example. -/
import Derived.Test.YtlkgklplcbmimaaDoorSeatFq
namespace Go.Proofs.YtlkgklplcbmimaaDoor
open Go.RowKit
set_option linter.unusedVariables false

theorem above_none (x n : Int) : aboveV x (-1) n = false := by
  unfold aboveV nodeB; simp
def aboveM (v : Value) : Nat := if intOf v < 0 then 0 else (7 - lvl (intOf v)).toNat
theorem aboveM_int (x : Int) : aboveM (.int .i64 x) = if x < 0 then 0 else (7 - lvl x).toNat := rfl
set_option maxRecDepth 100000 in
set_option maxHeartbeats 1000000 in
theorem above_any (x y n : Int) (w : World) :
    Calls Tryd.prog 31 #[.int .i64 x, .int .i64 y, .int .i64 n] w fun e w' => e = .returned (.bool (aboveV x y n)) ∧ w = w' := by
  have Hx := Lib.hid (refNode_any x n w)
  have Hy := Lib.hid (refNode_any y n w)
  have tok1 : True := trivial
  cases hs : nodeB x n with
  | false =>
    have e : aboveV x y n = false := by simp [aboveV, hs]
    rw [e]
    rw [hs] at Hx
    clear e hs
    go_enter Tryd.func31, Tryd.ntmps31
    go_wp2_with (go_at_call 30; refine Hx.out.mono ?_; rintro e w' ⟨rfl, rfl⟩)
    go_ret
    exact ⟨rfl, rfl⟩
  | true =>
  rw [hs] at Hx
  cases hy : nodeB y n with
  | false =>
    have e : aboveV x y n = false := by simp [aboveV, hy]
    rw [e]
    rw [hy] at Hy
    clear e hs hy
    go_enter Tryd.func31, Tryd.ntmps31
    go_wp2_with (first
      | (go_at_call 30; have _t := tok1; clear tok1; refine Hx.out.mono ?_; rintro e w' ⟨rfl, rfl⟩)
      | (go_at_call 30; refine Hy.out.mono ?_; rintro e w' ⟨rfl, rfl⟩))
    go_ret
    exact ⟨rfl, rfl⟩
  | true =>
    rw [hy] at Hy
    obtain ⟨a, b, rfl, rfl, hb, ha⟩ := nodes x n hs
    obtain ⟨c, b', rfl, hbb, -, hc⟩ := nodes y _ hy
    obtain rfl : b = b' := by omega
    have hb32 : 1 ≤ b ∧ b ≤ 32 := by simp at hb; omega
    obtain ⟨b1, b2⟩ := hb32
    have hself := law_self b hb a ha
    have habove : ∀ q : Nat, q < 2 * b - 1 → q ≠ a → aboveV (a : Int) (q : Int) (b : Int) = aboveV (a : Int) (parV (q : Int) (b : Int)) (b : Int) := by
      intro q hq hne
      have := law_above b hb a ha q hq
      simpa [hne] using this
    have hrange : ∀ q : Nat, q < 2 * b - 1 → -1 ≤ parV (q : Int) (b : Int) ∧ parV (q : Int) (b : Int) ≤ 2 * (b : Int) - 2 ∧ 0 ≤ lvl (q : Int) ∧ lvl (q : Int) ≤ 5 ∧ (parV (q : Int) (b : Int) < 0 ∨ lvl (parV (q : Int) (b : Int)) = lvl (q : Int) + 1) := by
      intro q hq
      have := law_parRange b hb q hq
      simp only [Bool.and_eq_true, Bool.or_eq_true, decide_eq_true_eq] at this
      obtain ⟨⟨⟨⟨r1, r2⟩, r3⟩, r4⟩, r5⟩ := this
      exact ⟨r1, r2, r3, r4, r5⟩
    obtain ⟨V, hV⟩ : ∃ V, V = aboveV (a : Int) (c : Int) (b : Int) := ⟨_, rfl⟩
    rw [← hV]
    have HV := Lib.hid hV
    have Hself := Lib.hid hself
    have Hab := Lib.hid habove
    have Hra := Lib.hid hrange
    clear hV hself habove hrange hb hs hy hbb
    go_enter Tryd.func31, Tryd.ntmps31
    go_wp2_with (first
      | (go_at_call 30; have _t := tok1; clear tok1; refine Hx.out.mono ?_; rintro e w' ⟨rfl, rfl⟩)
      | (go_at_call 30; refine Hy.out.mono ?_; rintro e w' ⟨rfl, rfl⟩))
    go_loop [7] (fun p => (p = .int .i64 (-1) ∧ V = false) ∨ ∃ q : Nat, p = .int .i64 q ∧ q < 2 * b - 1 ∧ aboveV (a : Int) (q : Int) (b : Int) = V) (fun p => aboveM p)
    case atStart => exact .inr ⟨c, rfl, hc, HV.out.symm⟩
    case round =>
      rcases hrel with ⟨rfl, hv⟩ | ⟨q, rfl, hq, hv⟩
      · subst hv
        go_wp2
        go_ret
        exact ⟨rfl, rfl⟩
      · by_cases hqa : q = a
        · subst hqa
          have hv1 : V = true := by rw [← hv, Hself.out]
          clear hv
          subst hv1
          go_wp2
          go_ret
          exact ⟨rfl, rfl⟩
        · have hqa' : ((q : Int) == (a : Int)) = false := by simp; omega
          have Hp := Lib.hid (refParent_any (q : Int) (b : Int) w)
          have hnx := Hab.out q hq hqa
          have hr := Hra.out q hq
          rw [hv] at hnx
          have Hnx := Lib.hid hnx
          have Hr := Lib.hid hr
          have hq0 : decide (0 ≤ (q : Int)) = true := by simp
          clear hnx hr hv
          generalize parV (q : Int) (b : Int) = P at *
          go_wp2_with (go_at_call 16; refine Hp.out.mono ?_; rintro e w' ⟨rfl, rfl⟩)
          go_round
          case rel =>
            obtain ⟨r1, r2, -, -, -⟩ := Hr.out
            by_cases hP : P < 0
            · have : P = -1 := by omega
              subst this
              exact .inl ⟨by go_num, by rw [Hnx.out, above_none]⟩
            · refine .inr ⟨P.toNat, ?_, by omega, ?_⟩
              · have : ((P.toNat : Nat) : Int) = P := by omega
                rw [this]
              · have : ((P.toNat : Nat) : Int) = P := by omega
                rw [this, Hnx.out]
          case measure =>
            obtain ⟨r1, r2, r3, r4, r5⟩ := Hr.out
            simp only [aboveM_int]
            rw [if_neg (show ¬ (q : Int) < 0 by omega)]
            split <;> omega

set_option maxRecDepth 100000 in
set_option maxHeartbeats 1000000 in
theorem refBelow_any (x n : Int) (h2 : n < 9223372036854775808) (w : World) :
    Calls Tryd.prog 20 #[.int .i64 x, .int .i64 n] w fun e w' => e = .returned (.tuple #[.int .i64 (lo x n), .int .i64 (hi x n)]) ∧ w = w' := by
  have Hn := Lib.hid (refNode_any x n w)
  cases hs : nodeB x n with
  | false =>
    have e1 : lo x n = -1 := by simp [lo, hs]
    have e2 : hi x n = -1 := by simp [hi, hs]
    rw [e1, e2]
    rw [hs] at Hn
    clear e1 e2 hs
    go_enter Tryd.func20, Tryd.ntmps20
    go_wp2
    go_loop [6, 7, 8] (fun f l i => f = .int .i64 (-1) ∧ l = .int .i64 (-1) ∧ i = .int .i64 0) (fun _ _ _ => 0)
    case atStart => exact ⟨rfl, rfl, rfl⟩
    case round =>
      obtain ⟨rfl, rfl, rfl⟩ := hrel
      by_cases h0 : 0 < n
      · have h0' : decide (0 < n) = true := by simpa using h0
        go_wp2_with (go_at_call 30; refine Hn.out.mono ?_; rintro e w' ⟨rfl, rfl⟩)
        go_ret2
        exact ⟨rfl, rfl⟩
      · have h0' : decide (0 < n) = false := by simpa using h0
        go_wp2
        go_ret2
        exact ⟨rfl, rfl⟩
  | true =>
    rw [hs] at Hn
    obtain ⟨a, b, rfl, rfl, hb, ha⟩ := nodes x n hs
    have hb32 : 1 ≤ b ∧ b ≤ 32 := by simp at hb; omega
    obtain ⟨b1, b2⟩ := hb32
    have hleaf : ∀ i : Nat, i < b → aboveV (a : Int) (2 * (i : Int)) (b : Int) = (decide (lo (a : Int) (b : Int) ≤ (i : Int)) && decide ((i : Int) ≤ hi (a : Int) (b : Int))) := fun i hi => law_leaf b hb a ha i hi
    have hends := law_ends b hb a ha
    simp only [Bool.and_eq_true, decide_eq_true_eq] at hends
    obtain ⟨⟨e0, e1⟩, e2⟩ := hends
    obtain ⟨l, hl⟩ : ∃ l : Nat, lo (a : Int) (b : Int) = l := ⟨(lo (a : Int) (b : Int)).toNat, by omega⟩
    obtain ⟨h, hh⟩ : ∃ h : Nat, hi (a : Int) (b : Int) = h := ⟨(hi (a : Int) (b : Int)).toNat, by omega⟩
    rw [hl, hh] at e1
    rw [hh] at e2
    rw [hl, hh] at hleaf
    rw [hl, hh]
    have Hleaf := Lib.hid hleaf
    clear hl hh hleaf e0 hb hs
    go_enter Tryd.func20, Tryd.ntmps20
    go_wp2
    go_loop [6, 7, 8] (fun F L i => ∃ (k : Nat) (f g : Int), k ≤ b ∧ F = .int .i64 f ∧ L = .int .i64 g ∧ i = .int .i64 k ∧ ((k ≤ l ∧ f = -1 ∧ g = -1) ∨ (l < k ∧ f = l ∧ ((k ≤ h + 1 ∧ g = k - 1) ∨ (h + 1 ≤ k ∧ g = h))))) (fun _ _ i => b - (intOf i).toNat)
    case atStart => exact ⟨0, -1, -1, by omega, rfl, rfl, rfl, .inl ⟨by omega, rfl, rfl⟩⟩
    case round =>
      obtain ⟨k, f, g, hk, rfl, rfl, rfl, hc⟩ := hrel
      have Hc := Lib.hid hc
      by_cases hlt : k < b
      · have Ha := Lib.hid (above_any (a : Int) (2 * (k : Int)) (b : Int) w)
        rw [Hleaf.out k hlt] at Ha
        have hlt' : decide ((k : Int) < (b : Int)) = true := by simp; omega
        by_cases hin : l ≤ k ∧ k ≤ h
        · have hd : (decide ((l : Int) ≤ (k : Int)) && decide ((k : Int) ≤ (h : Int))) = true := by simp; omega
          rw [hd] at Ha
          by_cases hf : f < 0
          · have hf' : decide (f < 0) = true := by simpa using hf
            have hkl : k = l := by omega
            have Hin := Lib.hid hin
            have Hkl := Lib.hid hkl
            clear hc hd hin hf hkl
            go_wp2_with (first
              | (go_at_call 30; refine Hn.out.mono ?_; rintro e w' ⟨rfl, rfl⟩)
              | (go_at_call 31; refine Ha.out.mono ?_; rintro e w' ⟨rfl, rfl⟩))
            go_round
            case rel => exact ⟨k + 1, k, k, by omega, rfl, rfl, by go_num, by have := Hin.out; have := Hkl.out; omega⟩
            case measure => simp [intOf]; omega
          · have hf' : decide (f < 0) = false := by simpa using hf
            have Hin := Lib.hid hin
            have Hf := Lib.hid hf
            clear hc hd hin hf
            go_wp2_with (first
              | (go_at_call 30; refine Hn.out.mono ?_; rintro e w' ⟨rfl, rfl⟩)
              | (go_at_call 31; refine Ha.out.mono ?_; rintro e w' ⟨rfl, rfl⟩))
            go_round
            case rel => exact ⟨k + 1, f, k, by omega, rfl, rfl, by go_num, by have := Hin.out; have := Hc.out; have := Hf.out; omega⟩
            case measure => simp [intOf]; omega
        · have hd : (decide ((l : Int) ≤ (k : Int)) && decide ((k : Int) ≤ (h : Int))) = false := by simp; omega
          rw [hd] at Ha
          have Hin := Lib.hid hin
          clear hc hd hin
          go_wp2_with (first
            | (go_at_call 30; refine Hn.out.mono ?_; rintro e w' ⟨rfl, rfl⟩)
            | (go_at_call 31; refine Ha.out.mono ?_; rintro e w' ⟨rfl, rfl⟩))
          go_round
          case rel => exact ⟨k + 1, f, g, by omega, rfl, rfl, by go_num, by have := Hin.out; have := Hc.out; omega⟩
          case measure => simp [intOf]; omega
      · obtain rfl : k = b := by omega
        have hlt' : decide ((k : Int) < (k : Int)) = false := by simp
        have hfl : f = l := by omega
        have hgh : g = h := by omega
        subst hfl hgh
        clear hc
        go_wp2
        go_ret2
        exact ⟨rfl, rfl⟩
end Go.Proofs.YtlkgklplcbmimaaDoor
