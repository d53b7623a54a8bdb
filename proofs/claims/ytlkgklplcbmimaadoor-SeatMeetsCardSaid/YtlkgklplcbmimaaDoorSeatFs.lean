/- CONTRACTS: seat.Leaves and the document's; the chapter's example. -/
import Derived.Test.YtlkgklplcbmimaaDoorSeatFr
namespace Go.Proofs.YtlkgklplcbmimaaDoor
open Go.RowKit
set_option linter.unusedVariables false

theorem leaves_facts : ∀ m : Nat, m < 64 → 1 ≤ m → (if (bits .and .i64 (m : Int) ((m : Int) + 1) != 0) = true then (0 : Int) else (m : Int) / 2 + 1) = leavesV (m : Int) := by decide +kernel
set_option maxRecDepth 100000 in
set_option maxHeartbeats 1000000 in
theorem leaves_any (x : Int) (w : World) :
    Calls Tryd.prog 23 #[.int .i64 x] w fun e w' => e = .returned (.int .i64 (leavesV x)) ∧ w = w' := by
  by_cases h1 : x < 1
  · have e : leavesV x = 0 := by unfold leavesV; repeat' (first | rw [if_neg (by omega)])
    have h1' : decide (x < 1) = true := by simpa using h1
    rw [e]
    clear e
    go_enter Tryd.func23, Tryd.ntmps23
    go_wp2
    go_ret
    exact ⟨rfl, rfl⟩
  have h1' : decide (x < 1) = false := by simpa using h1
  by_cases h2 : 64 ≤ x
  · have e : leavesV x = 0 := by unfold leavesV; repeat' (first | rw [if_neg (by omega)])
    have h2' : decide (64 ≤ x) = true := by simpa using h2
    rw [e]
    clear e
    go_enter Tryd.func23, Tryd.ntmps23
    go_wp2
    go_ret
    exact ⟨rfl, rfl⟩
  have h2' : decide (64 ≤ x) = false := by simpa using h2
  have b1 : 1 ≤ x := by omega
  have b2 : x ≤ 63 := by omega
  have hf := leaves_facts x.toNat (by omega) (by omega)
  rw [show ((x.toNat : Nat) : Int) = x by omega] at hf
  cases hb : (bits .and .i64 x (x + 1) != 0) with
  | true =>
    rw [hb, if_pos rfl] at hf
    rw [← hf]
    clear hf h1 h2
    go_enter Tryd.func23, Tryd.ntmps23
    go_wp2
    go_ret
    exact ⟨rfl, rfl⟩
  | false =>
    rw [hb, if_neg (by decide)] at hf
    rw [← hf]
    clear hf h1 h2
    go_enter Tryd.func23, Tryd.ntmps23
    go_wp2
    go_ret
    exact ⟨rfl, rfl⟩

set_option maxRecDepth 100000 in
set_option maxHeartbeats 1000000 in
theorem refLeaves_any (x : Int) (w : World) :
    Calls Tryd.prog 24 #[.int .i64 x] w fun e w' => e = .returned (.int .i64 (leavesV x)) ∧ w = w' := by
  go_enter Tryd.func24, Tryd.ntmps24
  go_wp2
  go_loop [3] (fun v => ∃ m : Nat, v = .int .i64 m ∧ (m = 1 ∨ m = 2 ∨ m = 4 ∨ m = 8 ∨ m = 16 ∨ m = 32 ∨ m = 64) ∧ (1 < m → x ≠ 1) ∧ (2 < m → x ≠ 3) ∧ (4 < m → x ≠ 7) ∧ (8 < m → x ≠ 15) ∧ (16 < m → x ≠ 31) ∧ (32 < m → x ≠ 63)) (fun v => 64 - (intOf v).toNat)
  case atStart => exact ⟨1, rfl, .inl rfl, by omega, by omega, by omega, by omega, by omega, by omega⟩
  case round =>
    obtain ⟨m, rfl, hm, hn⟩ := hrel
    by_cases hx : x = 2 * (m : Int) - 1
    · have hx' : (x == 2 * (m : Int) - 1) = true := by simpa using hx
      by_cases h64 : m = 64
      · subst h64
        have e : leavesV x = 0 := by subst hx; decide
        have E := Lib.hid e
        clear hn hm hx hx' e
        go_wp2
        go_ret
        exact ⟨by rw [E.out]; rfl, rfl⟩
      · have e : leavesV x = m := by
          subst hx
          rcases hm with rfl | rfl | rfl | rfl | rfl | rfl | rfl <;> first | decide | omega
        have hle : decide ((m : Int) ≤ 32) = true := by simp; omega
        have hm32 : m ≤ 32 := by omega
        have E := Lib.hid e
        clear hn hm hx e h64
        go_wp2
        go_ret
        exact ⟨by rw [E.out]; rfl, rfl⟩
    · have hx' : (x == 2 * (m : Int) - 1) = false := by simpa using hx
      by_cases h64 : m = 64
      · subst h64
        have e : leavesV x = 0 := by unfold leavesV; repeat' (first | rw [if_neg (by omega)])
        have E := Lib.hid e
        clear hn hm hx hx' e
        go_wp2
        go_ret
        exact ⟨by rw [E.out]; rfl, rfl⟩
      · have hle : decide ((m : Int) ≤ 32) = true := by simp; omega
        have hm32 : m ≤ 32 := by omega
        have hm1 : 1 ≤ m := by omega
        have HN := Lib.hid hn
        have HM := Lib.hid hm
        have HX := Lib.hid hx
        clear hn hm hx h64
        go_wp2
        go_round
        case rel => exact ⟨2 * m, by go_num, by have := HM.out; omega, by have := HM.out; have := HN.out; have := HX.out; omega⟩
        case measure => simp [intOf]; omega

theorem ex_vals : childL 3 = 1 ∧ childR 3 = 5 ∧ rootV 4 = 3 ∧ parV 4 4 = 5 := by decide +kernel
set_option maxRecDepth 100000 in
set_option maxHeartbeats 1000000 in
theorem alive13_any (w : World) (hT : Tab w) :
    Calls Tryd.prog 8 #[] w fun e w' => e = .returned (.bool true) ∧ Below w.heap.size w w' := by
  have hc := children_any 3 (by omega) w hT
  have hr := root_any 4 (by omega) (by omega) w
  have hp := parent_any 4 4 (by omega) (by omega) (by omega) w hT
  obtain ⟨e1, e2, e3, e4⟩ := ex_vals
  rw [e1, e2] at hc
  rw [e3] at hr
  rw [e4] at hp
  have Hc := Lib.hid hc
  have Hr := Lib.hid hr
  have Hp := Lib.hid hp
  clear hc hr hp e1 e2 e3 e4
  go_enter Tryd.func8, Tryd.ntmps8
  go_wp2_with (first
    | (go_at_call 11; refine Hc.out.mono ?_; rintro e w' ⟨rfl, rfl⟩)
    | (go_at_call 22; refine Hr.out.mono ?_; rintro e w' ⟨rfl, rfl⟩)
    | (go_at_call 15; refine Hp.out.mono ?_; rintro e w' ⟨rfl, hb1⟩))
  go_ret
  exact ⟨rfl, hb1⟩
end Go.Proofs.YtlkgklplcbmimaaDoor
