/- the walk of SeatTree. -/
import Derived.Test.YtlkgklplcbmimaaDoorSeatFs
namespace Go.Proofs.YtlkgklplcbmimaaDoor
open Go.RowKit
set_option linter.unusedVariables false

theorem law_leafs : ∀ n ∈ ([1, 2, 4, 8, 16, 32] : List Nat), ∀ x : Nat, x < 2 * n - 1 → (x % 2 == 1 || (decide (childL (x : Int) = -1) && decide (lo (x : Int) (n : Int) = (x : Int) / 2) && decide (hi (x : Int) (n : Int) = (x : Int) / 2))) = true := by decide +kernel
theorem law_inner : ∀ n ∈ ([1, 2, 4, 8, 16, 32] : List Nat), ∀ x : Nat, x < 2 * n - 1 → (x % 2 == 0 || (decide (0 ≤ childL (x : Int)) && decide (0 ≤ childR (x : Int)) && decide (childL (x : Int) ≤ 2 * (n : Int) - 2) && decide (childR (x : Int) ≤ 2 * (n : Int) - 2)
    && decide (parV (childL (x : Int)) (n : Int) = x) && decide (parV (childR (x : Int)) (n : Int) = x) && decide (sibV (childL (x : Int)) (n : Int) = childR (x : Int)) && decide (sibV (childR (x : Int)) (n : Int) = childL (x : Int))
    && decide (hi (childL (x : Int)) (n : Int) + 1 = lo (childR (x : Int)) (n : Int)) && decide (lo (childL (x : Int)) (n : Int) = lo (x : Int) (n : Int)) && decide (hi (childR (x : Int)) (n : Int) = hi (x : Int) (n : Int))
    && decide (lvl (childL (x : Int)) + 1 = lvl (x : Int)) && decide (0 ≤ hi (childL (x : Int)) (n : Int)) && decide (hi (childL (x : Int)) (n : Int) ≤ 100) && decide (0 ≤ lvl (childL (x : Int))) && decide (lvl (childL (x : Int)) ≤ 100))) = true := by decide +kernel
theorem law_root : ∀ n ∈ ([1, 2, 4, 8, 16, 32] : List Nat), (decide (rootV (n : Int) = (n : Int) - 1) && decide (lo ((n : Int) - 1) (n : Int) = 0) && decide (hi ((n : Int) - 1) (n : Int) = (n : Int) - 1) && decide (leavesV (2 * (n : Int) - 1) = (n : Int))) = true := by decide +kernel

theorem pow_size (j : Nat) (h : j < 6) : wrap64 (2 ^ j) = ((2 ^ j : Nat) : Int) ∧ 2 ^ j ∈ ([1, 2, 4, 8, 16, 32] : List Nat) := by
  have : ∀ j, j < 6 → wrap64 (2 ^ j) = ((2 ^ j : Nat) : Int) ∧ 2 ^ j ∈ ([1, 2, 4, 8, 16, 32] : List Nat) := by decide +kernel
  exact this j h

set_option maxRecDepth 100000 in
set_option maxHeartbeats 2000000 in
theorem seatTree_walk (k : Int) (k1 : -9223372036854775808 ≤ k) (k2 : k < 9223372036854775808) (w : World) (hT : Tab w) :
    Calls Tryd.prog 5 #[.int .i64 k] w fun e w' => e = .returned (.bool true) ∧ Below w.heap.size w w' := by
  obtain ⟨j, hj, hj6⟩ : ∃ j : Nat, (IntKind.u64.wrap k).tmod 6 = (j : Int) ∧ j < 6 := ⟨(IntKind.u64.wrap k % 6).toNat, by rw [Int.tmod_eq_emod_of_nonneg (by rw [IntKind.wrap_u64]; omega), IntKind.wrap_u64]; omega, by rw [IntKind.wrap_u64]; omega⟩
  obtain ⟨hw, hb⟩ := pow_size j hj6
  obtain ⟨b, hbj⟩ : ∃ b, b = 2 ^ j := ⟨_, rfl⟩
  rw [← hbj] at hw hb
  have hb32 : 1 ≤ b ∧ b ≤ 32 := by simp at hb; omega
  obtain ⟨b1, b2⟩ := hb32
  have hroot := law_root b hb
  simp only [Bool.and_eq_true, decide_eq_true_eq] at hroot
  obtain ⟨⟨⟨ro, rl⟩, rh⟩, lv⟩ := hroot
  have Hle := Lib.hid (law_leafs b hb)
  have Hin := Lib.hid (law_inner b hb)
  have cR := fun w => root_any (b : Int) (by omega) (by omega) w
  rw [ro] at cR
  have cB := fun w ht => below_any ((b : Int) - 1) (b : Int) (by omega) (by omega) (by omega) w ht
  rw [rl, rh] at cB
  have cL := fun w => leaves_any (2 * (b : Int) - 1) w
  rw [lv] at cL
  have CR := Lib.hid cR
  have CB := Lib.hid cB
  have CL := Lib.hid cL
  have HT := Lib.hid hT
  clear hbj hb ro rl rh lv cR cB cL hT k1 k2
  go_enter Tryd.func5, Tryd.ntmps5
  go_wp2_with fail
  refine (alive13_any _ HT.out).mono ?_
  rintro e w1 ⟨rfl, hb1⟩
  have T1 := Lib.hid (HT.out.below hb1)
  go_wp2_with fail
  refine (CL.out _).mono ?_
  rintro e w' ⟨rfl, rfl⟩
  go_wp2_with fail
  go_loopw [4, 37] (fun c i wr => ∃ x : Nat, x ≤ 2 * b - 1 ∧ i = .int .i64 x ∧ c = .int .i64 (2 * ((x / 2 : Nat) : Int)) ∧ Tab wr ∧ Below w.heap.size w wr) (fun _ i _ => 2 * b - 1 - (intOf i).toNat)
  case atStart => exact ⟨0, by omega, rfl, rfl, T1.out, hb1⟩
  case round =>
    obtain ⟨x, hx, rfl, rfl, hT2, hb2⟩ := hrel
    by_cases hlt : x < 2 * b - 1
    · have hlt' : (x : Int) < 2 * (b : Int) - 1 := by omega
      rcases Nat.mod_two_eq_zero_or_one x with hpar | hpar
      · have hl := Hle.out x hlt
        simp only [hpar, Bool.or_eq_true, beq_iff_eq, Bool.and_eq_true, decide_eq_true_eq] at hl
        obtain ⟨⟨l0, l1⟩, l2⟩ := hl.resolve_left (by decide)
        have c1 := children_any (x : Int) (by omega) wr hT2
        have c2 := below_any (x : Int) (b : Int) (by omega) (by omega) (by omega) wr hT2
        rw [l0] at c1
        rw [l1, l2] at c2
        have hm : ((x : Int) % 2 != 0) = false := by rw [bne_eq_false_iff_eq]; omega
        have hx2 : (x + 1) / 2 = x / 2 := by omega
        have Hx2 := Lib.hid hx2
        have C1 := Lib.hid c1
        have C2 := Lib.hid c2
        have HT2 := Lib.hid hT2
        clear hl l0 l1 l2 c1 c2 hpar hT2 hx2
        generalize hq : x / 2 = q at Hx2 ⊢
        have Hq := Lib.hid hq
        clear hq
        go_wp2_with fail
        refine C1.out.mono ?_
        rintro e w' ⟨rfl, rfl⟩
        go_wp2_with fail
        refine C2.out.mono ?_
        rintro e w' ⟨rfl, rfl⟩
        go_wp2_with fail
        go_roundw
        case rel => exact ⟨x + 1, by omega, by go_num, by rw [Hx2.out, ← Hq.out], HT2.out, hb2⟩
        case measure => simp [intOf]; omega
      · have hl := Hin.out x hlt
        simp only [hpar, Bool.or_eq_true, beq_iff_eq, Bool.and_eq_true, decide_eq_true_eq] at hl
        obtain ⟨⟨⟨⟨⟨⟨⟨⟨⟨⟨⟨⟨⟨⟨⟨l0, r0⟩, l1⟩, r1⟩, pl⟩, pr⟩, sl'⟩, sr⟩, hlr⟩, e1⟩, e2⟩, lv⟩, h0⟩, h100⟩, v0⟩, v100⟩ := hl.resolve_left (by decide)
        have c1 := children_any (x : Int) (by omega) wr hT2
        clear hl
        generalize childL (x : Int) = l at *
        generalize childR (x : Int) = r at *
        have c2 := fun w ht => below_any l (b : Int) (by omega) (by omega) (by omega) w ht
        have c3 := fun w ht => below_any r (b : Int) (by omega) (by omega) (by omega) w ht
        have c4 := fun w ht => below_any (x : Int) (b : Int) (by omega) (by omega) (by omega) w ht
        have c5 := fun w ht => parent_any l (b : Int) (by omega) (by omega) (by omega) w ht
        have c6 := fun w ht => parent_any r (b : Int) (by omega) (by omega) (by omega) w ht
        have c7 := fun w ht => sibling_any l (b : Int) (by omega) (by omega) (by omega) w ht
        have c8 := fun w ht => sibling_any r (b : Int) (by omega) (by omega) (by omega) w ht
        have c9 := fun w ht => level_any l (by omega) w ht
        have c10 := fun w ht => level_any (x : Int) (by omega) w ht
        simp only [pl] at c5
        simp only [pr] at c6
        simp only [sl'] at c7
        simp only [sr] at c8
        simp only [← lv] at c10
        simp only [e1] at c2
        simp only [← hlr, e2] at c3
        generalize hi l (b : Int) = u at *
        generalize lvl l = v at *
        generalize lo (x : Int) (b : Int) = y at *
        generalize Go.Proofs.YtlkgklplcbmimaaDoor.hi (x : Int) (b : Int) = z at *
        have C1 := Lib.hid c1
        have C2 := Lib.hid c2
        have C3 := Lib.hid c3
        have C4 := Lib.hid c4
        have C5 := Lib.hid c5
        have C6 := Lib.hid c6
        have C7 := Lib.hid c7
        have C8 := Lib.hid c8
        have C9 := Lib.hid c9
        have C10 := Lib.hid c10
        have HT2 := Lib.hid hT2
        have hx2 : (x + 1) / 2 = x / 2 + 1 := by omega
        have Hx2 := Lib.hid hx2
        have hx3 : x / 2 ≤ 100 := by omega
        clear pl pr sl' sr hlr e1 e2 lv c1 c2 c3 c4 c5 c6 c7 c8 c9 c10 hpar hT2 hx2
        generalize hq : x / 2 = q at Hx2 hx3 ⊢
        have Hq := Lib.hid hq
        clear hq
        go_wp2_with fail
        refine C1.out.mono ?_
        rintro e w' ⟨rfl, rfl⟩
        go_wp2_with fail
        refine (C2.out _ HT2.out).mono ?_
        rintro e w' ⟨rfl, rfl⟩
        go_wp2_with fail
        refine (C3.out _ HT2.out).mono ?_
        rintro e w' ⟨rfl, rfl⟩
        go_wp2_with fail
        refine (C4.out _ HT2.out).mono ?_
        rintro e w' ⟨rfl, rfl⟩
        go_wp2_with fail
        refine (C5.out _ HT2.out).mono ?_
        rintro e w3 ⟨rfl, hb3⟩
        have T3 := Lib.hid (HT2.out.below hb3)
        go_wp2_with fail
        refine (C6.out _ T3.out).mono ?_
        rintro e w4 ⟨rfl, hb4⟩
        have T4 := Lib.hid (T3.out.below hb4)
        go_wp2_with fail
        refine (C7.out _ T4.out).mono ?_
        rintro e w5 ⟨rfl, hb5⟩
        have T5 := Lib.hid (T4.out.below hb5)
        go_wp2_with fail
        refine (C8.out _ T5.out).mono ?_
        rintro e w6 ⟨rfl, hb6⟩
        have T6 := Lib.hid (T5.out.below hb6)
        go_wp2_with fail
        refine (C9.out _ T6.out).mono ?_
        rintro e w' ⟨rfl, rfl⟩
        go_wp2_with fail
        refine (C10.out _ T6.out).mono ?_
        rintro e w' ⟨rfl, rfl⟩
        go_wp2_with fail
        go_roundw
        case rel => exact ⟨x + 1, by omega, by go_num, by rw [Hx2.out, ← Hq.out]; go_num, T6.out, below_step (below_step (below_step (below_step hb2 hb3) hb4) hb5) hb6⟩
        case measure => simp [intOf]; omega
    · obtain rfl : x = 2 * b - 1 := by omega
      have e1 : ((2 * b - 1 : Nat) : Int) = 2 * (b : Int) - 1 := by omega
      have e2 : (2 * b - 1) / 2 = b - 1 := by omega
      have e3 : (((b - 1 : Nat)) : Int) = (b : Int) - 1 := by omega
      rw [e1, e2, e3]
      have hc : ((2 * ((b : Int) - 1)) == 2 * (b : Int) - 2) = true := by rw [beq_iff_eq]; omega
      have HT2 := Lib.hid hT2
      clear e1 e2 e3 hT2
      go_wp2_with fail
      refine (CR.out _).mono ?_
      rintro e w' ⟨rfl, rfl⟩
      go_wp2_with fail
      refine (CB.out _ HT2.out).mono ?_
      rintro e w' ⟨rfl, rfl⟩
      go_wp2_with fail
      go_ret
      exact ⟨by first | rfl | simp [hc], hb2⟩
end Go.Proofs.YtlkgklplcbmimaaDoor
