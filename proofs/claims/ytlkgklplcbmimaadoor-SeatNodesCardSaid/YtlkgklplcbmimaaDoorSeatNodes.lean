/- the walk of SeatNodes. -/
import Derived.Test.YtlkgklplcbmimaaDoorSeatFs
namespace Go.Proofs.YtlkgklplcbmimaaDoor
open Go.RowKit
set_option linter.unusedVariables false

set_option maxRecDepth 100000 in
set_option maxHeartbeats 2000000 in
theorem seatNodes_walk (x n : Int) (x1 : -9223372036854775808 ≤ x) (hx : x < 9223372036854775808) (h1 : -9223372036854775808 ≤ n) (h2 : n < 9223372036854775808) (w : World) (hT : Tab w) :
    Calls Tryd.prog 4 #[.int .i64 x, .int .i64 n] w fun e w' => e = .returned (.bool true) ∧ Below w.heap.size w w' := by
  obtain ⟨l, hl⟩ : ∃ l, l = childL x := ⟨_, rfl⟩
  obtain ⟨r, hr⟩ : ∃ r, r = childR x := ⟨_, rfl⟩
  obtain ⟨v, hv⟩ : ∃ v, v = lvl x := ⟨_, rfl⟩
  obtain ⟨p, hp⟩ : ∃ p, p = parV x n := ⟨_, rfl⟩
  obtain ⟨s, hs⟩ : ∃ s, s = sibV x n := ⟨_, rfl⟩
  obtain ⟨a, ha⟩ : ∃ a, a = lo x n := ⟨_, rfl⟩
  obtain ⟨b, hb⟩ : ∃ b, b = hi x n := ⟨_, rfl⟩
  obtain ⟨k, hk⟩ : ∃ k, k = leavesV x := ⟨_, rfl⟩
  have c1 := children_any x hx w hT
  have c2 := refChildren_any x hx w
  have c3 := fun w ht => level_any x hx w ht
  have c4 := fun w => refLevel_any x hx w
  have c5 := fun w ht => parent_any x n hx h1 h2 w ht
  have c6 := fun w => refParent_any x n w
  have c7 := fun w ht => sibling_any x n hx h1 h2 w ht
  have c8 := fun w => refSibling_any x n w
  have c9 := fun w ht => below_any x n hx h1 h2 w ht
  have c10 := fun w => refBelow_any x n h2 w
  have c11 := fun w => refSound_any n w
  have c12 := fun w => root_any n h1 h2 w
  have c13 := fun w => leaves_any x w
  have c14 := fun w => refLeaves_any x w
  rw [← hl, ← hr] at c1 c2
  simp only [← hv] at c3 c4
  simp only [← hp] at c5 c6
  simp only [← hs] at c7 c8
  simp only [← ha, ← hb] at c9 c10
  simp only [← hk] at c13 c14
  have C1 := Lib.hid c1
  have C2 := Lib.hid c2
  have C3 := Lib.hid c3
  have C4 := Lib.hid c4
  have C5 := Lib.hid c5
  have C6 := Lib.hid c6
  have C7 := Lib.hid c7
  have C8 := Lib.hid c8
  have C9 := Lib.hid c9
  have C10 := Lib.hid c10
  have C13 := Lib.hid c13
  have C14 := Lib.hid c14
  have HT := Lib.hid hT
  clear c1 c2 c3 c4 c5 c6 c7 c8 c9 c10 c13 c14 hl hr hv hp hs ha hb hk hT
  cases hso : soundB n with
  | false =>
    have hro : rootV n = -1 := by simp [rootV, hso]
    rw [hro] at c12
    rw [hso] at c11
    have C11 := Lib.hid c11
    have C12 := Lib.hid c12
    clear c11 c12 hro hso
    go_enter Tryd.func4, Tryd.ntmps4
    go_wp2_with (first
      | (go_at_call 8; refine (alive13_any _ HT.out).mono ?_; rintro e w1 ⟨rfl, hb1⟩; have T1 := Lib.hid (HT.out.below hb1))
      | (go_at_call 11; refine C1.out.mono ?_; rintro e w' ⟨rfl, rfl⟩)
      | (go_at_call 12; refine C2.out.mono ?_; rintro e w' ⟨rfl, rfl⟩)
      | (go_at_call 13; refine (C3.out _ T1.out).mono ?_; rintro e w' ⟨rfl, rfl⟩)
      | (go_at_call 14; refine (C4.out _).mono ?_; rintro e w' ⟨rfl, rfl⟩)
      | (go_at_call 15; refine (C5.out _ T1.out).mono ?_; rintro e w2 ⟨rfl, hb2⟩; have T2 := Lib.hid (T1.out.below hb2); have hbb2 := below_step hb1 hb2)
      | (go_at_call 16; refine (C6.out _).mono ?_; rintro e w' ⟨rfl, rfl⟩)
      | (go_at_call 17; refine (C7.out _ T2.out).mono ?_; rintro e w3 ⟨rfl, hb3⟩; have T3 := Lib.hid (T2.out.below hb3); have hbb3 := below_step hbb2 hb3)
      | (go_at_call 18; refine (C8.out _).mono ?_; rintro e w' ⟨rfl, rfl⟩)
      | (go_at_call 19; refine (C9.out _ T3.out).mono ?_; rintro e w' ⟨rfl, rfl⟩)
      | (go_at_call 20; refine (C10.out _).mono ?_; rintro e w' ⟨rfl, rfl⟩)
      | (go_at_call 21; refine (C11.out _).mono ?_; rintro e w' ⟨rfl, rfl⟩)
      | (go_at_call 22; refine (C12.out _).mono ?_; rintro e w' ⟨rfl, rfl⟩)
      | (go_at_call 23; refine (C13.out _).mono ?_; rintro e w' ⟨rfl, rfl⟩)
      | (go_at_call 24; refine (C14.out _).mono ?_; rintro e w' ⟨rfl, rfl⟩))
    go_ret
    exact ⟨rfl, hbb3⟩
  | true =>
    have hro : rootV n = n - 1 := by simp [rootV, hso]
    have b : 1 ≤ n ∧ n ≤ 32 := by simp [soundB] at hso; omega
    obtain ⟨b1, b2⟩ := b
    rw [hro] at c12
    rw [hso] at c11
    have C11 := Lib.hid c11
    have C12 := Lib.hid c12
    clear c11 c12 hro hso
    go_enter Tryd.func4, Tryd.ntmps4
    go_wp2_with (first
      | (go_at_call 8; refine (alive13_any _ HT.out).mono ?_; rintro e w1 ⟨rfl, hb1⟩; have T1 := Lib.hid (HT.out.below hb1))
      | (go_at_call 11; refine C1.out.mono ?_; rintro e w' ⟨rfl, rfl⟩)
      | (go_at_call 12; refine C2.out.mono ?_; rintro e w' ⟨rfl, rfl⟩)
      | (go_at_call 13; refine (C3.out _ T1.out).mono ?_; rintro e w' ⟨rfl, rfl⟩)
      | (go_at_call 14; refine (C4.out _).mono ?_; rintro e w' ⟨rfl, rfl⟩)
      | (go_at_call 15; refine (C5.out _ T1.out).mono ?_; rintro e w2 ⟨rfl, hb2⟩; have T2 := Lib.hid (T1.out.below hb2); have hbb2 := below_step hb1 hb2)
      | (go_at_call 16; refine (C6.out _).mono ?_; rintro e w' ⟨rfl, rfl⟩)
      | (go_at_call 17; refine (C7.out _ T2.out).mono ?_; rintro e w3 ⟨rfl, hb3⟩; have T3 := Lib.hid (T2.out.below hb3); have hbb3 := below_step hbb2 hb3)
      | (go_at_call 18; refine (C8.out _).mono ?_; rintro e w' ⟨rfl, rfl⟩)
      | (go_at_call 19; refine (C9.out _ T3.out).mono ?_; rintro e w' ⟨rfl, rfl⟩)
      | (go_at_call 20; refine (C10.out _).mono ?_; rintro e w' ⟨rfl, rfl⟩)
      | (go_at_call 21; refine (C11.out _).mono ?_; rintro e w' ⟨rfl, rfl⟩)
      | (go_at_call 22; refine (C12.out _).mono ?_; rintro e w' ⟨rfl, rfl⟩)
      | (go_at_call 23; refine (C13.out _).mono ?_; rintro e w' ⟨rfl, rfl⟩)
      | (go_at_call 24; refine (C14.out _).mono ?_; rintro e w' ⟨rfl, rfl⟩))
    go_ret
    exact ⟨rfl, hbb3⟩
end Go.Proofs.YtlkgklplcbmimaaDoor
