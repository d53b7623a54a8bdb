/- the walk of SeatCommon. -/
import Derived.Test.YtlkgklplcbmimaaDoorSeatCommon
namespace Go.Proofs.YtlkgklplcbmimaaDoor
open Go.RowKit
set_option linter.unusedVariables false

set_option maxRecDepth 100000 in
set_option maxHeartbeats 2000000 in
theorem seatCommon_walk (x y n : Int) (x1 : -9223372036854775808 ≤ x) (hx : x < 9223372036854775808) (y1 : -9223372036854775808 ≤ y) (hy : y < 9223372036854775808) (h1 : -9223372036854775808 ≤ n) (h2 : n < 9223372036854775808) (w : World) (hT : Tab w) :
    Calls Tryd.prog 6 #[.int .i64 x, .int .i64 y, .int .i64 n] w fun e w' => e = .returned (.bool true) ∧ Below w.heap.size w w' := by
  have e1 := (common_eq x y n).1
  have e2 := (common_eq x y n).2
  have c1 := fun w ht => common_any x y n hx hy h1 h2 w ht
  have c2 := fun w => refCommon_any x y n w
  have c3 := fun w ht => common_any y x n hy hx h1 h2 w ht
  simp only [← e1] at c2
  simp only [← e2] at c3
  generalize commonV x y n = v at c1 c2 c3
  have C1 := Lib.hid c1
  have C2 := Lib.hid c2
  have C3 := Lib.hid c3
  have HT := Lib.hid hT
  clear e1 e2 c1 c2 c3 hT
  go_enter Tryd.func6, Tryd.ntmps6
  go_wp2_with fail
  refine (alive13_any _ HT.out).mono ?_
  rintro e w1 ⟨rfl, hb1⟩
  have T1 := Lib.hid (HT.out.below hb1)
  go_wp2_with fail
  refine (C1.out _ T1.out).mono ?_
  rintro e w2 ⟨rfl, hb2⟩
  have T2 := Lib.hid (T1.out.below hb2)
  go_wp2_with fail
  refine (C2.out _).mono ?_
  rintro e w' ⟨rfl, rfl⟩
  go_wp2_with fail
  refine (C3.out _ T2.out).mono ?_
  rintro e w3 ⟨rfl, hb3⟩
  have T3 := Lib.hid (T2.out.below hb3)
  go_wp2_with fail
  refine (C1.out _ T3.out).mono ?_
  rintro e w4 ⟨rfl, hb4⟩
  go_wp2_with fail
  go_ret
  exact ⟨rfl, below_step (below_step (below_step hb1 hb2) hb3) hb4⟩
end Go.Proofs.YtlkgklplcbmimaaDoor
