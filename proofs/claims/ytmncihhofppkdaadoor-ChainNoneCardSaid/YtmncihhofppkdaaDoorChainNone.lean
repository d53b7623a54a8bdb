/- No chains: the calls answer as for a stranger. -/
import Derived.Test.YtmncihhofppkdaaDoorAlive19
namespace Go.Proofs.YtmncihhofppkdaaDoor
open Go.RowKit
set_option linter.unusedVariables false
set_option linter.unusedSimpArgs false
set_option maxRecDepth 100000 in
set_option maxHeartbeats 4000000 in
theorem chainNone_walk (i n : Int) (hi0 : -9223372036854775808 ≤ i) (hi1 : i < 9223372036854775808) (hn0 : -9223372036854775808 ≤ n) (hn1 : n < 9223372036854775808) (w : World) (hT : Tab w) :
    Calls Tryd.prog 7 #[.int .i64 i, .int .i64 n] w fun e w' => e = .returned (.bool true) ∧ Below w.heap.size w w' := by
  have HIs := Lib.hid (show ∀ w : World, Calls Tryd.prog 22 #[errV 9, .int .i64 9] w fun e w' => e = .returned (.bool true) ∧ w = w' from fun w => is_any 9 9 w)
  have HA := Lib.hid (alive19_any w hT)
  have HCn := Lib.hid (show ∀ (w : World) (j : Int), Calls Tryd.prog 11 #[.pointer none, .int .i64 j] w fun e w' => e = .returned (.tuple #[.agg zeroOnce.toArray, errV 9]) ∧ Below w.heap.size w w' from fun w j => next_bare w _ j (fun w1 _ => line_nil w1 j))
  have HCt := Lib.hid (show ∀ (w : World) (j : Int), Calls Tryd.prog 18 #[.pointer none, .int .i64 j, .int .i64 n] w fun e w' => e = .returned (.tuple #[.agg zeroOnce.toArray, errV 9]) ∧ Below w.heap.size w w' from fun w j => take_bare w _ j n (fun w1 _ => line_nil w1 j))
  have HCl := Lib.hid (show ∀ (w : World) (j : Int), Calls Tryd.prog 17 #[.pointer none, .int .i64 j, .int .i64 n] w fun e w' => e = .returned (.tuple #[.agg zeroOnce.toArray, errV 9]) ∧ Below w.heap.size w w' from fun w j => look_bare w _ j n (fun w1 _ => line_nil w1 j))
  have HP := Lib.hid (fun w => place_bare w (.pointer none) i (line_nil w i))
  have HH := Lib.hid (fun w => held_bare w (.pointer none) i (line_nil w i))
  have HJ := Lib.hid (fun w => jump_bare w (.pointer none) i n (line_nil w i))
  clear hi0 hi1 hn0 hn1 hT
  go_enter Tryd.func7, Tryd.ntmps7
  go_wp2_with fail
  refine HA.out.mono ?_
  rintro e w1 ⟨rfl, hb1⟩
  have HB1 := Lib.hid hb1
  clear hb1
  go_wp2_with fail
  refine (HCn.out _ _).mono ?_
  rintro e w2 ⟨rfl, hb2⟩
  have HB2 := Lib.hid (HB1.out.trans (hb2.mono HB1.out.size))
  have HZ2 := Lib.hid (show Blk (w2.alloc (.cells zeroOnce.toArray 32)) w2.heap.size 32 zeroOnce from Blk.new _ _ _)
  clear hb2
  go_upto_region 5 with (refine wpList_store_piece rfl 32 (.tmp 6) (.tmp 18) rfl w2.heap.size 0 rfl zeroOnce rfl 32 _ [] zeroOnce [] HZ2.out (by simp) rfl rfl sizeOnce (onceC_one _ _ _ _ _) ?_; intro w3 hx3 hg3)
  have HB3 := Lib.hid (show Below w.heap.size w w3 from (HB2.out.alloc HB2.out.size _).grown hg3 (Nat.le_trans HB2.out.size (by simp)) (fun k e => by cases e; exact HB2.out.size))
  clear hx3 hg3
  go_wp2_with fail
  refine (HCt.out _ _).mono ?_
  rintro e w4 ⟨rfl, hb4⟩
  have HB4 := Lib.hid (HB3.out.trans (hb4.mono HB3.out.size))
  have HZ4 := Lib.hid (show Blk (w4.alloc (.cells zeroOnce.toArray 32)) w4.heap.size 32 zeroOnce from Blk.new _ _ _)
  clear hb4
  go_upto_region 6 with (refine wpList_store_piece rfl 32 (.tmp 8) (.tmp 25) rfl w4.heap.size 0 rfl zeroOnce rfl 32 _ [] zeroOnce [] HZ4.out (by simp) rfl rfl sizeOnce (onceC_one _ _ _ _ _) ?_; intro w5 hx5 hg5)
  have HB5 := Lib.hid (show Below w.heap.size w w5 from (HB4.out.alloc HB4.out.size _).grown hg5 (Nat.le_trans HB4.out.size (by simp)) (fun k e => by cases e; exact HB4.out.size))
  clear hx5 hg5
  go_wp2_with fail
  refine (HCl.out _ _).mono ?_
  rintro e w6 ⟨rfl, hb6⟩
  have HB6 := Lib.hid (HB5.out.trans (hb6.mono HB5.out.size))
  have HZ6 := Lib.hid (show Blk (w6.alloc (.cells zeroOnce.toArray 32)) w6.heap.size 32 zeroOnce from Blk.new _ _ _)
  clear hb6
  go_upto_region 7 with (refine wpList_store_piece rfl 32 (.tmp 10) (.tmp 32) rfl w6.heap.size 0 rfl zeroOnce rfl 32 _ [] zeroOnce [] HZ6.out (by simp) rfl rfl sizeOnce (onceC_one _ _ _ _ _) ?_; intro w7 hx7 hg7)
  have HB7 := Lib.hid (show Below w.heap.size w w7 from (HB6.out.alloc HB6.out.size _).grown hg7 (Nat.le_trans HB6.out.size (by simp)) (fun k e => by cases e; exact HB6.out.size))
  clear hx7 hg7
  go_wp2_with fail
  refine (HIs.out _).mono ?_
  rintro e w' ⟨rfl, rfl⟩
  go_wp2_with fail
  refine (HIs.out _).mono ?_
  rintro e w' ⟨rfl, rfl⟩
  go_wp2_with fail
  refine (HIs.out _).mono ?_
  rintro e w' ⟨rfl, rfl⟩
  go_wp2_with fail
  refine (HP.out _).mono ?_
  rintro e w' ⟨rfl, rfl⟩
  go_wp2_with fail
  refine (HH.out _).mono ?_
  rintro e w' ⟨rfl, rfl⟩
  go_wp2_with fail
  refine (HJ.out _).mono ?_
  rintro e w' ⟨rfl, rfl⟩
  go_wp2_with fail
  refine ⟨by simp, .bool true, by kernel_rfl, rfl, HB7.out⟩
end Go.Proofs.YtmncihhofppkdaaDoor
