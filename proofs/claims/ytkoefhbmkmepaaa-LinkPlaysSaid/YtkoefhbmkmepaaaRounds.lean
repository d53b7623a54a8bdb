/- CONTRACT: chacha.rounds. -/
import Derived.Test.YtkoefhbmkmepaaaArr
import Derived.Test.YtkoefhbmkmepaaaRows
import Derived.WalkSpells
import Derived.WalkLawsBesides
namespace Go.Proofs.Ytkoefhbmkmepaaa
open Go.RowKit
set_option linter.unusedVariables false

def roundsL : List Int := [0, 4, 8, 12, 1, 5, 9, 13, 2, 6, 10, 14, 3, 7, 11, 15, 0, 5, 10, 15, 1, 6, 11, 12, 2, 7, 8, 13, 3, 4, 9, 14]
def roundsV : Value := .agg (roundsL.map cI).toArray
theorem roundsSize : (Try.prog.info? 94).map (·.size) = some 32 := by kernel_rfl
set_option maxRecDepth 100000 in
theorem rounds_any (w : World) : Calls Try.prog 55 #[] w fun e w' => e = .returned roundsV ∧ Below w.heap.size w w' := by
  have hb : ∀ w, (Instr.build 94 #[(0, .agg #[.int .i64 0, .int .i64 4, .int .i64 8, .int .i64 12]), (1, .agg #[.int .i64 1, .int .i64 5, .int .i64 9, .int .i64 13]), (2, .agg #[.int .i64 2, .int .i64 6, .int .i64 10, .int .i64 14]), (3, .agg #[.int .i64 3, .int .i64 7, .int .i64 11, .int .i64 15]),
    (4, .agg #[.int .i64 0, .int .i64 5, .int .i64 10, .int .i64 15]), (5, .agg #[.int .i64 1, .int .i64 6, .int .i64 11, .int .i64 12]), (6, .agg #[.int .i64 2, .int .i64 7, .int .i64 8, .int .i64 13]), (7, .agg #[.int .i64 3, .int .i64 4, .int .i64 9, .int .i64 14])]).run Try.prog w = .ok roundsV w := fun _ => by kernel_rfl
  have hx0 : Arr cI (w.alloc (.cells ((List.replicate 32 0).map cI).toArray 94)) w.heap.size 94 (List.replicate 32 0) := Arr.new cI w _ _
  have HX0 := Lib.hid hx0
  clear hx0
  go_enter Try.func55, Try.ntmps55
  go_wp2_with (refine wpList_store_arr rfl 94 _ _ rfl w.heap.size rfl roundsL rfl _ _ HX0.out rfl roundsSize cI_one ?_; intro w6 hx6 hg6)
  have HX6 := Lib.hid hx6
  have HG6 := Lib.hid hg6
  clear hx6 hg6 hb HX0
  refine bodyPost_ret (v := roundsV) (results_cell_row (g := w.heap.size) rfl _ _ _ _ (0, 0) _ rfl HX6.out Try.underlying94 rfl (by rw [roundsSize]; rfl)) rfl ?_
  exact ⟨rfl, ((Below.refl _ _).alloc (Nat.le_refl _) _).grown HG6.out (by simp) (fun k e => by cases e; exact Nat.le_refl _)⟩
end Go.Proofs.Ytkoefhbmkmepaaa
