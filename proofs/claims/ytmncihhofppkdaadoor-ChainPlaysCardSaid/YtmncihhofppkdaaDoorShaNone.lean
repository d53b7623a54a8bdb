/- the walk of ShaNone. -/
import Derived.Test.YtmncihhofppkdaaDoorShaL
namespace Go.Proofs.YtmncihhofppkdaaDoor
open Go.RowKit
set_option linter.unusedVariables false
set_option linter.unusedSimpArgs false

def zSum : Array Value := ((List.replicate 32 0#8).map b8).toArray
set_option maxRecDepth 100000 in
theorem sum_none (w : World) : Calls Tryd.prog 75 #[.pointer none] w fun e w' => e = .returned (.agg zSum) ∧ Below w.heap.size w w' := by
  have HO0 := Lib.hid (Arr.new b8 w 23 (List.replicate 32 0#8))
  go_enter Tryd.func75, Tryd.ntmps75
  go_wp2_with (first
    | refine wpList_load_arr rfl 23 _ rfl w.heap.size rfl _ (List.replicate 32 0#8) HO0.out _ Tryd.underlying23 rfl (by rw [size32]; rfl) ?_
    | (refine wpList_store_arr rfl 23 _ _ rfl w.heap.size rfl (List.replicate 32 0#8) rfl _ _ HO0.out rfl (by rw [size32]; rfl) b8_one' ?_; intro w9 hx9 hg9))
  refine bodyPost_ret (v := .agg zSum) (results_arr (g := w.heap.size) rfl _ _ _ _ _ rfl hx9 Tryd.underlying23 rfl (by rw [size32]; rfl)) rfl ?_
  exact ⟨rfl, ((Below.refl _ _).alloc (Nat.le_refl _) _).grown hg9 (by simp) (fun k e => by cases e; simp)⟩
theorem info8 : ∀ w, (Go.sizeOf 5).run Tryd.prog w = .ok 1 w := fun _ => by kernel_rfl
theorem eql_sum (w : World) (xs ys : List (BitVec 8)) (hx : xs.length = 32) (hy : ys.length = 32) : (binOp .eql 23 (.agg (xs.map b8).toArray) (.agg (ys.map b8).toArray)).run Tryd.prog w = .ok (.bool (xs == ys)) w :=
  run_eql_b8 w 23 5 32 Tryd.underlying23 Tryd.underlying5 info8 xs ys hx hy
end Go.Proofs.YtmncihhofppkdaaDoor
