/- the walk of ShaNone. -/
import Derived.Test.YtgeighnfgniamaaShaL
namespace Go.Proofs.Ytgeighnfgniamaa
open Go.RowKit
set_option linter.unusedVariables false
set_option linter.unusedSimpArgs false

def zSum : Array Value := ((List.replicate 32 0#8).map b8).toArray
set_option maxRecDepth 100000 in
theorem sum_none (w : World) : Calls Try.prog 35 #[.pointer none] w fun e w' => e = .returned (.agg zSum) ∧ Below w.heap.size w w' := by
  have HO0 := Lib.hid (Arr.new b8 w 26 (List.replicate 32 0#8))
  go_enter Try.func35, Try.ntmps35
  go_wp2_with (first
    | refine wpList_load_arr rfl 26 _ rfl w.heap.size rfl _ (List.replicate 32 0#8) HO0.out _ Try.underlying26 rfl (by rw [size32]; rfl) ?_
    | (refine wpList_store_arr rfl 26 _ _ rfl w.heap.size rfl (List.replicate 32 0#8) rfl _ _ HO0.out rfl (by rw [size32]; rfl) b8_one' ?_; intro w9 hx9 hg9))
  refine bodyPost_ret (v := .agg zSum) (results_arr (g := w.heap.size) rfl _ _ _ _ _ rfl hx9 Try.underlying26 rfl (by rw [size32]; rfl)) rfl ?_
  exact ⟨rfl, ((Below.refl _ _).alloc (Nat.le_refl _) _).grown hg9 (by simp) (fun k e => by cases e; simp)⟩
theorem info8 : ∀ w, (Go.sizeOf 5).run Try.prog w = .ok 1 w := fun _ => by kernel_rfl
theorem eql_sum (w : World) (xs ys : List (BitVec 8)) (hx : xs.length = 32) (hy : ys.length = 32) : (binOp .eql 26 (.agg (xs.map b8).toArray) (.agg (ys.map b8).toArray)).run Try.prog w = .ok (.bool (xs == ys)) w :=
  run_eql_b8 w 26 5 32 Try.underlying26 Try.underlying5 info8 xs ys hx hy
theorem eql_wide (w : World) (xs ys : List (BitVec 8)) (hx : xs.length = 64) (hy : ys.length = 64) : (binOp .eql 35 (.agg (xs.map b8).toArray) (.agg (ys.map b8).toArray)).run Try.prog w = .ok (.bool (xs == ys)) w :=
  run_eql_b8 w 35 5 64 Try.underlying35 Try.underlying5 info8 xs ys hx hy
set_option maxRecDepth 100000 in
theorem shaNone_walk (A : Option Addr) (n c : Nat) (xs : List (BitVec 8)) {W : World} (hr : Rd b8 W W.heap.size A xs) (hn : xs.length = n) (hc : n ≤ c) (hm : c ≤ maxLen) :
    Calls Try.prog 12 #[.slice A n c] W fun e w' => e = .returned (.bool true) ∧ Below W.heap.size W w' := by
  have he : ∀ w, (binOp .eql 26 (.agg zSum) (.agg zSum)).run Try.prog w = .ok (.bool true) w := fun w => eql_sum w (List.replicate 32 0#8) (List.replicate 32 0#8) rfl rfl
  clear hr hn hc hm
  go_enter Try.func12, Try.ntmps12
  go_wp2_with fail
  refine (alive01_any _).mono ?_
  rintro e w1 ⟨rfl, hb1⟩
  go_wp2_with fail
  refine (add_none _ _).mono ?_
  rintro e w' ⟨rfl, rfl⟩
  go_wp2_with fail
  refine (sum_none _).mono ?_
  rintro e w2 ⟨rfl, hb2⟩
  have HB := Lib.hid (hb1.trans (hb2.mono hb1.size))
  clear hb1 hb2
  go_wp2_with (first
    | refine wpList_val rfl (.agg zSum) (fun a w => by as_aux_lemma => kernel_rfl) ?_
    | (go_at_call 32; refine (len_none _).mono ?_; rintro e w' ⟨rfl, rfl⟩))
  go_ret
  exact ⟨rfl, HB.out⟩
end Go.Proofs.Ytgeighnfgniamaa
