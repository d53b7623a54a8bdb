/- CONTRACT: kdf.Expand, a size that is refused. -/
import Derived.Test.YtgeighnfgniamaaExpand
import Derived.Test.YtgeighnfgniamaaErr
namespace Go.Proofs.Ytgeighnfgniamaa
open Go.RowKit
set_option linter.unusedVariables false
set_option linter.unusedSimpArgs false
attribute [local go_sem] Oper.semAt_some

set_option maxRecDepth 100000 in
theorem expand_bad (w : World) (n1 c1 n2 c2 : Nat) (N : Int) (A1 A2 : Option Addr) (hN : N < 0 ∨ N > 8160) :
    Calls Try.prog 25 #[.slice A1 n1 c1, .slice A2 n2 c2, .int .i64 N] w fun e w' => e = .returned (.tuple #[.slice none 0 0, errV 4]) ∧ Below w.heap.size w w' := by
  by_cases h : N < 0
  · have hd : decide (N < 0) = true := by simp [h]
    clear hN
    refine (callsIn_wide (n := 9)).1 ?_
    refine callsIn_of_wp_marks Try.func25 rfl trivial ?_ rfl
    simp only [Try.ntmps25, List.size_toArray, List.length_cons, List.length_nil, Nat.reduceAdd, Nat.reduceSub, Array.replicate_succ, Array.replicate_zero, List.push_toArray, List.append_toArray, List.nil_append, List.cons_append]
    refine wpIn_wide.2 ?_
    go_wp2_with fail
    have HN := Lib.hid (Boxed.new w 3 (.int .i64 N))
    have HBn := Lib.hid ((Below.refl w.heap.size w).alloc (Nat.le_refl _) (.cells #[.int .i64 N] 3))
    have c5 := HN.out.cell
    generalize w.alloc (.cells #[.int .i64 N] 3) = w1 at HN HBn c5 ⊢
    refine wp_scope_straight ?_
    go_wp2_with fail
    exact ⟨_, by simp [results, Try.f25, go_sem]; rfl, rfl, HBn.out⟩
  · have hd : decide (N < 0) = false := by simp [h]
    have hd2 : decide (8160 < N) = true := by simp; omega
    clear hN
    refine (callsIn_wide (n := 9)).1 ?_
    refine callsIn_of_wp_marks Try.func25 rfl trivial ?_ rfl
    simp only [Try.ntmps25, List.size_toArray, List.length_cons, List.length_nil, Nat.reduceAdd, Nat.reduceSub, Array.replicate_succ, Array.replicate_zero, List.push_toArray, List.append_toArray, List.nil_append, List.cons_append]
    refine wpIn_wide.2 ?_
    go_wp2_with fail
    have HN := Lib.hid (Boxed.new w 3 (.int .i64 N))
    have HBn := Lib.hid ((Below.refl w.heap.size w).alloc (Nat.le_refl _) (.cells #[.int .i64 N] 3))
    have c5 := HN.out.cell
    generalize w.alloc (.cells #[.int .i64 N] 3) = w1 at HN HBn c5 ⊢
    refine wp_scope_straight ?_
    go_wp2_with fail
    exact ⟨_, by simp [results, Try.f25, go_sem]; rfl, rfl, HBn.out⟩
end Go.Proofs.Ytgeighnfgniamaa
