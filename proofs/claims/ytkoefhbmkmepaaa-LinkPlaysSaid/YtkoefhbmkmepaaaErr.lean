/- CONTRACTS: burrownum.Num, burrownum.Is: errors as numbers. -/
import Derived.Test.YtkoefhbmkmepaaaMem
import Derived.Test.YtkoefhbmkmepaaaRows
import Derived.WalkSpells
import Derived.WalkLawsBesides
namespace Go.Proofs.Ytkoefhbmkmepaaa
open Go.RowKit

/-- an error by its number; 0: none -/
def errV (n : Nat) : Value := if n = 0 then .nilIface else .iface 36 (.int .i64 (n : Int))
theorem errV_zero : errV 0 = .nilIface := rfl
theorem errV_pos {n : Nat} (h : n ≠ 0) : errV n = .iface 36 (.int .i64 (n : Int)) := if_neg h

theorem assert_errno (n : Int) (w : World) : (Instr.typeAssert (.iface 36 (.int .i64 n)) 31 36 true).run Try.prog w = .ok (.tuple #[.int .i64 n, .bool true]) w := by kernel_rfl

set_option maxRecDepth 100000 in
theorem num_any (n : Nat) (w : World) : Calls Try.prog 10 #[errV n] w fun e w' => e = .returned (.int .i64 (n : Int)) ∧ w = w' := by
  by_cases h : n = 0
  · subst h
    rw [errV_zero]
    go_enter Try.func10, Try.ntmps10
    go_wp2
    go_ret
    exact ⟨rfl, rfl⟩
  · rw [errV_pos h]
    have h0 : ((n : Int) == 0) = false := by simp; omega
    have hne : (n = 0) = False := by simp [h]
    have hta := assert_errno (n : Int)
    clear h
    go_enter Try.func10, Try.ntmps10
    go_wp2
    go_ret
    exact ⟨rfl, rfl⟩

theorem is_any (n m : Nat) (w : World) : Calls Try.prog 15 #[errV n, .int .i64 (m : Int)] w fun e w' => e = .returned (.bool ((n : Int) == (m : Int))) ∧ w = w' := by
  go_enter Try.func15, Try.ntmps15
  go_wp2_with (go_at_call 10; refine (num_any _ _).mono ?_; rintro e w' ⟨rfl, rfl⟩)
  go_ret
  exact ⟨rfl, rfl⟩
end Go.Proofs.Ytkoefhbmkmepaaa
