/- CONTRACTS: chacha.word, chacha.check, chacha.rounds. -/
import Derived.Test.YtkoefhbmkmepaaaRefQuarter
import Derived.Test.YtkoefhbmkmepaaaErr
namespace Go.Proofs.Ytkoefhbmkmepaaa
open Go.RowKit
set_option linter.unusedVariables false

/-- four bytes as a word, the lowest first -/
def word4 (a b c d : BitVec 8) : BitVec 32 := a.setWidth 32 ||| b.setWidth 32 <<< 8 ||| c.setWidth 32 <<< 16 ||| d.setWidth 32 <<< 24
def wordAt (xs : List (BitVec 8)) (k : Nat) : BitVec 32 := word4 (xs.getD k 0#8) (xs.getD (k + 1) 0#8) (xs.getD (k + 2) 0#8) (xs.getD (k + 3) 0#8)

set_option maxRecDepth 100000 in
set_option maxHeartbeats 1000000 in
theorem word_any (b off n c : Nat) (x0 x1 x2 x3 : BitVec 8) (w : World) (hn : 4 ≤ n) (c0 : w.cell? ⟨b, off, none⟩ = some (.int .u8 (bv x0))) (c1 : w.cell? ⟨b, off + 1, none⟩ = some (.int .u8 (bv x1))) (c2 : w.cell? ⟨b, off + 2, none⟩ = some (.int .u8 (bv x2))) (c3 : w.cell? ⟨b, off + 3, none⟩ = some (.int .u8 (bv x3))) :
    Calls Try.prog 54 #[.slice (some ⟨b, off, none⟩) n c] w fun e w' => e = .returned (.int .u32 (bv (word4 x0 x1 x2 x3))) ∧ ∃ k, w' = w.drewN k := by
  go_enter Try.func54, Try.ntmps54
  go_wp2_with fail
  go_quiet (fail)
  go_wp2_with fail
  go_ret
  exact ⟨rfl, _, rfl⟩

/-- is there such a piece? an error's number -/
def badP (n : Nat) (number : Int) : Nat := if n ≠ 12 then 1 else if number < 0 ∨ 4294967295 < number then 8 else 0
theorem badP_len {n : Nat} {number : Int} (h : n ≠ 12) : badP n number = 1 := if_pos h
theorem badP_num {n : Nat} {number : Int} (h : n = 12) (h' : number < 0 ∨ 4294967295 < number) : badP n number = 8 := by unfold badP; rw [if_neg (by omega), if_pos h']
theorem badP_ok {n : Nat} {number : Int} (h : n = 12) (h' : ¬ (number < 0 ∨ 4294967295 < number)) : badP n number = 0 := by unfold badP; rw [if_neg (by omega), if_neg h']
set_option maxRecDepth 100000 in
set_option maxHeartbeats 1000000 in
theorem check03_any (A : Option Addr) (n c : Nat) (number : Int) (w : World) :
    Calls Try.prog 45 #[.slice A n c, .int .i64 number] w fun e w' => e = .returned (errV (badP n number)) ∧ w = w' := by
  by_cases h1 : n = 12
  · by_cases h2 : number < 0
    · rw [badP_num h1 (.inl h2)]
      have h1' : ((n : Int) != 12) = false := by rw [bne_eq_false_iff_eq]; omega
      have h2' : decide (number < 0) = true := by simpa using h2
      clear h1
      go_enter Try.func45, Try.ntmps45
      go_wp2_with fail
      go_ret
      exact ⟨rfl, rfl⟩
    · have h2' : decide (number < 0) = false := by simpa using h2
      by_cases h3 : 4294967295 < number
      · rw [badP_num h1 (.inr h3)]
        have h1' : ((n : Int) != 12) = false := by rw [bne_eq_false_iff_eq]; omega
        have h3' : decide (4294967295 < number) = true := by simpa using h3
        clear h1
        go_enter Try.func45, Try.ntmps45
        go_wp2_with fail
        go_ret
        exact ⟨rfl, rfl⟩
      · rw [badP_ok h1 (by omega)]
        have h1' : ((n : Int) != 12) = false := by rw [bne_eq_false_iff_eq]; omega
        have h3' : decide (4294967295 < number) = false := by simpa using h3
        clear h1
        go_enter Try.func45, Try.ntmps45
        go_wp2_with fail
        go_ret
        exact ⟨rfl, rfl⟩
  · rw [badP_len h1]
    have h1' : ((n : Int) != 12) = true := by rw [bne_iff_ne]; omega
    clear h1
    go_enter Try.func45, Try.ntmps45
    go_wp2_with fail
    go_ret
    exact ⟨rfl, rfl⟩
end Go.Proofs.Ytkoefhbmkmepaaa
