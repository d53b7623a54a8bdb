/- CONTRACT: the long digest of parts. -/
import Derived.Test.YtmncihhofppkdaaDoorWide
import Derived.Test.YtmncihhofppkdaaDoorSum
import Derived.Test.YtmncihhofppkdaaDoorBase
namespace Go.Proofs.YtmncihhofppkdaaDoor
open Go.RowKit
set_option linter.unusedVariables false
set_option linter.unusedSimpArgs false
attribute [local go_sem] Oper.semAt_some

theorem out64_len (R : S8 64) : (R.list.flatMap bytes64).length = 64 := rfl
theorem out64_at (R : S8 64) (i j : Nat) (hi : i < 8) (hj : j < 8) : (R.list.flatMap bytes64).getD (8 * i + j) 0#8 = ((R.list.getD i 0#64) >>> (56 - 8 * j)).setWidth 8 := by
  match i, hi, j, hj with
  | 0, _, 0, _ => rfl
  | 0, _, 1, _ => rfl
  | 0, _, 2, _ => rfl
  | 0, _, 3, _ => rfl
  | 0, _, 4, _ => rfl
  | 0, _, 5, _ => rfl
  | 0, _, 6, _ => rfl
  | 0, _, 7, _ => rfl
  | 1, _, 0, _ => rfl
  | 1, _, 1, _ => rfl
  | 1, _, 2, _ => rfl
  | 1, _, 3, _ => rfl
  | 1, _, 4, _ => rfl
  | 1, _, 5, _ => rfl
  | 1, _, 6, _ => rfl
  | 1, _, 7, _ => rfl
  | 2, _, 0, _ => rfl
  | 2, _, 1, _ => rfl
  | 2, _, 2, _ => rfl
  | 2, _, 3, _ => rfl
  | 2, _, 4, _ => rfl
  | 2, _, 5, _ => rfl
  | 2, _, 6, _ => rfl
  | 2, _, 7, _ => rfl
  | 3, _, 0, _ => rfl
  | 3, _, 1, _ => rfl
  | 3, _, 2, _ => rfl
  | 3, _, 3, _ => rfl
  | 3, _, 4, _ => rfl
  | 3, _, 5, _ => rfl
  | 3, _, 6, _ => rfl
  | 3, _, 7, _ => rfl
  | 4, _, 0, _ => rfl
  | 4, _, 1, _ => rfl
  | 4, _, 2, _ => rfl
  | 4, _, 3, _ => rfl
  | 4, _, 4, _ => rfl
  | 4, _, 5, _ => rfl
  | 4, _, 6, _ => rfl
  | 4, _, 7, _ => rfl
  | 5, _, 0, _ => rfl
  | 5, _, 1, _ => rfl
  | 5, _, 2, _ => rfl
  | 5, _, 3, _ => rfl
  | 5, _, 4, _ => rfl
  | 5, _, 5, _ => rfl
  | 5, _, 6, _ => rfl
  | 5, _, 7, _ => rfl
  | 6, _, 0, _ => rfl
  | 6, _, 1, _ => rfl
  | 6, _, 2, _ => rfl
  | 6, _, 3, _ => rfl
  | 6, _, 4, _ => rfl
  | 6, _, 5, _ => rfl
  | 6, _, 6, _ => rfl
  | 6, _, 7, _ => rfl
  | 7, _, 0, _ => rfl
  | 7, _, 1, _ => rfl
  | 7, _, 2, _ => rfl
  | 7, _, 3, _ => rfl
  | 7, _, 4, _ => rfl
  | 7, _, 5, _ => rfl
  | 7, _, 6, _ => rfl
  | 7, _, 7, _ => rfl
section
variable {gs gk go b c NP bs bn : Nat} {P : List (BitVec 8)} {s : S8 64} {W W' : World}
end
theorem arr_not_own {α β : Type} {f : α → Value} {f' : β → Value} {w : World} {g T B e : Nat} {ys : List β} {v : Value} {xs : List α} (h : Arr f' w g T ys) (hte : T ≠ e) (hr : Own f w B e v xs) : some g ≠ v.ownBlock := by
  rcases hr.2 with ⟨rfl, _⟩ | ⟨g', cap, cur, rfl, _, hgb, _⟩
  · simp [Value.ownBlock]
  · intro e'
    obtain rfl : g = g' := by simpa [Value.ownBlock] using e'
    have : w.heap[g]? = some (.cells (ys.map f').toArray T (0, 0)) := h
    rw [this] at hgb; cases hgb; exact hte rfl

end Go.Proofs.YtmncihhofppkdaaDoor
