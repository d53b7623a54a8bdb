/- A leaf's chain in memory: the cells of its struct; an empty one. Plain lemmas. -/
import Derived.Test.YtmncihhofppkdaaDoorOnceP
import Derived.Test.YtmncihhofppkdaaDoorWinO
import Derived.Test.YtmncihhofppkdaaDoorMapO
namespace Go.Proofs.YtmncihhofppkdaaDoor
open Go.RowKit
set_option linter.unusedVariables false
set_option linter.unusedSimpArgs false

/-- the cells of a leaf's chain: a window, the link, the place, the map -/
def lineC (t : Bool) (h : Int) (s : BitVec 64) (link : List (BitVec 8)) (place : Int) (m : Value) : List Value := .bool t :: .int .i64 h :: .int .u64 (bv s) :: (link.map b8 ++ [.int .i64 place, m])
theorem lineC_len (t : Bool) (h : Int) (s : BitVec 64) (link : List (BitVec 8)) (place : Int) (m : Value) (hl : link.length = 32) : (lineC t h s link place m).length = 37 := by simp [lineC, hl]
theorem sizeLine : (Tryd.prog.info? 81).map (·.size) = some 37 := by kernel_rfl
section
variable {t : Bool} {h : Int} {s : BitVec 64} {link : List (BitVec 8)} {place : Int} {m : Value}
theorem lineC_link (hl : link.length = 32) : ((lineC t h s link place m).drop 3).take 32 = link.map b8 := by
  unfold lineC
  simp [List.take_append, hl]
theorem lineC_35 (hl : link.length = 32) : (lineC t h s link place m)[35]? = some (.int .i64 place) := by
  unfold lineC
  simp [List.getElem?_append, hl]
theorem lineC_36 (hl : link.length = 32) : (lineC t h s link place m)[36]? = some m := by
  unfold lineC
  simp [List.getElem?_append, hl]
theorem lineC_set35 (hl : link.length = 32) (p : Int) : (lineC t h s link place m).set 35 (.int .i64 p) = lineC t h s link p m := by
  unfold lineC
  simp [List.set_append, hl]
theorem lineC_set36 (hl : link.length = 32) (m' : Value) : (lineC t h s link place m).set 36 m' = lineC t h s link place m' := by
  unfold lineC
  simp [List.set_append, hl]
theorem lineC_setW (t' : Bool) (h' : Int) (s' : BitVec 64) : setW (lineC t h s link place m) 0 t' h' s' = lineC t' h' s' link place m := by
  unfold setW lineC
  simp
theorem lineC_eq : lineC t h s link place m = [.bool t, .int .i64 h, .int .u64 (bv s)] ++ (link.map b8 ++ [.int .i64 place, m]) := rfl
theorem lineC_one (hm : m.oneCell' = true) : ∀ u ∈ lineC t h s link place m, u.oneCell' = true := by
  intro u hu
  unfold lineC at hu
  simp only [List.mem_cons, List.mem_append, List.not_mem_nil, or_false] at hu
  rcases hu with rfl | rfl | rfl | hu | rfl | rfl
  · rfl
  · rfl
  · rfl
  · obtain ⟨x, -, rfl⟩ := List.mem_map.1 hu; exact b8_one x
  · rfl
  · exact hm
theorem WinO.of_line {w : World} {g : Nat} (hB : Blk w g 81 (lineC t h s link place m)) : WinO w g 0 81 (lineC t h s link place m) t h s := ⟨hB, rfl, rfl, rfl⟩
end
end Go.Proofs.YtmncihhofppkdaaDoor
