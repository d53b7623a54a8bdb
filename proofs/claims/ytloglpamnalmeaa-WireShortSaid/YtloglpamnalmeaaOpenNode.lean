/- OPENER: a node as an argument. -/
import Derived.Test.YtloglpamnalmeaaBase
import Derived.Test.YtloglpamnalmeaaNodeA
namespace Go.Proofs.Ytloglpamnalmeaa
open Go.ChangeShapes Go.WideShapes Go.ChangeAt Go.RowKit
set_option linter.unusedVariables false

theorem piece {α : Type} {L P : List α} {o n m : Nat} (h : (L.drop o).take n = P) (hm : o + n = m) : L.drop o = P ++ L.drop m := by
  rw [← h, ← hm, ← List.drop_drop, List.take_append_drop]
set_option maxRecDepth 100000 in
/-- a node's cells, read back -/
theorem node_cells {H : Type} {enc : TypeId × Value → H} {w : World} {base : Nat} {spare : Nat → Bool} {held : Bool} {fuel : Nat} {L : List Value} {x : DataW H × List MemPlace}
    (hf : DataW.trod enc Try.prog w base spare held fuel 50 L = some x) :
    ∃ (x : NodeD) (A : Option Addr) (c : Nat), L = nodeC x A c ∧ x.Ok ∧ Rd cI w w.heap.size A x.um ∧ x.um.length ≤ c ∧ c ≤ maxLen := by
  obtain ⟨k, hl, hfd⟩ := field_of Try.underlying50 hf
  have hl99 : L.length = 99 := hl.trans (by kernel_rfl)
  obtain ⟨y0, h0⟩ := hfd 0 _ rfl
  obtain ⟨y1, h1⟩ := hfd 1 _ rfl
  obtain ⟨y2, h2⟩ := hfd 2 _ rfl
  obtain ⟨y3, h3⟩ := hfd 3 _ rfl
  obtain ⟨y4, h4⟩ := hfd 4 _ rfl
  obtain ⟨y5, h5⟩ := hfd 5 _ rfl
  obtain ⟨u, q0, -⟩ := DataW.trod_bool Try.underlying4 h0
  obtain ⟨nm, q1, -, wf1⟩ := DataW.trod_int Try.underlying3 h1
  obtain ⟨key, hk, q2⟩ := open_barray Try.underlying47 Try.underlying5 (by kernel_rfl) (by kernel_rfl) h2
  obtain ⟨sign, hs, q3⟩ := open_barray Try.underlying47 Try.underlying5 (by kernel_rfl) (by kernel_rfl) h3
  obtain ⟨par, hp, q4⟩ := open_barray Try.underlying23 Try.underlying5 (by kernel_rfl) (by kernel_rfl) h4
  obtain ⟨A, n, c, q5⟩ := slice_cell Try.underlying48 h5
  rw [q5] at h5
  obtain ⟨um, rd, wf5, ln5, le5, mx5⟩ := open_row Try.underlying48 Try.underlying3 (by kernel_rfl) h5
  refine ⟨⟨u, nm, key, sign, par, um⟩, A, c, ?_, ⟨hk, hs, hp, wf1, wf5⟩, rd, by rw [ln5]; exact le5, mx5⟩
  have g0 := piece (m := 1) q0 (by kernel_rfl)
  have g1 := piece (m := 2) q1 (by kernel_rfl)
  have g2 := piece (m := 34) q2 (by kernel_rfl)
  have g3 := piece (m := 66) q3 (by kernel_rfl)
  have g4 := piece (m := 98) q4 (by kernel_rfl)
  have g5 := piece (m := 99) q5 (by kernel_rfl)
  have e0 : L.drop 0 = [.bool u] ++ L.drop 1 := g0
  have e1 : L.drop 1 = [.int .i64 nm] ++ L.drop 2 := g1
  have e2 : L.drop 2 = key.map b8 ++ L.drop 34 := g2
  have e3 : L.drop 34 = sign.map b8 ++ L.drop 66 := g3
  have e4 : L.drop 66 = par.map b8 ++ L.drop 98 := g4
  have e5 : L.drop 98 = [.slice A n c] ++ L.drop 99 := g5
  rw [List.drop_eq_nil_of_le (i := 99) (by omega), List.append_nil] at e5
  rw [← List.drop_zero (l := L), e0, e1, e2, e3, e4, e5]
  simp [nodeC, ln5]
set_option maxRecDepth 100000 in
theorem open_node {H : Type} {enc : TypeId × Value → H} {w : World} {base : Nat} {spare : Nat → Bool} {held : Bool} {r : Reach} {b0 : Nat} {v : Value} {d : DataW H} {p : List MemPlace} (hv : Value.okWide Try.prog w r b0 50 v)
    (h : DataW.Trod enc Try.prog w base spare held 50 v d p) :
    ∃ (x : NodeD) (A : Option Addr) (c : Nat), v = .agg (nodeC x A c).toArray ∧ x.Ok ∧ Rd cI w w.heap.size A x.um := by
  obtain ⟨cs, rfl, hsz⟩ := okWide_struct Try.underlying50 hv
  obtain ⟨fuel, hf⟩ := h
  obtain ⟨L, rfl⟩ : ∃ L : List Value, cs = L.toArray := ⟨cs.toList, by simp⟩
  obtain ⟨x, A, c, e, hx, hr, -, -⟩ := node_cells (L := L) hf
  exact ⟨x, A, c, by rw [e], hx, hr⟩
end Go.Proofs.Ytloglpamnalmeaa
