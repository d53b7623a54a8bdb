/- OPENER: a proposal as an argument. -/
import Derived.Test.YtloglpamnalmeaaOpenNode
import Derived.Test.YtloglpamnalmeaaPropD
namespace Go.Proofs.Ytloglpamnalmeaa
open Go.ChangeShapes Go.WideShapes Go.ChangeAt Go.RowKit
set_option linter.unusedVariables false

set_option maxRecDepth 100000 in
/-- a proposal's cells, read back -/
theorem prop_cells {H : Type} {enc : TypeId × Value → H} {w : World} {base : Nat} {spare : Nat → Bool} {held : Bool} {fuel : Nat} {L : List Value} {x : DataW H × List MemPlace}
    (hf : DataW.trod enc Try.prog w base spare held fuel 71 L = some x) :
    ∃ (x : PropD) (A : Option Addr) (c : Nat), L = propC x A c ∧ x.Ok ∧ Rd cI w w.heap.size A x.leaf.um := by
  obtain ⟨k, hl, hfd⟩ := field_of Try.underlying71 hf
  have hl263 : L.length = 263 := hl.trans (by kernel_rfl)
  obtain ⟨y0, h0⟩ := hfd 0 _ rfl
  obtain ⟨y1, h1⟩ := hfd 1 _ rfl
  obtain ⟨y2, h2⟩ := hfd 2 _ rfl
  obtain ⟨y3, h3⟩ := hfd 3 _ rfl
  obtain ⟨y4, h4⟩ := hfd 4 _ rfl
  obtain ⟨y5, h5⟩ := hfd 5 _ rfl
  obtain ⟨y6, h6⟩ := hfd 6 _ rfl
  obtain ⟨y7, h7⟩ := hfd 7 _ rfl
  obtain ⟨y8, h8⟩ := hfd 8 _ rfl
  obtain ⟨grp, hg, q0⟩ := open_barray Try.underlying23 Try.underlying5 (by kernel_rfl) (by kernel_rfl) h0
  obtain ⟨ep, q1, -, wf1⟩ := DataW.trod_int Try.underlying3 h1
  obtain ⟨frm, q2, -, wf2⟩ := DataW.trod_int Try.underlying3 h2
  obtain ⟨bas, hb, q3⟩ := open_barray Try.underlying23 Try.underlying5 (by kernel_rfl) (by kernel_rfl) h3
  obtain ⟨kind, q4, -, wf4⟩ := DataW.trod_int Try.underlying3 h4
  obtain ⟨leaf, A, c, q5, hlf, rd, -, -⟩ := node_cells h5
  obtain ⟨start, hst, q6⟩ := open_barray Try.underlying47 Try.underlying5 (by kernel_rfl) (by kernel_rfl) h6
  obtain ⟨at_, q7, -, wf7⟩ := DataW.trod_int Try.underlying3 h7
  obtain ⟨sig, hs, q8⟩ := open_barray Try.underlying62 Try.underlying5 (by kernel_rfl) (by kernel_rfl) h8
  refine ⟨⟨grp, ep, frm, bas, kind, leaf, start, at_, sig⟩, A, c, ?_, ⟨hg, hb, hst, hs, hlf, wf1, wf2, wf4, wf7⟩, rd⟩
  have g0 := piece (m := 32) q0 (by kernel_rfl)
  have g1 := piece (m := 33) q1 (by kernel_rfl)
  have g2 := piece (m := 34) q2 (by kernel_rfl)
  have g3 := piece (m := 66) q3 (by kernel_rfl)
  have g4 := piece (m := 67) q4 (by kernel_rfl)
  have g5 := piece (m := 166) q5 (by kernel_rfl)
  have g6 := piece (m := 198) q6 (by kernel_rfl)
  have g7 := piece (m := 199) q7 (by kernel_rfl)
  have g8 := piece (m := 263) q8 (by kernel_rfl)
  have e0 : L.drop 0 = grp.map b8 ++ L.drop 32 := g0
  have e1 : L.drop 32 = [.int .i64 ep] ++ L.drop 33 := g1
  have e2 : L.drop 33 = [.int .i64 frm] ++ L.drop 34 := g2
  have e3 : L.drop 34 = bas.map b8 ++ L.drop 66 := g3
  have e4 : L.drop 66 = [.int .i64 kind] ++ L.drop 67 := g4
  have e5 : L.drop 67 = nodeC leaf A c ++ L.drop 166 := g5
  have e6 : L.drop 166 = start.map b8 ++ L.drop 198 := g6
  have e7 : L.drop 198 = [.int .i64 at_] ++ L.drop 199 := g7
  have e8 : L.drop 199 = sig.map b8 ++ L.drop 263 := g8
  rw [List.drop_eq_nil_of_le (i := 263) (by omega), List.append_nil] at e8
  rw [← List.drop_zero (l := L), e0, e1, e2, e3, e4, e5, e6, e7, e8]
  simp [propC]
set_option maxRecDepth 100000 in
theorem open_prop {H : Type} {enc : TypeId × Value → H} {w : World} {base : Nat} {spare : Nat → Bool} {held : Bool} {r : Reach} {b0 : Nat} {v : Value} {d : DataW H} {p : List MemPlace} (hv : Value.okWide Try.prog w r b0 71 v)
    (h : DataW.Trod enc Try.prog w base spare held 71 v d p) :
    ∃ (x : PropD) (A : Option Addr) (c : Nat), v = .agg (propC x A c).toArray ∧ x.Ok ∧ Rd cI w w.heap.size A x.leaf.um := by
  obtain ⟨cs, rfl, hsz⟩ := okWide_struct Try.underlying71 hv
  obtain ⟨fuel, hf⟩ := h
  obtain ⟨L, rfl⟩ : ∃ L : List Value, cs = L.toArray := ⟨cs.toList, by simp⟩
  obtain ⟨x, A, c, e, hx, hr⟩ := prop_cells (L := L) hf
  exact ⟨x, A, c, by rw [e], hx, hr⟩
end Go.Proofs.Ytloglpamnalmeaa
