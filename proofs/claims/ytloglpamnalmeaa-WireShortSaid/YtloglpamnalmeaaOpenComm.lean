/- OPENER: a commit as an argument. -/
import Derived.Test.YtloglpamnalmeaaOpenTree
import Derived.Test.YtloglpamnalmeaaOpenProp
import Derived.Test.YtloglpamnalmeaaWireComm
namespace Go.Proofs.Ytloglpamnalmeaa
open Go.ChangeShapes Go.WideShapes Go.ChangeAt Go.RowKit
set_option linter.unusedVariables false

instance : Inhabited RowT := ⟨⟨[], none, 0⟩⟩
instance : Inhabited StepT := ⟨⟨[], [], none, 0⟩⟩
instance : Inhabited PropT := ⟨⟨zProp, none, 0⟩⟩
section
variable {H : Type} {enc : TypeId × Value → H} {w : World} {base : Nat} {spare : Nat → Bool} {held : Bool}
theorem row_cells {m : Nat} {L : List Value} {y : DataW H × List MemPlace} (h : DataW.trod enc Try.prog w base spare held m 24 L = some y) :
    ∃ r : RowT, L = r.cells ∧ r.cells.length = 1 ∧ (Rd b8 w w.heap.size r.A r.xs ∧ r.xs.length ≤ 9223372036854775807) := by
  obtain ⟨A, n, c, rfl⟩ := slice_cell Try.underlying24 h
  obtain ⟨xs, hr, hl, hc, hm⟩ := open_bytes Try.underlying24 Try.underlying5 (by kernel_rfl) (A := A) (n := n) (c := c) h
  refine ⟨⟨xs, A, c⟩, ?_, rfl, hr, ?_⟩
  · unfold RowT.cells RowT.cell; rw [hl]
  · simp only [maxLen] at hm; show xs.length ≤ _; omega
theorem open_rows {t : TypeId} {fuel : Nat} {x : DataW H × List MemPlace} {A : Option Addr} {n c : Nat} (ht : Try.prog.underlying t = some (.slice 24))
    (h : DataW.trod enc Try.prog w base spare held fuel t (Value.slice A n c).cells.toList = some x) : ∃ rs : List RowT, RdR w w.heap.size A rs ∧ rs.length = n ∧ n ≤ c ∧ c ≤ maxLen := by
  obtain ⟨rs, hr, hg, hl, hc, hm⟩ := open_rowS (w := w) RowT.cells 1 (by omega) (fun r => Rd b8 w w.heap.size r.A r.xs ∧ r.xs.length ≤ 9223372036854775807) ht (by kernel_rfl) (fun m L y hy => row_cells hy) h
  exact ⟨rs, ⟨hr, hg⟩, hl, hc, hm⟩
set_option maxRecDepth 100000 in
theorem step_cells {fuel : Nat} {L : List Value} {x : DataW H × List MemPlace} (hf : DataW.trod enc Try.prog w base spare held fuel 144 L = some x) :
    ∃ t : StepT, L = t.cells ∧ t.cells.length = 33 ∧ ElS w w.heap.size t := by
  obtain ⟨k, hl, hfd⟩ := field_of Try.underlying144 hf
  have hl33 : L.length = 33 := hl.trans (by kernel_rfl)
  obtain ⟨y0, h0⟩ := hfd 0 _ rfl
  obtain ⟨y1, h1⟩ := hfd 1 _ rfl
  obtain ⟨key, hk, q0⟩ := open_barray Try.underlying47 Try.underlying5 (by kernel_rfl) (by kernel_rfl) h0
  obtain ⟨A, n, c, q1⟩ := slice_cell Try.underlying142 h1
  rw [q1] at h1
  obtain ⟨rs, hr, ln, le, mx⟩ := open_rows Try.underlying142 h1
  have hL : L = StepT.cells ⟨key, rs, A, c⟩ := by
    have g0 := piece (m := 32) q0 (by kernel_rfl)
    have g1 := piece (m := 33) q1 (by kernel_rfl)
    have e0 : L.drop 0 = key.map b8 ++ L.drop 32 := g0
    have e1 : L.drop 32 = [.slice A n c] ++ L.drop 33 := g1
    rw [List.drop_eq_nil_of_le (i := 33) (by omega), List.append_nil] at e1
    rw [← List.drop_zero (l := L), e0, e1]
    unfold StepT.cells
    rw [ln]
  exact ⟨⟨key, rs, A, c⟩, hL, stepC_len hk, ⟨hk, hr, by simp only [maxLen] at mx; show rs.length ≤ _; omega⟩⟩
set_option maxRecDepth 100000 in
theorem path_cells {fuel : Nat} {L : List Value} {x : DataW H × List MemPlace} (hf : DataW.trod enc Try.prog w base spare held fuel 80 L = some x) :
    ∃ p : PathT, L = p.cells ∧ p.leaf.Ok ∧ Rd cI w w.heap.size p.A p.leaf.um ∧ RdS w w.heap.size p.As p.steps ∧ p.steps.length ≤ 9223372036854775807 := by
  obtain ⟨k, hl, hfd⟩ := field_of Try.underlying80 hf
  have hl100 : L.length = 100 := hl.trans (by kernel_rfl)
  obtain ⟨y0, h0⟩ := hfd 0 _ rfl
  obtain ⟨y1, h1⟩ := hfd 1 _ rfl
  obtain ⟨leaf, A, c, q0, hlf, rd, -, -⟩ := node_cells h0
  obtain ⟨As, n, cs, q1⟩ := slice_cell Try.underlying78 h1
  rw [q1] at h1
  obtain ⟨ss, hr, hg, ln, le, mx⟩ := open_rowS (w := w) StepT.cells 33 (by omega) (fun t => ElS w w.heap.size t) Try.underlying78 (by kernel_rfl) (fun m L y hy => step_cells hy) h1
  refine ⟨⟨leaf, A, c, ss, As, cs⟩, ?_, hlf, rd, ⟨hr, hg⟩, by simp only [maxLen] at mx; show ss.length ≤ _; omega⟩
  have g0 := piece (m := 99) q0 (by kernel_rfl)
  have g1 := piece (m := 100) q1 (by kernel_rfl)
  have e0 : L.drop 0 = nodeC leaf A c ++ L.drop 99 := g0
  have e1 : L.drop 99 = [.slice As n cs] ++ L.drop 100 := g1
  rw [List.drop_eq_nil_of_le (i := 100) (by omega), List.append_nil] at e1
  rw [← List.drop_zero (l := L), e0, e1]
  unfold PathT.cells
  rw [ln]
set_option maxRecDepth 100000 in
theorem comm_cells {fuel : Nat} {L : List Value} {x : DataW H × List MemPlace} (hf : DataW.trod enc Try.prog w base spare held fuel 82 L = some x) :
    ∃ x : CommT, L = commC x ∧ RdC0 w w.heap.size x := by
  obtain ⟨k, hl, hfd⟩ := field_of Try.underlying82 hf
  have hl263 : L.length = 263 := hl.trans (by kernel_rfl)
  obtain ⟨y0, h0⟩ := hfd 0 _ rfl
  obtain ⟨y1, h1⟩ := hfd 1 _ rfl
  obtain ⟨y2, h2⟩ := hfd 2 _ rfl
  obtain ⟨y3, h3⟩ := hfd 3 _ rfl
  obtain ⟨y4, h4⟩ := hfd 4 _ rfl
  obtain ⟨y5, h5⟩ := hfd 5 _ rfl
  obtain ⟨y6, h6⟩ := hfd 6 _ rfl
  obtain ⟨y7, h7⟩ := hfd 7 _ rfl
  obtain ⟨grp, hg, q0⟩ := open_barray Try.underlying23 Try.underlying5 (by kernel_rfl) (by kernel_rfl) h0
  obtain ⟨ep, q1, -, wf1⟩ := DataW.trod_int Try.underlying3 h1
  obtain ⟨frm, q2, -, wf2⟩ := DataW.trod_int Try.underlying3 h2
  obtain ⟨bas, hb, q3⟩ := open_barray Try.underlying23 Try.underlying5 (by kernel_rfl) (by kernel_rfl) h3
  obtain ⟨Ap, n, cp, q4⟩ := slice_cell Try.underlying77 h4
  rw [q4] at h4
  obtain ⟨ts, hr, hgd, ln, le, mx⟩ := open_rowS (w := w) PropT.cells 263 (by omega) (fun t => ElP0 w w.heap.size t) Try.underlying77 (by kernel_rfl)
    (fun m L y hy => by
      obtain ⟨x, A, c, e, hx, hr⟩ := prop_cells hy
      exact ⟨⟨x, A, c⟩, e, propC_len hx A c, hx, hr⟩) h4
  obtain ⟨p, q5, hlf, hum, hst, hsl⟩ := path_cells h5
  obtain ⟨tag, ht, q6⟩ := open_barray Try.underlying23 Try.underlying5 (by kernel_rfl) (by kernel_rfl) h6
  obtain ⟨sig, hs, q7⟩ := open_barray Try.underlying62 Try.underlying5 (by kernel_rfl) (by kernel_rfl) h7
  refine ⟨⟨grp, ep, frm, bas, ts, Ap, cp, p, tag, sig⟩, ?_, ⟨⟨hg, hb, ht, hs, hlf⟩, wf1, wf2, hr, hgd, by simp only [maxLen] at mx; show ts.length ≤ _; omega, hum, hst, hsl⟩⟩
  have g0 := piece (m := 32) q0 (by kernel_rfl)
  have g1 := piece (m := 33) q1 (by kernel_rfl)
  have g2 := piece (m := 34) q2 (by kernel_rfl)
  have g3 := piece (m := 66) q3 (by kernel_rfl)
  have g4 := piece (m := 67) q4 (by kernel_rfl)
  have g5 := piece (m := 167) q5 (by kernel_rfl)
  have g6 := piece (m := 199) q6 (by kernel_rfl)
  have g7 := piece (m := 263) q7 (by kernel_rfl)
  have e0 : L.drop 0 = grp.map b8 ++ L.drop 32 := g0
  have e1 : L.drop 32 = [.int .i64 ep] ++ L.drop 33 := g1
  have e2 : L.drop 33 = [.int .i64 frm] ++ L.drop 34 := g2
  have e3 : L.drop 34 = bas.map b8 ++ L.drop 66 := g3
  have e4 : L.drop 66 = [.slice Ap n cp] ++ L.drop 67 := g4
  have e5 : L.drop 67 = p.cells ++ L.drop 167 := g5
  have e6 : L.drop 167 = tag.map b8 ++ L.drop 199 := g6
  have e7 : L.drop 199 = sig.map b8 ++ L.drop 263 := g7
  rw [List.drop_eq_nil_of_le (i := 263) (by omega), List.append_nil] at e7
  rw [← List.drop_zero (l := L), e0, e1, e2, e3, e4, e5, e6, e7]
  simp [commC, ln]
set_option maxRecDepth 100000 in
theorem open_comm {r : Reach} {b0 : Nat} {v : Value} {d : DataW H} {p : List MemPlace} (hv : Value.okWide Try.prog w r b0 82 v)
    (h : DataW.Trod enc Try.prog w base spare held 82 v d p) :
    ∃ x : CommT, v = .agg (commC x).toArray ∧ RdC0 w w.heap.size x := by
  obtain ⟨cs, rfl, hsz⟩ := okWide_struct Try.underlying82 hv
  obtain ⟨fuel, hf⟩ := h
  obtain ⟨L, rfl⟩ : ∃ L : List Value, cs = L.toArray := ⟨cs.toList, by simp⟩
  obtain ⟨x, e, hx⟩ := comm_cells (L := L) hf
  exact ⟨x, by rw [e], hx⟩
end
end Go.Proofs.Ytloglpamnalmeaa
