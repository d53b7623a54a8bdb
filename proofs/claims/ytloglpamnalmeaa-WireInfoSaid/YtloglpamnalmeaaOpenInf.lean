/- OPENER: an info as an argument. -/
import Derived.Test.YtloglpamnalmeaaOpenTree
import Derived.Test.YtloglpamnalmeaaInfD
namespace Go.Proofs.Ytloglpamnalmeaa
open Go.ChangeShapes Go.WideShapes Go.ChangeAt Go.RowKit
set_option linter.unusedVariables false

set_option maxRecDepth 100000 in
theorem open_info {H : Type} {enc : TypeId × Value → H} {w : World} {base : Nat} {spare : Nat → Bool} {held : Bool} {r : Reach} {b0 : Nat} {v : Value} {d : DataW H} {p : List MemPlace} (hv : Value.okWide Try.prog w r b0 64 v)
    (h : DataW.Trod enc Try.prog w base spare held 64 v d p) :
    ∃ (x : InfD) (A : Option Addr) (n c : Nat) (ts : List TN), v = .agg (infC x A n c).toArray ∧ x.Ok ∧ RdT w w.heap.size A ts ∧ ts.length = n ∧ n ≤ c ∧ c ≤ maxLen := by
  obtain ⟨cs, rfl, hsz⟩ := okWide_struct Try.underlying64 hv
  obtain ⟨fuel, hf⟩ := h
  obtain ⟨L, rfl⟩ : ∃ L : List Value, cs = L.toArray := ⟨cs.toList, by simp⟩
  obtain ⟨k, hl, hfd⟩ := field_of Try.underlying64 (cs := L) hf
  have hl163 : L.length = 163 := hl.trans (by kernel_rfl)
  obtain ⟨y0, h0⟩ := hfd 0 _ rfl
  obtain ⟨y1, h1⟩ := hfd 1 _ rfl
  obtain ⟨y2, h2⟩ := hfd 2 _ rfl
  obtain ⟨y3, h3⟩ := hfd 3 _ rfl
  obtain ⟨y4, h4⟩ := hfd 4 _ rfl
  obtain ⟨y5, h5⟩ := hfd 5 _ rfl
  obtain ⟨y6, h6⟩ := hfd 6 _ rfl
  obtain ⟨grp, hg, q0⟩ := open_barray Try.underlying23 Try.underlying5 (by kernel_rfl) (by kernel_rfl) h0
  obtain ⟨ep, q1, -, wf1⟩ := DataW.trod_int Try.underlying3 h1
  obtain ⟨A, n, c, q2⟩ := slice_cell Try.underlying55 h2
  rw [q2] at h2
  obtain ⟨ts, rt, ln, le, mx⟩ := open_nodes Try.underlying55 h2
  obtain ⟨conf, hc, q3⟩ := open_barray Try.underlying23 Try.underlying5 (by kernel_rfl) (by kernel_rfl) h3
  obtain ⟨tag, ht, q4⟩ := open_barray Try.underlying23 Try.underlying5 (by kernel_rfl) (by kernel_rfl) h4
  obtain ⟨frm, q5, -, wf5⟩ := DataW.trod_int Try.underlying3 h5
  obtain ⟨sig, hs, q6⟩ := open_barray Try.underlying62 Try.underlying5 (by kernel_rfl) (by kernel_rfl) h6
  refine ⟨⟨grp, ep, conf, tag, frm, sig⟩, A, n, c, ts, ?_, ⟨hg, hc, ht, hs, wf1, wf5⟩, rt, ln, le, mx⟩
  have g0 := piece (m := 32) q0 (by kernel_rfl)
  have g1 := piece (m := 33) q1 (by kernel_rfl)
  have g2 := piece (m := 34) q2 (by kernel_rfl)
  have g3 := piece (m := 66) q3 (by kernel_rfl)
  have g4 := piece (m := 98) q4 (by kernel_rfl)
  have g5 := piece (m := 99) q5 (by kernel_rfl)
  have g6 := piece (m := 163) q6 (by kernel_rfl)
  have e0 : L.drop 0 = grp.map b8 ++ L.drop 32 := g0
  have e1 : L.drop 32 = [.int .i64 ep] ++ L.drop 33 := g1
  have e2 : L.drop 33 = [.slice A n c] ++ L.drop 34 := g2
  have e3 : L.drop 34 = conf.map b8 ++ L.drop 66 := g3
  have e4 : L.drop 66 = tag.map b8 ++ L.drop 98 := g4
  have e5 : L.drop 98 = [.int .i64 frm] ++ L.drop 99 := g5
  have e6 : L.drop 99 = sig.map b8 ++ L.drop 163 := g6
  rw [List.drop_eq_nil_of_le (i := 163) (by omega), List.append_nil] at e6
  have e : L = infC ⟨grp, ep, conf, tag, frm, sig⟩ A n c := by
    rw [← List.drop_zero (l := L), e0, e1, e2, e3, e4, e5, e6]
    simp [infC]
  rw [e]
end Go.Proofs.Ytloglpamnalmeaa
