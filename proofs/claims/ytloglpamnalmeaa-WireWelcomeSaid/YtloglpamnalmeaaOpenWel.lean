/- OPENER: a welcome as an argument. -/
import Derived.Test.YtloglpamnalmeaaOpenS
import Derived.Test.YtloglpamnalmeaaWireWelcome
namespace Go.Proofs.Ytloglpamnalmeaa
open Go.ChangeShapes Go.WideShapes Go.ChangeAt Go.RowKit
set_option linter.unusedVariables false

set_option maxRecDepth 100000 in
theorem open_welcome {H : Type} {enc : TypeId × Value → H} {w : World} {base : Nat} {spare : Nat → Bool} {held : Bool} {r : Reach} {b0 : Nat} {v : Value} {d : DataW H} {p : List MemPlace} (hv : Value.okWide Try.prog w r b0 41 v)
    (h : DataW.Trod enc Try.prog w base spare held 41 v d p) :
    ∃ (nm : Int) (A1 : Option Addr) (n1 c1 : Nat) (A2 : Option Addr) (n2 c2 : Nat) (s1 s2 : List (BitVec 8)), v = .agg (welC nm A1 n1 c1 A2 n2 c2).toArray ∧ (Lit.int .i64 nm).wf = true ∧
      Rd b8 w w.heap.size A1 s1 ∧ s1.length = n1 ∧ n1 ≤ c1 ∧ c1 ≤ maxLen ∧ Rd b8 w w.heap.size A2 s2 ∧ s2.length = n2 ∧ n2 ≤ c2 ∧ c2 ≤ maxLen := by
  obtain ⟨cs, rfl, hsz⟩ := okWide_struct Try.underlying41 hv
  obtain ⟨fuel, hf⟩ := h
  obtain ⟨k, hl, hfd⟩ := field_of Try.underlying41 hf
  obtain ⟨L, rfl⟩ : ∃ L : List Value, cs = L.toArray := ⟨cs.toList, by simp⟩
  have hl3 : L.length = 3 := hl
  obtain ⟨y0, h0⟩ := hfd 0 _ rfl
  obtain ⟨y1, h1⟩ := hfd 1 _ rfl
  obtain ⟨y2, h2⟩ := hfd 2 _ rfl
  obtain ⟨nm, q0, -, wf0⟩ := DataW.trod_int Try.underlying3 h0
  obtain ⟨A1, n1, c1, q1⟩ := slice_cell Try.underlying24 h1
  obtain ⟨A2, n2, c2, q2⟩ := slice_cell Try.underlying24 h2
  rw [q1] at h1
  rw [q2] at h2
  obtain ⟨s1, rd1, ln1, le1, mx1⟩ := open_bytes Try.underlying24 Try.underlying5 (by kernel_rfl) h1
  obtain ⟨s2, rd2, ln2, le2, mx2⟩ := open_bytes Try.underlying24 Try.underlying5 (by kernel_rfl) h2
  refine ⟨nm, A1, n1, c1, A2, n2, c2, s1, s2, ?_, wf0, rd1, ln1, le1, mx1, rd2, ln2, le2, mx2⟩
  have g0 : List.take (Try.prog.cellsOf 3) (List.drop 0 L) = [.int .i64 nm] := q0
  have g1 : List.take (Try.prog.cellsOf 24) (List.drop 1 L) = [.slice A1 n1 c1] := q1
  have g2 : List.take (Try.prog.cellsOf 24) (List.drop 2 L) = [.slice A2 n2 c2] := q2
  rw [show Try.prog.cellsOf 3 = 1 by kernel_rfl] at g0
  rw [show Try.prog.cellsOf 24 = 1 by kernel_rfl] at g1 g2
  have e : L = welC nm A1 n1 c1 A2 n2 c2 := by
    have f0 := cell_of_take g0
    have f1 := cell_of_take g1
    have f2 := cell_of_take g2
    refine List.ext_getElem? fun i => ?_
    unfold welC
    match i with
    | 0 => exact f0
    | 1 => exact f1
    | 2 => exact f2
    | i + 3 => rw [List.getElem?_eq_none (by omega)]; simp
  rw [e]
end Go.Proofs.Ytloglpamnalmeaa
