/- OPENER: a packet as an argument. -/
import Derived.Test.YtloglpamnalmeaaOpenS
import Derived.Test.YtloglpamnalmeaaWirePacket
namespace Go.Proofs.Ytloglpamnalmeaa
open Go.ChangeShapes Go.WideShapes Go.ChangeAt Go.RowKit
set_option linter.unusedVariables false

set_option maxRecDepth 100000 in
theorem open_packet {H : Type} {enc : TypeId × Value → H} {w : World} {base : Nat} {spare : Nat → Bool} {held : Bool} {r : Reach} {b0 : Nat} {v : Value} {d : DataW H} {p : List MemPlace} (hv : Value.okWide Try.prog w r b0 26 v)
    (h : DataW.Trod enc Try.prog w base spare held 26 v d p) :
    ∃ (sum : List (BitVec 8)) (epoch frm number : Int) (A : Option Addr) (n c : Nat) (text : List (BitVec 8)), v = .agg (packetC sum epoch frm number A n c).toArray ∧ sum.length = 32 ∧ (Lit.int .i64 epoch).wf = true ∧ (Lit.int .i64 frm).wf = true ∧ (Lit.int .i64 number).wf = true ∧
      Rd b8 w w.heap.size A text ∧ text.length = n ∧ n ≤ c ∧ c ≤ maxLen := by
  obtain ⟨cs, rfl, hsz⟩ := okWide_struct Try.underlying26 hv
  obtain ⟨fuel, hf⟩ := h
  obtain ⟨k, hl, hfd⟩ := field_of Try.underlying26 hf
  obtain ⟨L, rfl⟩ : ∃ L : List Value, cs = L.toArray := ⟨cs.toList, by simp⟩
  have hl36 : L.length = 36 := hl
  obtain ⟨y0, h0⟩ := hfd 0 _ rfl
  obtain ⟨y1, h1⟩ := hfd 1 _ rfl
  obtain ⟨y2, h2⟩ := hfd 2 _ rfl
  obtain ⟨y3, h3⟩ := hfd 3 _ rfl
  obtain ⟨y4, h4⟩ := hfd 4 _ rfl
  obtain ⟨sum, hs, q0⟩ := open_barray Try.underlying23 Try.underlying5 (by kernel_rfl) (by kernel_rfl) h0
  obtain ⟨epoch, q1, -, wf1⟩ := DataW.trod_int Try.underlying3 h1
  obtain ⟨frm, q2, -, wf2⟩ := DataW.trod_int Try.underlying3 h2
  obtain ⟨number, q3, -, wf3⟩ := DataW.trod_int Try.underlying3 h3
  obtain ⟨A, n, c, q4⟩ := slice_cell Try.underlying24 h4
  rw [q4] at h4
  obtain ⟨text, rd4, ln4, le4, mx4⟩ := open_bytes Try.underlying24 Try.underlying5 (by kernel_rfl) h4
  refine ⟨sum, epoch, frm, number, A, n, c, text, ?_, hs, wf1, wf2, wf3, rd4, ln4, le4, mx4⟩
  have g0 : List.take (Try.prog.cellsOf 23) (List.drop 0 L) = sum.map b8 := q0
  have g1 : List.take (Try.prog.cellsOf 3) (List.drop 32 L) = [.int .i64 epoch] := q1
  have g2 : List.take (Try.prog.cellsOf 3) (List.drop 33 L) = [.int .i64 frm] := q2
  have g3 : List.take (Try.prog.cellsOf 3) (List.drop 34 L) = [.int .i64 number] := q3
  have g4 : List.take (Try.prog.cellsOf 24) (List.drop 35 L) = [.slice A n c] := q4
  rw [show Try.prog.cellsOf 23 = 32 by kernel_rfl, List.drop_zero] at g0
  rw [show Try.prog.cellsOf 3 = 1 by kernel_rfl] at g1 g2 g3
  rw [show Try.prog.cellsOf 24 = 1 by kernel_rfl] at g4
  have e : L = packetC sum epoch frm number A n c := by
    unfold packetC
    rw [← g0]
    have a1 : L.drop 32 = [.int .i64 epoch, .int .i64 frm, .int .i64 number, .slice A n c] := by
      have f1 := cell_of_take g1
      have f2 := cell_of_take g2
      have f3 := cell_of_take g3
      have f4 := cell_of_take g4
      refine List.ext_getElem? fun i => ?_
      rw [List.getElem?_drop]
      match i with
      | 0 => exact f1
      | 1 => exact f2
      | 2 => exact f3
      | 3 => exact f4
      | i + 4 => rw [List.getElem?_eq_none (by omega)]; simp
    rw [← a1, List.take_append_drop]
  rw [e]
end Go.Proofs.Ytloglpamnalmeaa
