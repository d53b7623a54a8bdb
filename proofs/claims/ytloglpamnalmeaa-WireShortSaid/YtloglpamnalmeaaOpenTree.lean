/- OPENER: nodes as an argument. -/
import Derived.Test.YtloglpamnalmeaaBase
import Derived.Test.YtloglpamnalmeaaOpenNode
import Derived.Test.YtloglpamnalmeaaTreeD
namespace Go.Proofs.Ytloglpamnalmeaa
open Go.ChangeShapes Go.WideShapes Go.ChangeAt Go.RowKit
set_option linter.unusedVariables false

instance : Inhabited TN := ⟨⟨zNode, none, 0⟩⟩
/-- a row of nodes, read back -/
theorem open_nodes {H : Type} {enc : TypeId × Value → H} {w : World} {base : Nat} {spare : Nat → Bool} {held : Bool} {t : TypeId} {fuel : Nat} {x : DataW H × List MemPlace} {A : Option Addr} {n c : Nat} (ht : Try.prog.underlying t = some (.slice 50))
    (h : DataW.trod enc Try.prog w base spare held fuel t (Value.slice A n c).cells.toList = some x) :
    ∃ ts : List TN, RdT w w.heap.size A ts ∧ ts.length = n ∧ n ≤ c ∧ c ≤ maxLen := by
  obtain ⟨ts, hr, hg, hl, hc, hm⟩ := open_rowS (w := w) TN.cells 99 (by omega) (fun t => t.x.Ok ∧ Rd cI w w.heap.size t.A t.x.um) ht (by kernel_rfl)
    (fun m L y hy => by
      obtain ⟨x, A, c, e, hx, hr, -, -⟩ := node_cells hy
      exact ⟨⟨x, A, c⟩, e, nodeC_len hx A c, hx, hr⟩) h
  exact ⟨ts, ⟨hr, fun t ht => (hg t ht).1, fun t ht => (hg t ht).2⟩, hl, hc, hm⟩
end Go.Proofs.Ytloglpamnalmeaa
