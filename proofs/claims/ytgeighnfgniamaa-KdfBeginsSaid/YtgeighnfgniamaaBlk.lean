/- PLAIN LEMMAS: a block that is known whole, cell by cell ('Blk'). No program, no conditions. -/
import Derived.Test.YtgeighnfgniamaaArr
import Derived.RangeFuncBox
namespace Go.Proofs.Ytgeighnfgniamaa
open Go.RowKit

/-- block g holds just these cells -/
def Blk (w : World) (g : Nat) (T : TypeId) (cs : List Value) : Prop := w.heap[g]? = some (.cells cs.toArray T (0, 0))
section
variable {w w' : World} {g : Nat} {T : TypeId} {cs : List Value}
theorem Blk.arr (h : Blk w g T cs) : Arr (fun v : Value => v) w g T cs := by unfold Arr; rw [List.map_id']; exact h
theorem blk_arr (h : Arr (fun v : Value => v) w g T cs) : Blk w g T cs := by unfold Arr at h; rw [List.map_id'] at h; exact h
theorem Blk.lt (h : Blk w g T cs) : g < w.heap.size := h.arr.lt
theorem Blk.cell (h : Blk w g T cs) (k : Nat) {u : Value} (hk : cs[k]? = some u) : w.cell? ⟨g, k, none⟩ = some u := h.arr.at_ hk
theorem Blk.frozen (h : Blk w g T cs) (k : Nat) : w.frozen? ⟨g, k, none⟩ = false := h.arr.frozen k
theorem Blk.new (w : World) (T : TypeId) (cs : List Value) : Blk (w.alloc (.cells cs.toArray T)) w.heap.size T cs := heap_alloc_new w _
theorem Blk.at_size {w : World} (T : TypeId) (cs : List Value) {k : Nat} (h : w.heap.size = k) : Blk (w.alloc (.cells cs.toArray T)) k T cs := by subst h; exact Blk.new w T cs
theorem Blk.drewN (h : Blk w g T cs) (k : Nat) : Blk (w.drewN k) g T cs := h
theorem Blk.drew (h : Blk w g T cs) : Blk w.drew g T cs := h
theorem Blk.alloc (h : Blk w g T cs) (o : Obj) : Blk (w.alloc o) g T cs := (Below.heap_alloc w o g h.lt).trans h
theorem Blk.below {B : Nat} (h : Blk w g T cs) (hb : Below B w w') (hg : g < B) : Blk w' g T cs := (hb.block g hg).trans h
theorem Blk.grown {row : Option Nat} (h : Blk w g T cs) (hb : w.grownBy w' row) (hg : some g ≠ row) : Blk w' g T cs := (hb.block g h.lt hg).trans h
theorem Blk.set_ (h : Blk w g T cs) (k : Nat) (u : Value) : Blk (w.setCell ⟨g, k, none⟩ u) g T (cs.set k u) := blk_arr (h.arr.set_ k u)
theorem Blk.far (h : Blk w g T cs) {p : Addr} (hp : g ≠ p.block) (u : Value) : Blk (w.setCell p u) g T cs := (Below.heap_setCell w p u g hp).trans h
theorem Blk.cast {ds : List Value} (h : Blk w g T cs) (e : cs = ds) : Blk w g T ds := e ▸ h
theorem Blk.range (h : Blk w g T cs) (o n : Nat) : w.rangeAt g o ((cs.drop o).take n) := by have := h.arr.range o n; rwa [List.map_id'] at this
theorem Blk.whole (h : Blk w g T cs) : w.rangeAt g 0 cs := by have := h.arr.whole; rwa [List.map_id'] at this
theorem Blk.not_row {α : Type} {f : α → Value} {B : Nat} {e : TypeId} {v : Value} {xs : List α} (h : Blk w g T cs) (hte : T ≠ e) (hr : Own f w B e v xs) : some g ≠ v.ownBlock := by
  rcases hr.2 with ⟨rfl, _⟩ | ⟨g', cap, cur, rfl, _, hgb, _⟩
  · simp [Value.ownBlock]
  · intro e'
    obtain rfl : g = g' := by simpa [Value.ownBlock] using e'
    have : w.heap[g]? = some (.cells cs.toArray T (0, 0)) := h
    rw [this] at hgb; cases hgb; exact hte rfl
theorem grownBy_set (W : World) (b k : Nat) (v : Value) : W.grownBy (W.setCell ⟨b, k, none⟩ v) (some b) :=
  ⟨rfl, rfl, rfl, (KeepsWalks.setCell W _ v).size, fun j _ hj => Below.heap_setCell _ _ _ j (fun e => hj (by rw [e]))⟩
end
end Go.Proofs.Ytgeighnfgniamaa
