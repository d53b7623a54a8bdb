/- CONTRACT: slices.Concat of a literal of slices just made. -/
import Derived.Test.YtmncihhofppkdaaDoorSlices
namespace Go.Proofs.YtmncihhofppkdaaDoor
open Go.RowKit
set_option linter.unusedVariables false
set_option linter.unusedSimpArgs false

theorem pts_new (W : World) (B : Nat) (ps : List Pt) (hr : ∀ u ∈ ps, Rd b8 W B u.1.1 u.2) (hl : ∀ u ∈ ps, u.1.2.1 = u.2.length) (hB : B ≤ W.heap.size) : Pts (W.alloc (.cells (ps.map fun u => sl u.1).toArray 30)) B W.heap.size 0 ps :=
  ⟨fun k u hu => by
    rw [Nat.zero_add, cell_of_row _ W.heap.size k _ 30 (0, 0) (heap_alloc_new W _)]
    simp [hu], by simp, fun u hu => (hr u hu).alloc hB _, hl⟩
/-- two slices put together -/
theorem concat_two (W : World) (B m1 d1 m2 d2 : Nat) (C1 C2 : Option Addr) (xs ys : List (BitVec 8)) (hr1 : Rd b8 W B C1 xs) (hr2 : Rd b8 W B C2 ys) (hB : B ≤ W.heap.size) (hm1 : m1 = xs.length) (hm2 : m2 = ys.length) (htot : xs.length + ys.length ≤ 40000000) :
    Calls Tryd.prog 63 #[.slice (some ⟨W.heap.size, 0, none⟩) 2 2] (W.alloc (.cells #[.slice C1 m1 d1, .slice C2 m2 d2] 30)) fun e w' => ∃ v, e = .returned v ∧ Own b8 w' (W.heap.size + 1) 5 v (xs ++ ys) ∧ Below W.heap.size W w' := by
  refine (concat_any _ B W.heap.size 0 2 2 _ (pts_new W B [((C1, m1, d1), xs), ((C2, m2, d2), ys)] (by simpa using ⟨hr1, hr2⟩) (by simpa using ⟨hm1, hm2⟩) hB) (by simp; omega) rfl (by omega) (by simp; omega)).mono ?_
  rintro e w' ⟨v, rfl, ho, hb⟩
  refine ⟨v, rfl, ?_, ((Below.refl _ W).alloc (Nat.le_refl _) _).trans (hb.mono (by simp))⟩
  rw [World.size_alloc] at ho
  exact ho.cast (by simp)
/-- a literal of slices in its block -/
def PAs (w : World) (g : Nat) (ss : List Sl) : Prop := w.heap[g]? = some (.cells (ss.map sl).toArray 30 (0, 0))
theorem bel_al {w w' : World} {o : Obj} (h : Below w.heap.size w w') : Below w.heap.size w (w'.alloc o) := h.alloc h.size o
theorem bel_dr {w w' : World} (h : Below w.heap.size w w') : Below w.heap.size w w'.drew := h.drew
theorem PAs.lt {w : World} {g : Nat} {ss : List Sl} (h : PAs w g ss) : g < w.heap.size := (Array.getElem?_eq_some_iff.1 h).1
theorem pas_new {w : World} {g : Nat} {ss : List Sl} {cs : Array Value} (hg : g = w.heap.size) (hc : cs = (ss.map sl).toArray) : PAs (w.alloc (.cells cs 30)) g ss := by subst hg hc; exact heap_alloc_new w _
theorem pas_al {w : World} {g : Nat} {ss : List Sl} {o : Obj} (h : PAs w g ss) : PAs (w.alloc o) g ss := (Below.heap_alloc w o g h.lt).trans h
theorem pas_dr {w : World} {g : Nat} {ss : List Sl} (h : PAs w g ss) : PAs w.drew g ss := h
theorem pas_bel {w w' : World} {g : Nat} {ss : List Sl} (hb : Below w.heap.size w w') (h : PAs w g ss) : PAs w' g ss := (hb.block g h.lt).trans h
theorem pts_pas {w : World} {B g : Nat} {ps : List Pt} (h : PAs w g (ps.map (·.1))) (hr : ∀ u ∈ ps, Rd b8 w B u.1.1 u.2) (hl : ∀ u ∈ ps, u.1.2.1 = u.2.length) : Pts w B g 0 ps :=
  ⟨fun k u hu => by
    have h2 : w.heap[g]? = some (.cells (((ps.map (·.1)).map sl).toArray) 30 (0, 0)) := h
    rw [Nat.zero_add, cell_of_row _ g k _ 30 (0, 0) h2]
    simp [hu], h.lt, hr, hl⟩
end Go.Proofs.YtmncihhofppkdaaDoor
