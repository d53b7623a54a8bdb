/- PLAIN LEMMA: how a slice of slices of bytes that came in is read. No conditions. -/
import Derived.Test.YtkoefhbmkmepaaaSlices
import Derived.Test.YtkoefhbmkmepaaaOpen
import Derived.Deep.Slices
namespace Go.Proofs.Ytkoefhbmkmepaaa
open Go.ChangeShapes Go.WideShapes Go.ChangeAt Go.RowKit
set_option linter.unusedVariables false
set_option linter.unusedSimpArgs false
section
variable {H : Type} {enc : TypeId × Value → H} {P : Program} {w : World} {base : Nat} {spare : Nat → Bool} {held : Bool}
theorem open_parts {t e e2 : TypeId} {fuel : Nat} {x : DataW H × List MemPlace} {A : Option Addr} {n c : Nat} (ht : P.underlying t = some (.slice e)) (hc : P.cellsOf e = 1) (he : P.underlying e = some (.slice e2)) (he2 : P.underlying e2 = some (.int .u8)) (hc2 : P.cellsOf e2 = 1)
    (h : DataW.trod enc P w base spare held fuel t (Value.slice A n c).cells.toList = some x) :
    ∃ ps : List Pt, Rd sl w w.heap.size A (ps.map (·.1)) ∧ (∀ u ∈ ps, Rd b8 w w.heap.size u.1.1 u.2 ∧ u.1.2.1 = u.2.length) ∧ ps.length = n ∧ n ≤ c ∧ c ≤ maxLen := by
  rcases DataW.trod_slice ht h with ⟨hcs, _⟩ | ⟨a, l, cap, elems, rest, m, _, hcs, _, hb, hl, hm, hlen, hels, _, _⟩
  · simp [Value.cells] at hcs
    obtain ⟨rfl, rfl, rfl⟩ := hcs
    exact ⟨[], Rd.nil_ _ _ _ _, by simp, rfl, Nat.le_refl _, by simp [maxLen]⟩
  · simp [Value.cells] at hcs
    obtain ⟨rfl, rfl, rfl⟩ := hcs
    have each : ∀ i, i < n → ∃ u : Pt, (Rd b8 w w.heap.size u.1.1 u.2 ∧ u.1.2.1 = u.2.length) ∧ w.cell? (a.add i) = some (sl u.1) := by
      intro i hi
      have h1 := hels i hi
      rw [List.getElem?_eq_getElem (by omega), hc] at h1
      obtain ⟨L, h2, h3⟩ := Option.bind_eq_some_iff.1 h1
      obtain ⟨A2, n2, c2, rfl⟩ : ∃ A2 n2 c2, L = (Value.slice A2 n2 c2).cells.toList := by
        rcases DataW.trod_slice he h3 with ⟨hcs, _⟩ | ⟨a2, l2, cap2, elems2, rest2, m2, _, hcs, _⟩
        · exact ⟨none, 0, 0, by rw [hcs]; rfl⟩
        · exact ⟨some a2, l2, cap2, by rw [hcs]; rfl⟩
      obtain ⟨xs, hr, hxl, -, -⟩ := open_bytes he he2 hc2 h3
      refine ⟨((A2, n2, c2), xs), ⟨hr, hxl.symm⟩, ?_⟩
      have h4 := (World.cells?_some h2).2.2 0 (by simp [Value.cells])
      rw [Deep.add_add, Nat.mul_one, Nat.add_zero] at h4
      rw [h4]; rfl
    obtain ⟨g, hg⟩ := Deep.choose_lt each
    refine ⟨(List.range n).map g, fun hp => ?_, ?_, by simp, hl, hm⟩
    · simp only [List.length_map, List.length_range] at hp
      have h0 := (hg 0 hp).2
      obtain ⟨b, off, spot⟩ := a
      have hspot : spot = none := by simpa [Addr.add] using World.cell?_spot h0
      subst hspot
      refine ⟨b, off, rfl, lt_of_cell (a := ⟨b, off, none⟩) (by simpa [Addr.add] using h0), fun j u hu => ?_⟩
      rw [List.getElem?_map, List.getElem?_map] at hu
      obtain ⟨y, hy, rfl⟩ := Option.map_eq_some_iff.1 hu
      obtain ⟨i, hi, rfl⟩ := Option.map_eq_some_iff.1 hy
      obtain ⟨hi3, hi4⟩ := List.getElem?_eq_some_iff.1 hi
      rw [List.getElem_range] at hi4
      subst hi4
      rw [List.length_range] at hi3
      have h5 := (hg _ hi3).2
      rw [Addr.add_lit] at h5
      exact h5
    · intro u hu
      obtain ⟨i, hi, rfl⟩ := List.mem_map.1 hu
      exact (hg i (List.mem_range.1 hi)).1
end
end Go.Proofs.Ytkoefhbmkmepaaa
