/- PLAIN LEMMAS: how a slice of structs that came in is read. No conditions. -/
import Derived.Test.YtloglpamnalmeaaOpenS
import Derived.Test.YtloglpamnalmeaaRow
import Derived.Deep.Slices
namespace Go.Proofs.Ytloglpamnalmeaa
open Go.ChangeShapes Go.WideShapes Go.ChangeAt Go.RowKit
set_option linter.unusedVariables false
theorem flat_get {α β : Type} {f : α → List β} {K : Nat} (hK0 : 0 < K) : ∀ {xs : List α} {j : Nat} {u : β}, (∀ x ∈ xs, (f x).length = K) → (xs.flatMap f)[j]? = some u → ∃ x, xs[j / K]? = some x ∧ (f x)[j % K]? = some u
  | [], j, u, _, h => by simp at h
  | x :: xs, j, u, hK, h => by
    have hx := hK x (by simp)
    rw [List.flatMap_cons] at h
    by_cases hj : j < K
    · rw [List.getElem?_append_left (by omega)] at h
      refine ⟨x, ?_, ?_⟩
      · rw [Nat.div_eq_of_lt hj]; rfl
      · rw [Nat.mod_eq_of_lt hj]; exact h
    · rw [List.getElem?_append_right (by omega), hx] at h
      obtain ⟨y, h1, h2⟩ := flat_get hK0 (xs := xs) (fun z hz => hK z (by simp [hz])) h
      have e1 : j / K = (j - K) / K + 1 := by rw [Nat.div_eq_sub_div hK0 (by omega)]
      have e2 : j % K = (j - K) % K := Nat.mod_eq_sub_mod (by omega)
      exact ⟨y, by rw [e1]; simpa using h1, by rw [e2]; exact h2⟩
section
variable {H : Type} {enc : TypeId × Value → H} {P : Program} {w : World} {base : Nat} {spare : Nat → Bool} {held : Bool}
theorem open_rowS {α : Type} [Inhabited α] (f : α → List Value) (K : Nat) (hK0 : 0 < K) (good : α → Prop) {t e : TypeId} {fuel : Nat} {x : DataW H × List MemPlace} {A : Option Addr} {n c : Nat} (ht : P.underlying t = some (.slice e)) (hc : P.cellsOf e = K)
    (hel : ∀ (m : Nat) (L : List Value) (y : DataW H × List MemPlace), DataW.trod enc P w base spare held m e L = some y → ∃ x, L = f x ∧ (f x).length = K ∧ good x)
    (h : DataW.trod enc P w base spare held fuel t (Value.slice A n c).cells.toList = some x) :
    ∃ xs : List α, RdV w w.heap.size A (xs.flatMap f) ∧ (∀ x ∈ xs, good x) ∧ xs.length = n ∧ n ≤ c ∧ c ≤ maxLen := by
  rcases DataW.trod_slice ht h with ⟨hcs, _⟩ | ⟨a, l, cap, elems, rest, m, _, hcs, _, hb, hl, hm, hlen, hels, _, _⟩
  · simp [Value.cells] at hcs
    obtain ⟨rfl, rfl, rfl⟩ := hcs
    exact ⟨[], Rd.nil_ _ _ _ _, by simp, rfl, Nat.le_refl _, by simp [maxLen]⟩
  · simp [Value.cells] at hcs
    obtain ⟨rfl, rfl, rfl⟩ := hcs
    have each : ∀ i, i < n → ∃ x : α, (f x).length = K ∧ good x ∧ ∀ j u, (f x)[j]? = some u → w.cell? (a.add (i * K + j)) = some u := by
      intro i hi
      have h1 := hels i hi
      rw [List.getElem?_eq_getElem (by omega), hc] at h1
      obtain ⟨L, h2, h3⟩ := Option.bind_eq_some_iff.1 h1
      obtain ⟨x, rfl, hk, hg⟩ := hel _ _ _ h3
      refine ⟨x, hk, hg, fun j u hu => ?_⟩
      have hj : j < K := by have := (List.getElem?_eq_some_iff.1 hu).1; omega
      have h4 := (World.cells?_some h2).2.2 j hj
      rw [Deep.add_add] at h4
      rw [h4]; exact hu
    obtain ⟨g, hg⟩ := Deep.choose_lt each
    have hlen' : ∀ x ∈ (List.range n).map g, (f x).length = K := by
      intro x hx
      obtain ⟨i, hi, rfl⟩ := List.mem_map.1 hx
      exact (hg i (List.mem_range.1 hi)).1
    refine ⟨(List.range n).map g, fun hp => ?_, ?_, by simp, hl, hm⟩
    · rw [flat_len hlen', List.length_map, List.length_range] at hp
      have hn : 0 < n := Nat.pos_of_mul_pos_right hp
      obtain ⟨h1, -, h2⟩ := hg 0 hn
      obtain ⟨u0, hu0⟩ : ∃ u, (f (g 0))[0]? = some u := ⟨_, List.getElem?_eq_getElem (by omega)⟩
      have h0 := h2 0 u0 hu0
      obtain ⟨b, off, spot⟩ := a
      have hspot : spot = none := by simpa [Addr.add] using World.cell?_spot h0
      subst hspot
      refine ⟨b, off, rfl, lt_of_cell (a := ⟨b, off, none⟩) (by simpa [Addr.add] using h0), fun j u hu => ?_⟩
      obtain ⟨x, hx1, hx2⟩ := flat_get hK0 hlen' hu
      rw [List.getElem?_map] at hx1
      obtain ⟨i, hi, rfl⟩ := Option.map_eq_some_iff.1 hx1
      have hi2 := List.getElem?_eq_some_iff.1 hi
      obtain ⟨hi3, hi4⟩ := hi2
      rw [List.getElem_range] at hi4
      subst hi4
      rw [List.length_range] at hi3
      have h5 := (hg _ hi3).2.2 _ _ hx2
      rw [Addr.add_lit, Nat.div_add_mod' j K] at h5
      exact h5
    · intro x hx
      obtain ⟨i, hi, rfl⟩ := List.mem_map.1 hx
      exact (hg i (List.mem_range.1 hi)).2.1
end
end Go.Proofs.Ytloglpamnalmeaa
