/- PLAIN LEMMAS: how a struct that came in is read: arrays of bytes, fields. No conditions. -/
import Derived.Test.YtkoefhbmkmepaaaOpen
namespace Go.Proofs.Ytkoefhbmkmepaaa
open Go.ChangeShapes Go.WideShapes Go.ChangeAt Go.RowKit
theorem list_bytes : ∀ (cs : List Value), (∀ i, i < cs.length → ∃ x : BitVec 8, cs[i]? = some (b8 x)) → ∃ xs : List (BitVec 8), cs = xs.map b8
  | [], _ => ⟨[], rfl⟩
  | c :: cs, h => by
    obtain ⟨x, hx⟩ := h 0 (by simp)
    simp at hx
    obtain ⟨xs, hxs⟩ := list_bytes cs (fun i hi => by simpa using h (i + 1) (by simp; omega))
    exact ⟨x :: xs, by rw [hx, hxs]; rfl⟩
section
variable {H : Type} {enc : TypeId × Value → H} {P : Program} {w : World} {base : Nat} {spare : Nat → Bool} {held : Bool}
/-- an array of bytes, opened -/
theorem open_barray {t e : TypeId} {n fuel : Nat} {cs : List Value} {x : DataW H × List MemPlace} (ht : P.underlying t = some (.array n e)) (he : P.underlying e = some (.int .u8)) (hc : P.cellsOf e = 1) (hct : P.cellsOf t = n)
    (h : DataW.trod enc P w base spare held fuel t cs = some x) : ∃ xs : List (BitVec 8), xs.length = n ∧ cs = xs.map b8 := by
  obtain ⟨ys, m, -, -, hl, hlen, hf⟩ := DataW.trod_array ht h
  rw [hct] at hl
  obtain ⟨xs, hxs⟩ := list_bytes cs (fun i hi => by
    have h1 := hf i (by omega)
    rw [hc] at h1
    obtain ⟨y, hy⟩ : ∃ y, ys[i]? = some y := ⟨ys[i], List.getElem?_eq_getElem (by omega)⟩
    rw [hy] at h1
    obtain ⟨z, hz, -, hwf⟩ := DataW.trod_int he h1
    obtain ⟨u, rfl⟩ := byte_of hwf
    refine ⟨u, ?_⟩
    have h2 := congrArg (fun l : List Value => l[0]?) hz
    simp only [List.getElem?_take, List.getElem?_drop] at h2
    simpa [b8] using h2)
  refine ⟨xs, ?_, hxs⟩
  rw [hxs, List.length_map] at hl
  exact hl
/-- one cell of a struct -/
theorem cell_of_take {cs : List Value} {o : Nat} {v : Value} (h : (cs.drop o).take 1 = [v]) : cs[o]? = some v := by
  have h2 := congrArg (fun l : List Value => l[0]?) h
  simpa [List.getElem?_take, List.getElem?_drop] using h2
theorem slice_cell {t e : TypeId} {fuel : Nat} {cs : List Value} {x : DataW H × List MemPlace} (ht : P.underlying t = some (.slice e)) (h : DataW.trod enc P w base spare held fuel t cs = some x) : ∃ A n c, cs = [.slice A n c] := by
  cases fuel with
  | zero => simp [DataW.trod] at h
  | succ m =>
    unfold DataW.trod at h
    rw [ht] at h
    split at h <;> simp_all
theorem field_of {t : TypeId} {fs : Array Field} {fuel : Nat} {cs : List Value} {x : DataW H × List MemPlace} (ht : P.underlying t = some (.struct fs)) (h : DataW.trod enc P w base spare held fuel t cs = some x) :
    ∃ n, cs.length = P.cellsOf t ∧ ∀ (i : Nat) (f : Field), fs[i]? = some f → ∃ y, DataW.trod enc P w base spare held n f.type ((cs.drop f.offset).take (P.cellsOf f.type)) = some y := by
  obtain ⟨xs, n, -, -, hl, hlen, hf⟩ := DataW.trod_struct ht h
  refine ⟨n, hl, fun i f hi => ?_⟩
  have h1 := hf i f hi
  have hlt : i < xs.length := by rw [hlen]; exact (Array.getElem?_eq_some_iff.1 hi).1
  rw [List.getElem?_eq_getElem hlt] at h1
  exact ⟨_, h1⟩
end
end Go.Proofs.Ytkoefhbmkmepaaa
