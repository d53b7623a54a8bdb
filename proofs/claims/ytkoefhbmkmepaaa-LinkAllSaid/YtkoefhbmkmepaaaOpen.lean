/- PLAIN LEMMAS: how an argument that came in is read. No conditions. -/
import Derived.Test.YtkoefhbmkmepaaaMem
import Derived.WalkKit
import Derived.ProofKit
import Derived.OpenShut
import Derived.ShutString
import Derived.ChangeOld
import Derived.Below
import Derived.Lib.SmallJoins
namespace Go.Proofs.Ytkoefhbmkmepaaa
open Go.ChangeShapes Go.WideShapes Go.ChangeAt Go.RowKit

theorem byte_of {a : Int} (h : (Lit.int .u8 a).wf = true) : ∃ x : BitVec 8, a = bv x :=
  ⟨BitVec.ofInt 8 a, by
    have hb := bounds_u8 h
    unfold bv; rw [BitVec.toNat_ofInt]; omega⟩
theorem word_of {a : Int} (h : (Lit.int .u32 a).wf = true) : ∃ x : BitVec 32, a = bv x :=
  ⟨BitVec.ofInt 32 a, by
    have hb := bounds_u32 h
    unfold bv; rw [BitVec.toNat_ofInt]; omega⟩
theorem bytes_of : ∀ (zs : List Int), (∀ n ∈ zs, (Lit.int .u8 n).wf = true) → ∃ xs : List (BitVec 8), zs = xs.map bv
  | [], _ => ⟨[], rfl⟩
  | z :: zs, h => by
    obtain ⟨x, hx⟩ := byte_of (h z (by simp))
    obtain ⟨xs, hxs⟩ := bytes_of zs (fun n hn => h n (by simp [hn]))
    exact ⟨x :: xs, by rw [hx, hxs]; rfl⟩
section
variable {H : Type} {enc : TypeId × Value → H} {P : Program} {w : World} {base : Nat} {spare : Nat → Bool} {held : Bool}
theorem lt_of_cell {w : World} {a : Addr} {v : Value} (h : w.cell? a = some v) : a.block < w.heap.size := by
  rcases Nat.lt_or_ge a.block w.heap.size with hl | hl
  · exact hl
  · simp [World.cell?, Array.getElem?_eq_none hl] at h
theorem open_row {t e : TypeId} {k : IntKind} {fuel : Nat} {x : DataW H × List MemPlace} {A : Option Addr} {n c : Nat} (ht : P.underlying t = some (.slice e)) (he : P.underlying e = some (.int k)) (hc : P.cellsOf e = 1)
    (h : DataW.trod enc P w base spare held fuel t (Value.slice A n c).cells.toList = some x) :
    ∃ zs : List Int, Rd (Value.int k) w w.heap.size A zs ∧ (∀ z ∈ zs, (Lit.int k z).wf = true) ∧ zs.length = n ∧ n ≤ c ∧ c ≤ maxLen := by
  rcases open_ints ht he hc h with ⟨hcs, _⟩ | ⟨a, l, cap, zs, hcs, _, hl, hm, hz, _, hcell, hwf⟩
  · simp [Value.cells] at hcs
    obtain ⟨rfl, rfl, rfl⟩ := hcs
    exact ⟨[], Rd.nil_ _ _ _ _, by simp, rfl, Nat.le_refl _, by simp [maxLen]⟩
  · simp [Value.cells] at hcs
    obtain ⟨rfl, rfl, rfl⟩ := hcs
    have hzl : n ≤ zs.length := by rw [hz]; split <;> omega
    refine ⟨zs.take n, fun hp => ?_, fun z hz => hwf z (List.mem_of_mem_take hz), by rw [List.length_take]; omega, hl, hm⟩
    rw [List.length_take] at hp
    have h0 := hcell 0 (by omega)
    obtain ⟨b, off, spot⟩ := a
    have hspot : spot = none := by simpa [Addr.add] using World.cell?_spot h0
    subst hspot
    refine ⟨b, off, rfl, lt_of_cell (a := ⟨b, off, none⟩) (by simpa [Addr.add] using h0), fun j u hu => ?_⟩
    rw [List.getElem?_take] at hu
    split at hu
    · have hj : j < zs.length := (List.getElem?_eq_some_iff.1 hu).1
      have := hcell j hj
      rw [Addr.add_lit] at this
      rw [this, List.getD, hu]; rfl
    · cases hu
theorem open_bytes {t e : TypeId} {fuel : Nat} {x : DataW H × List MemPlace} {A : Option Addr} {n c : Nat} (ht : P.underlying t = some (.slice e)) (he : P.underlying e = some (.int .u8)) (hc : P.cellsOf e = 1)
    (h : DataW.trod enc P w base spare held fuel t (Value.slice A n c).cells.toList = some x) :
    ∃ xs : List (BitVec 8), Rd b8 w w.heap.size A xs ∧ xs.length = n ∧ n ≤ c ∧ c ≤ maxLen := by
  obtain ⟨zs, hr, hwf, hl, hle, hm⟩ := open_row ht he hc h
  obtain ⟨xs, rfl⟩ := bytes_of zs hwf
  rw [List.length_map] at hl
  refine ⟨xs, fun hp => ?_, hl, hle, hm⟩
  obtain ⟨b, off, e1, hb, hcell⟩ := hr (by simpa using hp)
  exact ⟨b, off, e1, hb, fun j u hu => hcell j (bv u) (by rw [List.getElem?_map, hu]; rfl)⟩
end
end Go.Proofs.Ytkoefhbmkmepaaa
