/- OPENER: the lengths of a Sealed's parts are within the form's own reach. -/
import Derived.Test.YtgcpjmmiciehmaaOpenSeal
import Derived.SizedLaws
namespace Go.Proofs.Ytgcpjmmiciehmaa
open Go.RowKit Go.ChangeShapes Go.WideShapes Go.ChangeAt
set_option linter.unusedVariables false
set_option linter.unusedSimpArgs false

theorem bytesU8 : Try.prog.bytesOf 5 = 1 := by kernel_rfl
theorem weigh_bytes {H : Type} {enc : TypeId × Value → H} {w : World} {base : Nat} {spare : Nat → Bool} {held : Bool} {fuel : Nat} {A : Option Addr} {n c : Nat} {x : DataW H × List MemPlace}
    (h : DataW.trod enc Try.prog w base spare held fuel 22 [.slice A n c] = some x) (hw : ∀ k ∈ x.1.weights Try.prog 22, k ≤ reachBytes) : n ≤ 140737488351232 := by
  rcases DataW.trod_slice Try.underlying22 h with ⟨e, -⟩ | ⟨a, len, cap, elems, rest, n', -, e, hx, -, -, -, hl, -⟩
  · cases e; omega
  · cases e
    have h1 := hw ((elems.length + rest.length) * Try.prog.bytesOf 5) (by rw [hx]; simp [DataW.weights, Try.underlying22])
    rw [bytesU8] at h1
    unfold reachBytes at h1
    omega
set_option maxRecDepth 100000 in
theorem sealed_sizes {H : Type} {enc : TypeId × Value → H} {w : World} {base : Nat} {spare : Nat → Bool} {held : Bool} {D : DataW H} {p : List MemPlace} {key : List (BitVec 8)} {A : Option Addr} {n c : Nat} {C : Option Addr} {l cc : Nat} {T : Option Addr} {m d : Nat} (hk : key.length = 32)
    (h : DataW.Trod enc Try.prog w base spare held 65 (.agg (sealedC key A n c C l cc T m d).toArray) D p) (hw : ∀ k ∈ D.weights Try.prog 65, k ≤ reachBytes) :
    n ≤ 140737488351232 ∧ l ≤ 140737488351232 ∧ m ≤ 140737488351232 := by
  obtain ⟨fuel, hf⟩ := h
  obtain ⟨y0, y1, y2, y3, k, hx, hl, h0, h1, h2, h3⟩ := Joins.trod_struct4 Try.underlying65 hf
  have hD : D = .agg [y0.1, y1.1, y2.1, y3.1] := congrArg Prod.fst hx
  subst hD
  have e1 : List.take (Try.prog.cellsOf 22) (List.drop 32 (sealedC key A n c C l cc T m d)) = [.slice A n c] := by
    rw [show Try.prog.cellsOf 22 = 1 by kernel_rfl]; unfold sealedC; rw [List.drop_append_of_le_length (by simp [hk]), List.drop_of_length_le (by simp [hk])]; rfl
  have e2 : List.take (Try.prog.cellsOf 22) (List.drop 33 (sealedC key A n c C l cc T m d)) = [.slice C l cc] := by
    rw [show Try.prog.cellsOf 22 = 1 by kernel_rfl]; unfold sealedC; rw [show 33 = (key.map b8).length + 1 by simp [hk], List.drop_append, List.drop_of_length_le (by omega), Nat.add_sub_cancel_left]; rfl
  have e3 : List.take (Try.prog.cellsOf 22) (List.drop 34 (sealedC key A n c C l cc T m d)) = [.slice T m d] := by
    rw [show Try.prog.cellsOf 22 = 1 by kernel_rfl]; unfold sealedC; rw [show 34 = (key.map b8).length + 2 by simp [hk], List.drop_append, List.drop_of_length_le (by omega), Nat.add_sub_cancel_left]; rfl
  have hwe : ∀ k ∈ DataW.weightsEach Try.prog [38, 22, 22, 22] [y0.1, y1.1, y2.1, y3.1], k ≤ reachBytes := fun k hk => hw k (by
    simp only [DataW.weights, Try.underlying65]
    exact hk)
  refine ⟨weigh_bytes (x := y1) (by rw [← e1]; exact h1) (fun k hk => hwe k (DataW.weights_mem_each (j := 1) rfl rfl k hk)), weigh_bytes (x := y2) (by rw [← e2]; exact h2) (fun k hk => hwe k (DataW.weights_mem_each (j := 2) rfl rfl k hk)), weigh_bytes (x := y3) (by rw [← e3]; exact h3) (fun k hk => hwe k (DataW.weights_mem_each (j := 3) rfl rfl k hk))⟩
end Go.Proofs.Ytgcpjmmiciehmaa
