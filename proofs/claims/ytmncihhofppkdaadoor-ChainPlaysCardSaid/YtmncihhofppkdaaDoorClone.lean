/- CONTRACT: slices.Clone of bytes. -/
import Derived.Test.YtmncihhofppkdaaDoorSlices
namespace Go.Proofs.YtmncihhofppkdaaDoor
open Go.RowKit
set_option linter.unusedVariables false
set_option linter.unusedSimpArgs false

set_option maxRecDepth 100000 in
theorem clone_any (w : World) (B : Nat) (A : Option Addr) (c n : Nat) (xs : List (BitVec 8)) (hr : Rd b8 w B A xs) (hB : B ≤ w.heap.size) (hn : n = xs.length) (hA : A = none → n = 0 ∧ c = 0) (hbig : n ≤ 100000000) :
    Calls Tryd.prog 35 #[.slice A n c] w fun e w' => ∃ v, e = .returned v ∧ Own b8 w' w.heap.size 5 v xs ∧ Below w.heap.size w w' := by
  obtain ⟨i0, hi0, hz0, hz1, hz2⟩ := info_parts infoU8
  have HR := Lib.hid hr
  have HN := Lib.hid hn
  clear hr hn
  cases A with
  | none =>
    obtain ⟨rfl, rfl⟩ := hA rfl
    have HX := Lib.hid (show xs = [] from List.eq_nil_of_length_eq_zero HN.out.symm)
    have hne := fun w => Lib.run_eql_slice_nil (P := Tryd.prog) w 30 5 none 0 0 0 0 Tryd.underlying30
    go_enter Tryd.func35, Tryd.ntmps35
    go_wp2_with fail
    go_ret
    exact ⟨_, rfl, by rw [HX.out]; exact Own.nil_ _ _ _ _, Below.refl _ _⟩
  | some a =>
    clear hA
    have hne := fun w => Lib.run_eql_slice_nil (P := Tryd.prog) w 30 5 (some a) n c 0 0 Tryd.underlying30
    have HO := Lib.hid (show Own b8 (w.alloc (.cells #[] 5)) w.heap.size 5 (.slice (some ⟨w.heap.size, 0, none⟩) 0 0) [] from
      ⟨by simp, .inr ⟨w.heap.size, 0, #[], rfl, Nat.le_refl _, heap_alloc_new w _, by simp, by simp [maxLen], by simp, by simp⟩⟩)
    go_enter Tryd.func35, Tryd.ntmps35
    go_wp2_with (at_builtin; refine wpList_append_rd rfl _ _ 30 rfl b8_one w.heap.size 5 i0 _ 1 Tryd.underlying30 hi0 hz0 hz1 hz2 rfl _ _ rfl HO.out B (some a) n c xs rfl HN.out (HR.out.alloc hB _) (by have := HN.out; unfold maxLen; simp; omega) (by have := HN.out; simp; omega) (by simp) ?_; intro v7 w7 hown7 hg7 hbb7)
    go_ret
    exact ⟨_, rfl, hown7, hbb7 _ _ (Nat.le_refl _) (by (repeat' (first | assumption | exact Below.refl _ _ | refine Below.drew ?_ | refine Below.alloc ?_ ?_ _ | omega | (simp; done) | (simp; omega))))⟩
end Go.Proofs.YtmncihhofppkdaaDoor
