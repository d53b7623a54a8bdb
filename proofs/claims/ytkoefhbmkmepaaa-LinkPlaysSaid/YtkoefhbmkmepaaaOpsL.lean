/- CONTRACT: burrowlaw12.large. -/
import Derived.Test.YtkoefhbmkmepaaaOpsD
import Derived.Test.YtkoefhbmkmepaaaSlc
namespace Go.Proofs.Ytkoefhbmkmepaaa
open Go.RowKit
set_option linter.unusedVariables false
set_option linter.unusedSimpArgs false

theorem infoOp : (Try.prog.info? 57).map (·.size) = some 4 := by kernel_rfl
set_option maxRecDepth 100000 in
set_option maxHeartbeats 1000000 in
theorem large12_any (w : World) (A : Option Addr) (n c : Nat) (xs : List OpD) (hr : RdV w w.heap.size A (xs.flatMap OpD.cells)) (hn : xs.length = n) :
    Calls Try.prog 24 #[.slice A n c] w fun e w' => ∃ B : Bool, e = .returned (.bool B) ∧ (B = false → n ≤ 61 ∧ ∀ x ∈ xs, x.n ≤ 300 ∨ 65536 < x.n) ∧ Below w.heap.size w w' := by
  have HR := Lib.hid hr
  have HN := Lib.hid hn
  clear hr hn
  go_enter Try.func24, Try.ntmps24
  go_wp2_with fail
  go_loopw [7] (fun i wr => ∃ k : Nat, k ≤ n ∧ i = .int .i64 (k : Int) ∧ k ≤ 61 ∧ (∀ x ∈ xs.take k, x.n ≤ 300 ∨ 65536 < x.n) ∧ Below w.heap.size w wr) (fun i _ => n - (intOf i).toNat)
  case atStart => exact ⟨0, by omega, rfl, by omega, by simp, Below.refl _ _⟩
  case round =>
    obtain ⟨k, hk, rfl, hk61, hall, hb⟩ := hrel
    have HAll := Lib.hid hall
    have HB := Lib.hid hb
    clear hall hb
    by_cases hlt : k < n
    · obtain ⟨x, hx⟩ : ∃ x, xs[k]? = some x := ⟨_, List.getElem?_eq_getElem (by rw [HN.out]; exact hlt)⟩
      obtain ⟨b, off, rfl, hbB, hra⟩ := HR.out.elem (K := 4) (fun _ _ => rfl) (by decide) hx
      have hra' : ∀ j v, x.cells[j]? = some v → wr.cell? ⟨b, off + k * 4 + j, none⟩ = some v := fun j v hv => (HB.out.cell (p := ⟨b, off + k * 4 + j, none⟩) hbB).trans (by rw [show off + k * 4 + j = off + 4 * k + j by omega]; exact hra j v hv)
      have c0 : wr.cell? ⟨b, off + k * 4, none⟩ = some (.int .i64 x.kd) := hra' 0 _ rfl
      have c1 := hra' 1 _ rfl
      have c2 := hra' 2 _ rfl
      have c3 : wr.cell? ⟨b, off + k * 4 + 3, none⟩ = some (.int .u8 (bv x.bt)) := hra' 3 _ rfl
      have HX := Lib.hid hx
      clear hra hra' hx
      obtain ⟨m, hm⟩ : ∃ m, m = x.n := ⟨_, rfl⟩
      rw [← hm] at c1
      have HM := Lib.hid hm
      clear hm
      have HB2 := Lib.hid (show Below w.heap.size w (wr.alloc (.cells #[.int .i64 x.kd, .slice x.A m x.c, .int .i64 x.num, .int .u8 (bv x.bt)] 57)) from HB.out.alloc (HB.out.size) _)
      have hstep : (m ≤ 300 ∨ 65536 < m) → k ≤ 60 → ∀ y ∈ xs.take (k + 1), y.n ≤ 300 ∨ 65536 < y.n := fun hm _ y hy => by
        have hk' : k < xs.length := by rw [HN.out]; exact hlt
        rw [List.take_succ_eq_append_getElem hk', List.mem_append, List.mem_singleton] at hy
        rcases hy with hy | hy
        · exact HAll.out y hy
        · rw [hy, (List.getElem?_eq_some_iff.1 HX.out).2, ← HM.out]; exact hm
      have HSt := Lib.hid hstep
      clear hstep
      by_cases h60 : (k : Int) > 60
      · go_wp2_with fail
        go_ret
        exact ⟨_, rfl, fun h => by simp at h, HB2.out⟩
      by_cases h300 : (m : Int) > 300
      · by_cases h16 : (m : Int) ≤ 65536
        · go_wp2_with fail
          go_ret
          first
            | exact ⟨_, rfl, fun h => by simp at h, HB2.out⟩
            | exact .inr ⟨rfl, HB2.out⟩
            | exact .inr ⟨rfl, fun h => by simp at h, HB2.out⟩
        · go_wp2_with fail
          go_roundw
          case rel => exact ⟨k + 1, by omega, by go_num, by omega, HSt.out (.inr (by omega)) (by omega), HB2.out⟩
          case measure => simp [intOf]; omega
      · go_wp2_with fail
        go_roundw
        case rel => exact ⟨k + 1, by omega, by go_num, by omega, HSt.out (.inl (by omega)) (by omega), HB2.out⟩
        case measure => simp [intOf]; omega
    · obtain rfl : k = n := by omega
      go_wp2_with fail
      go_ret
      exact ⟨_, rfl, fun _ => ⟨hk61, fun x hx => HAll.out x (by rw [List.take_of_length_le (by rw [HN.out]; exact Nat.le_refl _)]; exact hx)⟩, HB.out⟩
end Go.Proofs.Ytkoefhbmkmepaaa
