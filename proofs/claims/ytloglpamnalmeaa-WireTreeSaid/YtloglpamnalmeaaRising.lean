/- CONTRACT: wire.rising. -/
import Derived.Test.YtloglpamnalmeaaNode
namespace Go.Proofs.Ytloglpamnalmeaa
open Go.RowKit
set_option linter.unusedVariables false
set_option linter.unusedSimpArgs false

/-- do numbers rise up to place k? -/
def riseTo (l : List Int) (k : Nat) : Bool := (List.range k).all fun i => i == 0 || decide (l.getD (i - 1) 0 < l.getD i 0)
def riseB (l : List Int) : Bool := riseTo l l.length
theorem riseTo_succ (l : List Int) (k : Nat) : riseTo l (k + 1) = (riseTo l k && (k == 0 || decide (l.getD (k - 1) 0 < l.getD k 0))) := by
  unfold riseTo; rw [List.range_succ, List.all_append]; simp
theorem riseTo_le {l : List Int} : ∀ {m k : Nat}, riseTo l k = false → k ≤ m → riseTo l m = false
  | 0, k, h, hk => by obtain rfl : k = 0 := by omega
                      exact h
  | m + 1, k, h, hk => by
    by_cases e : k = m + 1
    · subst e; exact h
    · rw [riseTo_succ, riseTo_le h (by omega)]; rfl
set_option maxRecDepth 100000 in
set_option maxHeartbeats 1000000 in
theorem rising_any {w : World} {B : Nat} {A : Option Addr} {n c : Nat} {l : List Int} (hr : Rd cI w B A l) (hB : B ≤ w.heap.size) (hn : l.length = n) (hy : n ≤ 1000000) :
    Calls Try.prog 102 #[.slice A n c] w fun e w' => e = .returned (.bool (riseB l)) ∧ Below w.heap.size w w' := by
  have HR := Lib.hid hr
  have HN := Lib.hid hn
  obtain ⟨r, hrr⟩ : ∃ r, r = riseB l := ⟨_, rfl⟩
  rw [← hrr]
  have HRr := Lib.hid hrr
  clear hr hn hrr
  go_enter Try.func102, Try.ntmps102
  go_wp2_with fail
  go_loopw [3, 6] (fun cv iv wr => ∃ k : Nat, k ≤ n ∧ iv = .int .i64 (k : Int) ∧ riseTo l k = true ∧ Below w.heap.size w wr) (fun _ iv _ => n - (intOf iv).toNat)
  case atStart => exact ⟨0, by omega, rfl, rfl, Below.refl _ _⟩
  case round =>
    obtain ⟨k, hk, rfl, hrise, hb⟩ := hrel
    by_cases hlt : k < n
    · have hlt' : (k : Int) < (n : Int) := by omega
      have HRi := Lib.hid hrise
      have HB := Lib.hid hb
      by_cases hk0 : k = 0
      · subst hk0
        clear hrise hb
        go_wp2_with fail
        go_quiet (fail)
        go_wp2_with fail
        refine ⟨⟨1, by omega, rfl, ?_, below_drewN HB.out nq⟩, by show n - 1 < n - 0; omega⟩
        rw [riseTo_succ, HRi.out]; rfl
      · obtain ⟨j, rfl⟩ : ∃ j, k = j + 1 := ⟨k - 1, by omega⟩
        obtain ⟨b, off, e1, hb1, hc1⟩ := (HR.out.below (hb.mono hB)).at_ (k := j) (by rw [HN.out]; omega)
        obtain ⟨b', off', e2, hb2, hc2⟩ := (HR.out.below (hb.mono hB)).at_ (k := j + 1) (by rw [HN.out]; omega)
        subst e1
        cases e2
        obtain ⟨x, hx⟩ : ∃ x, x = l[j]'(by rw [HN.out]; omega) := ⟨_, rfl⟩
        obtain ⟨y, hy'⟩ : ∃ y, y = l[j + 1]'(by rw [HN.out]; omega) := ⟨_, rfl⟩
        rw [← hx] at hc1
        rw [← hy'] at hc2
        have d1 : wr.cell? ⟨b, off + j, none⟩ = some (.int .i64 x) := hc1
        have d2 : wr.cell? ⟨b, off + (j + 1), none⟩ = some (.int .i64 y) := hc2
        have HX := Lib.hid (show l.getD j 0 = x by rw [hx]; simp [List.getD, show j < l.length by rw [HN.out]; omega])
        have HY := Lib.hid (show l.getD (j + 1) 0 = y by rw [hy']; simp [List.getD, show j + 1 < l.length by rw [HN.out]; omega])
        clear hrise hb hc1 hc2 hx hy' hk0
        have hw1 : IntKind.i64.wrap ((j : Int) + 1 - 1) = (j : Int) := by rw [show (j : Int) + 1 - 1 = j by omega]; exact IntWalk.i64_in _ (by omega)
        have hpos : (0 : Int) < (j : Int) + 1 := by omega
        by_cases hyx : y ≤ x
        · go_wp2_with fail
          go_quiet (fail)
          go_wp2_with fail
          have e : riseB l = false := by
            unfold riseB
            refine riseTo_le (k := j + 2) ?_ (by rw [HN.out]; omega)
            rw [riseTo_succ, show j + 1 - 1 = j by omega, HX.out, HY.out, show (j + 1 == 0) = false by simp, show decide (x < y) = false by simp; omega]
            simp
          rw [HRr.out, e]
          go_ret
          exact ⟨rfl, below_drewN HB.out nq⟩
        · have hyx' : (y ≤ x) = False := by simp; omega
          go_wp2_with fail
          go_quiet (fail)
          go_wp2_with fail
          refine ⟨⟨j + 2, by omega, by congr 1, ?_, below_drewN HB.out nq⟩, by show n - (j + 1 + 1 : Int).toNat < n - ((j + 1 : Nat) : Int).toNat; omega⟩
          rw [riseTo_succ, HRi.out, show j + 1 - 1 = j by omega, HX.out, HY.out, show decide (x < y) = true by simp; omega]; simp
    · obtain rfl : k = n := by omega
      go_wp2_with fail
      go_ret
      have e : r = true := by rw [HRr.out]; unfold riseB; rw [HN.out]; exact hrise
      subst e
      exact ⟨rfl, hb⟩
end Go.Proofs.Ytloglpamnalmeaa
