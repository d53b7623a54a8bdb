/- CONTRACT: burrowref09.NodeGood. -/
import Derived.Test.YtloglpamnalmeaaNodeW
import Derived.Test.YtloglpamnalmeaaRefN
import Derived.BigQuiet
namespace Go.Proofs.Ytloglpamnalmeaa
open Go.RowKit
set_option linter.unusedVariables false
set_option linter.unusedSimpArgs false

set_option maxRecDepth 100000 in
set_option maxHeartbeats 2000000 in
theorem nodeGood_any (x : NodeD) (hx : x.Ok) {w : World} {B' : Nat} {A : Option Addr} {c : Nat} (hr : Rd cI w B' A x.um) (hB' : B' ≤ w.heap.size) :
    Calls Try.prog 65 #[.agg (nodeC x A c).toArray] w fun e w' => e = .returned (.bool (!nodeBad x)) ∧ Below w.heap.size w w' := by
  have HX := Lib.hid hx
  have HBx := Lib.hid (show Blk (w.alloc (.cells (nodeC x A c).toArray 50)) w.heap.size 50 (nodeC x A c) from Blk.new w _ _)
  have HR := Lib.hid (hr.alloc hB' (.cells (nodeC x A c).toArray 50))
  have HB := Lib.hid ((Below.refl w.heap.size w).alloc (Nat.le_refl _) (.cells (nodeC x A c).toArray 50))
  have k1 := nodeC_name HBx.out
  have k98 := nodeC_um HBx.out hx
  obtain ⟨bo, hbo⟩ : ∃ b, b = outOf x.name 255 := ⟨_, rfl⟩
  have hin := fun W => in9_any x.name 255 W
  rw [← hbo] at hin
  have HIn := Lib.hid hin
  obtain ⟨n, hn⟩ : ∃ n, n = x.um.length := ⟨_, rfl⟩
  rw [← hn] at k98
  have HN := Lib.hid hn
  have HO := Lib.hid hbo
  have hbad : ∀ q, q = nodeBad x → q = ((!x.used && !zeroN x) || !riseB x.um || bo || outOf n 32 || out31 x.um) := by rintro q rfl; rw [hbo, hn]; rfl
  obtain ⟨q, hq⟩ : ∃ q, q = nodeBad x := ⟨_, rfl⟩
  have HQ := Lib.hid (hbad q hq)
  rw [← hq]
  clear hx hr hn hin hbo hbad hq
  go_enter Try.func65, Try.ntmps65
  go_wp2_with fail
  refine (HIn.out _).mono ?_
  rintro e w' ⟨rfl, rfl⟩
  cases bo with
  | true =>
    go_wp2_with fail
    go_ret
    refine ⟨?_, HB.out⟩
    rw [HQ.out]; simp
  | false =>
    by_cases h32 : 32 < n
    · have h32' : (32 : Int) < (n : Int) := by omega
      go_wp2_with fail
      go_ret
      refine ⟨?_, HB.out⟩
      rw [HQ.out, show outOf n 32 = true by simp [outOf, h32']]; simp
    · have h32' : ((32 : Int) < (n : Int)) = False := by simp; omega
      have HR32 := Lib.hid h32
      have hn32 : n ≤ 32 := by omega
      clear h32
      go_wp2_with fail
      go_loopw [3] (fun iv wr => ∃ k : Nat, k ≤ n ∧ iv = .int .i64 (k : Int) ∧ out31 (x.um.take k) = false ∧ riseTo x.um k = true ∧ Below (w.heap.size + 1) (w.alloc (.cells (nodeC x A c).toArray 50)) wr) (fun iv _ => n - (intOf iv).toNat)
      case atStart => exact ⟨0, by omega, rfl, rfl, rfl, Below.refl _ _⟩
      case round =>
        obtain ⟨k, hk, rfl, ho, hrise, hb⟩ := hrel
        have HBr := Lib.hid hb
        have HOk := Lib.hid ho
        have HRk := Lib.hid hrise
        have HBxr := Lib.hid (HBx.out.below hb (by omega))
        clear k1 k98
        have k98 := nodeC_um HBxr.out HX.out
        rw [← HN.out] at k98
        clear hb ho hrise
        by_cases hlt : k < n
        · have hlt' : (k : Int) < (n : Int) := by omega
          obtain ⟨b, off, e1, hbb, hc1⟩ := (HR.out.below (HBr.out.mono (by omega))).at_ (k := k) (by rw [← HN.out]; omega)
          subst e1
          obtain ⟨z, hz⟩ : ∃ z, z = x.um[k]'(by rw [← HN.out]; omega) := ⟨_, rfl⟩
          rw [← hz] at hc1
          have d1 : wr.cell? ⟨b, off + k, none⟩ = some (.int .i64 z) := hc1
          have hzk : x.um[k]? = some z := by rw [hz]; exact List.getElem?_eq_getElem _
          have HZ := Lib.hid hzk
          obtain ⟨bz, hbz⟩ : ∃ bz, bz = outOf z 31 := ⟨_, rfl⟩
          have hin := fun W => in9_any z 31 W
          rw [← hbz] at hin
          have HInz := Lib.hid hin
          have HBz := Lib.hid hbz
          clear hc1 hz hzk hin hbz
          have HW := Lib.hid (show Below w.heap.size w wr from HB.out.trans (HBr.out.mono (by omega)))
          cases bz with
          | true =>
            go_wp2_with fail
            go_quiet (first | (go_at_call 54; exact Calls.quiet_of_same ((HInz.out _).mono fun _ _ h => ⟨h.1, h.2.symm⟩)))
            go_wp2_with fail
            go_ret
            refine ⟨?_, below_drewN HW.out _⟩
            have e := out31_take x.um (k + 1) (by rw [out31_succ x.um k z HZ.out, ← HBz.out]; simp)
            rw [HQ.out, e]; simp
          | false =>
            have HO1 := Lib.hid (show out31 (x.um.take (k + 1)) = false by rw [out31_succ x.um k z HZ.out, ← HBz.out, HOk.out]; rfl)
            by_cases hk0 : k = 0
            · subst hk0
              have d0 : wr.cell? ⟨b, off, none⟩ = some (.int .i64 z) := d1
              go_wp2_with fail
              go_quiet (first | (go_at_call 54; exact Calls.quiet_of_same ((HInz.out _).mono fun _ _ h => ⟨h.1, h.2.symm⟩)))
              go_wp2_with fail
              refine ⟨⟨1, by omega, rfl, HO1.out, ?_, below_drewN HBr.out _⟩, by show n - 1 < n - 0; omega⟩
              rw [riseTo_succ, HRk.out]; rfl
            · obtain ⟨j, rfl⟩ : ∃ j, k = j + 1 := ⟨k - 1, by omega⟩
              obtain ⟨b', off', e2, hb2, hc2⟩ := (HR.out.below (HBr.out.mono (by omega))).at_ (k := j) (by rw [← HN.out]; omega)
              cases e2
              obtain ⟨y, hy'⟩ : ∃ y, y = x.um[j]'(by rw [← HN.out]; omega) := ⟨_, rfl⟩
              rw [← hy'] at hc2
              have d2 : wr.cell? ⟨b, off + j, none⟩ = some (.int .i64 y) := hc2
              have HY := Lib.hid (show x.um.getD j 0 = y by rw [hy']; simp [List.getD, show j < x.um.length by rw [← HN.out]; omega])
              have HZ' := Lib.hid (show x.um.getD (j + 1) 0 = z by simp [List.getD, HZ.out])
              clear hc2 hy' hk0
              have hw1 : IntKind.i64.wrap ((j : Int) + 1 - 1) = (j : Int) := by rw [show (j : Int) + 1 - 1 = j by omega]; exact IntWalk.i64_in _ (by omega)
              have hpos : (0 : Int) < (j : Int) + 1 := by omega
              have hw2 : IntKind.i64.wrap ((j : Int) + 1 + 1) = (j : Int) + 1 + 1 := IntWalk.i64_in _ (by omega)
              by_cases hyx : z ≤ y
              · go_wp2_with fail
                go_quiet (first | (go_at_call 54; exact Calls.quiet_of_same ((HInz.out _).mono fun _ _ h => ⟨h.1, h.2.symm⟩)))
                go_wp2_with fail
                go_ret
                refine ⟨?_, below_drewN HW.out _⟩
                have e : riseB x.um = false := by
                  unfold riseB
                  refine riseTo_le (k := j + 2) ?_ (by rw [← HN.out]; omega)
                  rw [riseTo_succ, show j + 1 - 1 = j by omega, HZ'.out, HY.out, show (j + 1 == 0) = false by simp, show decide (y < z) = false by simp; omega]
                  simp
                rw [HQ.out, e]; simp
              · have hyx' : (z ≤ y) = False := by simp; omega
                go_wp2_with fail
                go_quiet (first | (go_at_call 54; exact Calls.quiet_of_same ((HInz.out _).mono fun _ _ h => ⟨h.1, h.2.symm⟩)))
                go_wp2_with fail
                refine ⟨⟨j + 2, by omega, by congr 1, HO1.out, ?_, below_drewN HBr.out _⟩, by show n - (j + 1 + 1 : Int).toNat < n - ((j + 1 : Nat) : Int).toNat; omega⟩
                rw [riseTo_succ, HRk.out, show j + 1 - 1 = j by omega, HZ'.out, HY.out, show decide (y < z) = true by simp; omega]; simp
        · obtain rfl : k = n := by omega
          have k0 := nodeC_used HBxr.out
          have et : x.um.take k = x.um := List.take_of_length_le (by rw [← HN.out]; omega)
          have e31 : out31 x.um = false := by have := HOk.out; rwa [et] at this
          have eR : riseB x.um = true := by unfold riseB; rw [← HN.out]; exact HRk.out
          have e32 : outOf k 32 = false := by have := HR32.out; simp [outOf]; omega
          have HQ2 := Lib.hid (show q = (!x.used && !zeroN x) by rw [HQ.out, e31, eR, e32]; simp)
          have HW := Lib.hid (show Below w.heap.size w wr from HB.out.trans (HBr.out.mono (by omega)))
          obtain ⟨u, hu⟩ : ∃ u, u = x.used := ⟨_, rfl⟩
          obtain ⟨z, hz⟩ : ∃ z, z = zeroN x := ⟨_, rfl⟩
          have HZe := Lib.hid (fun W => zero9_any x HX.out A c W)
          rw [← hz] at HZe HQ2
          rw [← hu] at k0 HQ2
          clear hu hz et e31 eR e32
          cases u with
          | true =>
            go_wp2_with fail
            go_ret
            refine ⟨?_, HW.out⟩
            rw [HQ2.out]; rfl
          | false =>
            go_wp2_with (refine wpList_load_midw (by first | rfl | go_simp) 50 (.tmp 1) rfl w.heap.size 0 rfl (nodeC x A c) _ (nodeC_whole HBxr.out HX.out) Try.underlying50 rfl (by rw [nodeC_len HX.out]; exact infoNode) ?_)
            refine (HZe.out _).mono ?_
            rintro e w1 ⟨rfl, hb1⟩
            go_wp2_with fail
            go_ret
            refine ⟨?_, HW.out.trans (hb1.mono HW.out.size)⟩
            rw [HQ2.out]; simp
end Go.Proofs.Ytloglpamnalmeaa
