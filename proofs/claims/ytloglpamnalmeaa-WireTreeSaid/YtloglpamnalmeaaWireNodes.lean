/- WireNodes, the walk. -/
import Derived.Test.YtloglpamnalmeaaPutNode
import Derived.Test.YtloglpamnalmeaaWireAlive
namespace Go.Proofs.Ytloglpamnalmeaa
open Go.RowKit
set_option linter.unusedVariables false
set_option linter.unusedSimpArgs false

set_option maxRecDepth 100000 in
set_option maxHeartbeats 2000000 in
theorem wireNodes_walk (x : NodeD) (hx : x.Ok) (A : Option Addr) (c : Nat) (w : World) (hr : Rd cI w w.heap.size A x.um) :
    Calls Try.prog 5 #[.agg (nodeC x A c).toArray] w fun e w' => e = .returned (.bool true) ∧ Below w.heap.size w w' := by
  have HX := Lib.hid hx
  have HR := Lib.hid hr
  have HBx := Lib.hid (show Blk (w.alloc (.cells (nodeC x A c).toArray 50)) w.heap.size 50 (nodeC x A c) from Blk.new w _ _)
  have HB0 := Lib.hid ((Below.refl w.heap.size w).alloc (Nat.le_refl _) (.cells (nodeC x A c).toArray 50))
  have hz0 := World.size_alloc w (.cells (nodeC x A c).toArray 50)
  have HL := Lib.hid (fun W => lawNode_any x hx A c W)
  by_cases hbig : x.um.length < 100
  · have hput := fun W1 (hb : Below w.heap.size w W1) => putNode_any x hx (c := c) (hr.below hb) hb.size (by omega)
    have href := fun W1 (hb : Below w.heap.size w W1) => refPutNode_any x hx (c := c) (hr.below hb) hb.size (by omega)
    obtain ⟨q, hq⟩ : ∃ q, q = nodeBad x := ⟨_, rfl⟩
    simp only [← hq] at hput href
    have HLen := Lib.hid (nodeB_len hx)
    rw [show decide ((x.um.length : Int) < 100) = true by simp; omega] at HL
    have hy : x.um.length < 100 := hbig
    clear hbig
    cases q with
    | true =>
      simp only [reduceIte] at hput
      rw [errV_pos (by simp)] at hput
      simp only [reduceIte, Bool.not_true] at href
      have HPut := Lib.hid hput
      have HRef := Lib.hid href
      have HQ := Lib.hid hq
      clear hx hr hput href hq
      go_enter Try.func5, Try.ntmps5
      go_wp2_with fail
      generalize World.alloc w _ = W0 at HBx HB0 hz0 ⊢
      have hz0' : w.heap.size + 1 ≤ W0.heap.size := by omega
      clear hz0
      refine (alive09_any _).mono ?_
      rintro e w1 ⟨rfl, hb1⟩
      have hz1 : W0.heap.size ≤ w1.heap.size := hb1.size
      have HBx1 := Lib.hid (HBx.out.below hb1 (by omega))
      have HB1 := Lib.hid (HB0.out.trans (hb1.mono (by omega)))
      clear hb1 HBx HB0
      go_wp2_with (refine wpList_load_mid rfl 50 (.tmp 1) rfl w.heap.size 0 rfl (nodeC x A c) _ (nodeC_whole HBx1.out HX.out) Try.underlying50 rfl (by rw [nodeC_len HX.out]; exact infoNode) ?_)
      refine (HL.out _).mono ?_
      rintro e w2 ⟨rfl, hb2⟩
      have hz2 : w1.heap.size ≤ w2.heap.size := hb2.size
      have HBx2 := Lib.hid (HBx1.out.below hb2 (by omega))
      have HB2 := Lib.hid (HB1.out.trans (hb2.mono (by omega)))
      clear hb2 HBx1
      go_wp2_with (refine wpList_load_mid rfl 50 (.tmp 1) rfl w.heap.size 0 rfl (nodeC x A c) _ (nodeC_whole HBx2.out HX.out) Try.underlying50 rfl (by rw [nodeC_len HX.out]; exact infoNode) ?_)
      refine (HPut.out w2 HB2.out).mono ?_
      rintro e w3 ⟨v3, rfl, ho3, hb3⟩
      have hz3 : w2.heap.size ≤ w3.heap.size := hb3.size
      have HBx3 := Lib.hid (HBx2.out.below hb3 (by omega))
      have HB3 := Lib.hid (HB2.out.trans (hb3.mono (by omega)))
      have HO3 := Lib.hid ho3
      clear ho3 hb3 HPut
      go_wp2_with (refine wpList_load_mid rfl 50 (.tmp 1) rfl w.heap.size 0 rfl (nodeC x A c) _ (nodeC_whole HBx3.out HX.out) Try.underlying50 rfl (by rw [nodeC_len HX.out]; exact infoNode) ?_)
      refine (HRef.out w3 HB3.out).mono ?_
      rintro e w4 ⟨v4, rfl, ho4, hb4⟩
      have hz4 : w3.heap.size ≤ w4.heap.size := hb4.size
      have HB4 := Lib.hid (HB3.out.trans (hb4.mono (by omega)))
      have HO34 := Lib.hid (HO3.out.below hb4 (Nat.le_refl _))
      have HO4 := Lib.hid ho4
      clear ho4 hb4 HRef
      obtain ⟨A3, c3, rfl, -, -, -, -⟩ := HO34.out.shape' (n := 0) rfl
      go_wp2_with fail
      refine (answer_bad A3 c3 v4).mono ?_
      rintro e w' ⟨rfl, rfl⟩
      go_wp2_with fail
      go_ret
      exact ⟨rfl, HB4.out⟩
    | false =>
      simp only [Bool.false_eq_true, reduceIte, errV_zero] at hput
      simp only [Bool.false_eq_true, reduceIte, Bool.not_false] at href
      have HPut := Lib.hid hput
      have HRef := Lib.hid href
      have HQ := Lib.hid hq
      clear hx hr hput href hq
      go_enter Try.func5, Try.ntmps5
      go_wp2_with fail
      generalize World.alloc w _ = W0 at HBx HB0 hz0 ⊢
      have hz0' : w.heap.size + 1 ≤ W0.heap.size := by omega
      clear hz0
      refine (alive09_any _).mono ?_
      rintro e w1 ⟨rfl, hb1⟩
      have hz1 : W0.heap.size ≤ w1.heap.size := hb1.size
      have HBx1 := Lib.hid (HBx.out.below hb1 (by omega))
      have HB1 := Lib.hid (HB0.out.trans (hb1.mono (by omega)))
      clear hb1 HBx HB0
      go_wp2_with (refine wpList_load_mid rfl 50 (.tmp 1) rfl w.heap.size 0 rfl (nodeC x A c) _ (nodeC_whole HBx1.out HX.out) Try.underlying50 rfl (by rw [nodeC_len HX.out]; exact infoNode) ?_)
      refine (HL.out _).mono ?_
      rintro e w2 ⟨rfl, hb2⟩
      have hz2 : w1.heap.size ≤ w2.heap.size := hb2.size
      have HBx2 := Lib.hid (HBx1.out.below hb2 (by omega))
      have HB2 := Lib.hid (HB1.out.trans (hb2.mono (by omega)))
      clear hb2 HBx1
      go_wp2_with (refine wpList_load_mid rfl 50 (.tmp 1) rfl w.heap.size 0 rfl (nodeC x A c) _ (nodeC_whole HBx2.out HX.out) Try.underlying50 rfl (by rw [nodeC_len HX.out]; exact infoNode) ?_)
      refine (HPut.out w2 HB2.out).mono ?_
      rintro e w3 ⟨v3, rfl, ho3, hb3⟩
      have hz3 : w2.heap.size ≤ w3.heap.size := hb3.size
      have HBx3 := Lib.hid (HBx2.out.below hb3 (by omega))
      have HB3 := Lib.hid (HB2.out.trans (hb3.mono (by omega)))
      have HO3 := Lib.hid ho3
      clear ho3 hb3 HPut
      go_wp2_with (refine wpList_load_mid rfl 50 (.tmp 1) rfl w.heap.size 0 rfl (nodeC x A c) _ (nodeC_whole HBx3.out HX.out) Try.underlying50 rfl (by rw [nodeC_len HX.out]; exact infoNode) ?_)
      refine (HRef.out w3 HB3.out).mono ?_
      rintro e w4 ⟨v4, rfl, ho4, hb4⟩
      have hz4 : w3.heap.size ≤ w4.heap.size := hb4.size
      have HB4 := Lib.hid (HB3.out.trans (hb4.mono (by omega)))
      have HO34 := Lib.hid (HO3.out.below hb4 (Nat.le_refl _))
      have HO4 := Lib.hid ho4
      clear ho4 hb4 HRef
      obtain ⟨A3, c3, rfl, hr3, -, -, -⟩ := HO34.out.shape' HLen.out
      obtain ⟨A4, c4, rfl, hr4, -, -, -⟩ := HO4.out.shape' HLen.out
      have HR3 := Lib.hid hr3
      have HR4 := Lib.hid hr4
      clear hr3 hr4
      go_wp2_with fail
      refine (answer_ok c3 c4 HR3.out HR4.out HLen.out HLen.out).mono ?_
      rintro e w' ⟨rfl, rfl⟩
      go_wp2_with fail
      go_ret
      exact ⟨rfl, HB4.out⟩
  · rw [show decide ((x.um.length : Int) < 100) = false by simp; omega] at HL
    clear hbig hx hr
    go_enter Try.func5, Try.ntmps5
    go_wp2_with fail
    generalize World.alloc w _ = W0 at HBx HB0 hz0 ⊢
    have hz0' : w.heap.size + 1 ≤ W0.heap.size := by omega
    clear hz0
    refine (alive09_any _).mono ?_
    rintro e w1 ⟨rfl, hb1⟩
    have hz1 : W0.heap.size ≤ w1.heap.size := hb1.size
    have HBx1 := Lib.hid (HBx.out.below hb1 (by omega))
    have HB1 := Lib.hid (HB0.out.trans (hb1.mono (by omega)))
    clear hb1 HBx HB0
    go_wp2_with (refine wpList_load_mid rfl 50 (.tmp 1) rfl w.heap.size 0 rfl (nodeC x A c) _ (nodeC_whole HBx1.out HX.out) Try.underlying50 rfl (by rw [nodeC_len HX.out]; exact infoNode) ?_)
    refine (HL.out _).mono ?_
    rintro e w2 ⟨rfl, hb2⟩
    have hz2 : w1.heap.size ≤ w2.heap.size := hb2.size
    have HBx2 := Lib.hid (HBx1.out.below hb2 (by omega))
    have HB2 := Lib.hid (HB1.out.trans (hb2.mono (by omega)))
    clear hb2 HBx1
    go_wp2_with fail
    go_ret
    exact ⟨rfl, HB2.out⟩
end Go.Proofs.Ytloglpamnalmeaa
