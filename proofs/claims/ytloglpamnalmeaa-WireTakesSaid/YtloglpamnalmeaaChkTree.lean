/- CONTRACT: wire.check for Tree. -/
import Derived.Test.YtloglpamnalmeaaEyes
import Derived.Test.YtloglpamnalmeaaBase
namespace Go.Proofs.Ytloglpamnalmeaa
open Go.RowKit
set_option linter.unusedVariables false
set_option linter.unusedSimpArgs false

set_option maxRecDepth 100000 in
set_option maxHeartbeats 4000000 in
theorem checkTree_any {w : World} {B g : Nat} {rest : List (BitVec 8)} {bad : Bool} (hE : Eye w B g rest bad) {A0 : Option Addr} {n0 c0 B0 : Nat} {bs : List (BitVec 8)} (hb : Rd b8 w B0 A0 bs) (hB0 : B0 ≤ w.heap.size) (hn0 : bs.length = n0) (hy0 : n0 ≤ 1000000)
    (Ax : Option Addr) (nx cx : Nat) (X : List (BitVec 8)) (r : Bool)
    (hput : ∀ W3, Below w.heap.size w W3 → Calls Try.prog 26 #[.slice Ax nx cx] W3 fun e w' => ∃ v, e = .returned (.tuple #[v, errV (if r then 3 else 0)]) ∧ Own b8 w' W3.heap.size 5 v (if r then [] else X) ∧ Below W3.heap.size W3 w') :
    Calls Try.prog 70 #[.pointer (some ⟨g, 0, none⟩), .slice A0 n0 c0, .slice Ax nx cx, .func (.func 26) #[] #[]] w fun e w' =>
      e = .returned (if chkGood bad rest bs r X then .tuple #[.slice Ax nx cx, .nilIface] else .tuple #[.slice none 0 0, .iface 108 (.int .i64 3)]) ∧ Below w.heap.size w w' := by
  have HPut := Lib.hid hput
  have HBs := Lib.hid hb
  have HN0 := Lib.hid hn0
  have hgl := hE.lt
  obtain ⟨⟨Ae, ce, he, hre, hce⟩, hle⟩ := hE
  have ce0 := he.cell 0 rfl
  have ce1 := he.cell 1 rfl
  obtain ⟨q, hq⟩ : ∃ q, q = chkGood bad rest bs r X := ⟨_, rfl⟩
  rw [← hq]
  have HQ := Lib.hid hq
  clear he hre hput hb hn0 hq
  cases bad with
  | true =>
    have hq0 : q = false := by rw [HQ.out]; unfold chkGood; simp
    subst hq0
    go_enter Try.func70, Try.ntmps70
    go_wp2_with fail
    go_ret2
    exact ⟨rfl, Below.refl _ _⟩
  | false =>
    by_cases hrest : rest = []
    · subst hrest
      go_enter Try.func70, Try.ntmps70
      go_wp2_with fail
      refine (HPut.out w (Below.refl _ _)).mono ?_
      rintro e w4 ⟨v4, rfl, ho4, hb4⟩
      have HB4 := Lib.hid hb4
      have hz4 : w.heap.size ≤ w4.heap.size := hb4.size
      cases r with
      | true =>
        have hq0 : q = false := by rw [HQ.out]; unfold chkGood; simp
        subst hq0
        rw [if_pos rfl, errV_pos (by simp)]
        clear ho4 hb4
        go_wp2_with fail
        go_ret2
        exact ⟨rfl, HB4.out⟩
      | false =>
        rw [if_neg (by simp)] at ho4
        rw [if_neg (by simp), errV_zero]
        obtain ⟨A4, c4, rfl, hr4, -, -, -⟩ := ho4.shape
        have HR4 := Lib.hid hr4
        clear ho4 hb4 hr4
        go_wp2_with fail
        have heq := equal_any (B1 := B0) (B2 := w4.heap.size) (c1 := c0) (c2 := c4) (HBs.out.below (HB4.out.mono hB0)) HR4.out HN0.out rfl (by omega) (Nat.le_refl _) (by omega)
        obtain ⟨y, hy'⟩ : ∃ y, y = (bs == X) := ⟨_, rfl⟩
        rw [← hy'] at heq
        have HEq := Lib.hid heq
        have HYy := Lib.hid hy'
        clear heq hy'
        refine HEq.out.mono ?_
        rintro e w5 ⟨rfl, hb5⟩
        have HB4 := Lib.hid (HB4.out.trans (hb5.mono (by omega)))
        clear hb5
        cases y with
        | false =>
          have hq0 : q = false := by rw [HQ.out]; unfold chkGood; rw [← HYy.out]; simp
          subst hq0
          go_wp2_with fail
          go_ret2
          exact ⟨rfl, HB4.out⟩
        | true =>
          have hq0 : q = true := by rw [HQ.out]; unfold chkGood; rw [← HYy.out]; rfl
          subst hq0
          go_wp2_with fail
          go_ret2
          exact ⟨rfl, HB4.out⟩
    · have hl : (0 : Int) < (rest.length : Int) := by have := List.length_pos_iff.2 hrest; omega
      have hq0 : q = false := by rw [HQ.out]; unfold chkGood; cases rest with
        | nil => exact absurd rfl hrest
        | cons x xs => simp
      subst hq0
      clear hrest
      go_enter Try.func70, Try.ntmps70
      go_wp2_with fail
      go_ret2
      exact ⟨rfl, Below.refl _ _⟩
end Go.Proofs.Ytloglpamnalmeaa
