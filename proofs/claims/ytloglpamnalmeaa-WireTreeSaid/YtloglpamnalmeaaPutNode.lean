/- CONTRACTS: wire.PutNode, burrowref09.PutNode. -/
import Derived.Test.YtloglpamnalmeaaGoodN
import Derived.Test.YtloglpamnalmeaaRefNode
namespace Go.Proofs.Ytloglpamnalmeaa
open Go.RowKit
set_option linter.unusedVariables false
set_option linter.unusedSimpArgs false

set_option maxRecDepth 100000 in
set_option maxHeartbeats 2000000 in
theorem putNode_any (x : NodeD) (hx : x.Ok) {w : World} {B' : Nat} {A : Option Addr} {c : Nat} (hr : Rd cI w B' A x.um) (hB' : B' ≤ w.heap.size) (hy : x.um.length ≤ 10000) :
    Calls Try.prog 23 #[.agg (nodeC x A c).toArray] w fun e w' => ∃ v, e = .returned (.tuple #[v, errV (if nodeBad x then 3 else 0)]) ∧ Own b8 w' w.heap.size 5 v (if nodeBad x then [] else nodeB x) ∧ Below w.heap.size w w' := by
  have HX := Lib.hid hx
  have HR := Lib.hid hr
  have HBx := Lib.hid (show Blk (w.alloc (.cells (nodeC x A c).toArray 50)) w.heap.size 50 (nodeC x A c) from Blk.new w _ _)
  have HF := Lib.hid (show ∀ W1, (w.alloc (.cells (nodeC x A c).toArray 50)).alloc (.cells #[.slice none 0 0, .bool false] 112) = W1 →
      Blk W1 w.heap.size 50 (nodeC x A c) ∧ Pen W1 (w.heap.size + 1) (w.heap.size + 1) [] false ∧ Below w.heap.size w W1 ∧ w.heap.size + 2 ≤ W1.heap.size by
    rintro W1 rfl
    refine ⟨HBx.out.alloc _, pen_of (v := .slice none 0 0) ?_ (Own.nil_ _ _ _ _) (Nat.le_refl _), ((Below.refl _ _).alloc (Nat.le_refl _) _).alloc (by simp) _, by simp⟩
    exact Blk.at_size _ [.slice none 0 0, .bool false] (by simp))
  obtain ⟨q, hq⟩ : ∃ q, q = nodeBad x := ⟨_, rfl⟩
  rw [← hq]
  have HQ := Lib.hid hq
  clear hx hr hq
  go_enter Try.func23, Try.ntmps23
  go_wp2_with (generalize hW1 : World.alloc (World.alloc w _) _ = W1; obtain ⟨hbx1, hp1, hb1, hz1⟩ := HF.out W1 hW1; clear hW1; have HBx1 := Lib.hid hbx1; have HP1 := Lib.hid hp1; have HB1 := Lib.hid hb1; clear hbx1 hp1 hb1; refine wpList_load_mid rfl 50 (.tmp 1) rfl w.heap.size 0 rfl (nodeC x A c) _ (nodeC_whole HBx1.out HX.out) Try.underlying50 rfl (by rw [nodeC_len HX.out]; exact infoNode) ?_)
  refine (nodeO_any HP1.out x HX.out (HR.out.below (HB1.out.mono hB')) (by omega) (by omega) (by simp)).mono ?_
  rintro e w2 ⟨rfl, ⟨zs, hp2, hz2, hl2⟩, hb2, -⟩
  have HP2 := Lib.hid hp2
  have HZ := Lib.hid hz2
  have HBe := Lib.hid (HB1.out.trans (hb2.mono (by omega)))
  clear hp2 hb2 hz2
  go_wp2_with fail
  have hend := end_any HP2.out
  have hkey : endBad (false || nodeBad x) ([] ++ zs) = q ∧ (q = false → [] ++ zs = nodeB x) := by
    have hzs := HZ.out
    rw [← HQ.out] at hzs ⊢
    cases q with
    | true => exact ⟨rfl, fun h => by simp at h⟩
    | false =>
      have hz := hzs rfl
      subst hz
      refine ⟨?_, fun _ => rfl⟩
      unfold endBad
      rw [List.nil_append, nodeB_len HX.out]
      simp; omega
  rw [hkey.1] at hend
  have Hx := Lib.hid hkey.2
  have HEnd := Lib.hid hend
  clear hend hkey
  cases q with
  | true =>
    refine HEnd.out.mono ?_
    rintro e w5 ⟨⟨v5, rfl, ho5⟩, rfl⟩
    rw [if_pos rfl] at ho5
    have HO5 := Lib.hid ho5
    clear ho5
    go_wp2_with fail
    go_ret2
    exact ⟨_, rfl, HO5.out.less (by omega), HBe.out⟩
  | false =>
    refine HEnd.out.mono ?_
    rintro e w5 ⟨⟨v5, rfl, ho5⟩, rfl⟩
    rw [if_neg (by simp), Hx.out rfl] at ho5
    have HO5 := Lib.hid ho5
    clear ho5
    go_wp2_with fail
    go_ret2
    exact ⟨_, rfl, HO5.out.less (by omega), HBe.out⟩

set_option maxRecDepth 100000 in
set_option maxHeartbeats 2000000 in
theorem refPutNode_any (x : NodeD) (hx : x.Ok) {w : World} {B' : Nat} {A : Option Addr} {c : Nat} (hr : Rd cI w B' A x.um) (hB' : B' ≤ w.heap.size) (hy : x.um.length ≤ 10000) :
    Calls Try.prog 24 #[.agg (nodeC x A c).toArray] w fun e w' => ∃ v, e = .returned (.tuple #[v, .bool (!nodeBad x)]) ∧ Own b8 w' w.heap.size 5 v (if nodeBad x then [] else nodeB x) ∧ Below w.heap.size w w' := by
  have HX := Lib.hid hx
  have HR := Lib.hid (hr.alloc hB' (.cells (nodeC x A c).toArray 50))
  have HBx := Lib.hid (show Blk (w.alloc (.cells (nodeC x A c).toArray 50)) w.heap.size 50 (nodeC x A c) from Blk.new w _ _)
  have HB := Lib.hid ((Below.refl w.heap.size w).alloc (Nat.le_refl _) (.cells (nodeC x A c).toArray 50))
  have hz := World.size_alloc w (.cells (nodeC x A c).toArray 50)
  have HG := Lib.hid (nodeGood_any x hx (c := c) HR.out (by rw [hz]; omega))
  obtain ⟨W0, hW0⟩ : ∃ W0, W0 = w.alloc (.cells (nodeC x A c).toArray 50) := ⟨_, rfl⟩
  have HW0 := Lib.hid hW0
  obtain ⟨q, hq⟩ : ∃ q, q = nodeBad x := ⟨_, rfl⟩
  rw [← hq] at HG ⊢
  rw [← hW0] at HR HBx HB HG hz
  have hz' : w.heap.size + 1 ≤ W0.heap.size := by omega
  clear hx hr hq hW0 hz
  go_enter Try.func24, Try.ntmps24
  go_wp2_with (rw [← HW0.out]; clear HW0; refine wpList_load_mid rfl 50 (.tmp 1) rfl w.heap.size 0 rfl (nodeC x A c) _ (nodeC_whole HBx.out HX.out) Try.underlying50 rfl (by rw [nodeC_len HX.out]; exact infoNode) ?_)
  refine HG.out.mono ?_
  rintro e w1 ⟨rfl, hb1⟩
  have HB1 := Lib.hid (HB.out.trans (hb1.mono (by omega)))
  have HBx1 := Lib.hid (HBx.out.below hb1 (by omega))
  have HR1 := Lib.hid (HR.out.below (hb1.mono (by omega)))
  have hz1 : W0.heap.size ≤ w1.heap.size := hb1.size
  clear hb1
  cases q with
  | true =>
    go_wp2_with fail
    go_ret2
    exact ⟨_, rfl, Own.nil_ _ _ _ _, HB1.out⟩
  | false =>
    go_wp2_with (refine wpList_load_mid rfl 50 (.tmp 1) rfl w.heap.size 0 rfl (nodeC x A c) _ (nodeC_whole HBx1.out HX.out) Try.underlying50 rfl (by rw [nodeC_len HX.out]; exact infoNode) ?_)
    refine (refNode_any x HX.out HR1.out (by omega) (by omega)).mono ?_
    rintro e w2 ⟨v2, rfl, ho2, hb2⟩
    have HO2 := Lib.hid ho2
    have HB2 := Lib.hid (HB1.out.trans (hb2.mono (by omega)))
    clear ho2 hb2
    go_wp2_with fail
    go_ret2
    exact ⟨_, rfl, HO2.out.less (by omega), HB2.out⟩
end Go.Proofs.Ytloglpamnalmeaa
