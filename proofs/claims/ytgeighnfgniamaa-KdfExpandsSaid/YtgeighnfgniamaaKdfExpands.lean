/- the walk of KdfExpands. -/
import Derived.Test.YtgeighnfgniamaaExpBad
import Derived.Test.YtgeighnfgniamaaAlive02
import Derived.Test.YtgeighnfgniamaaCopy
import Derived.Test.YtgeighnfgniamaaApart
import Derived.Test.YtgeighnfgniamaaNum
namespace Go.Proofs.Ytgeighnfgniamaa
open Go.RowKit
set_option linter.unusedVariables false
set_option linter.unusedSimpArgs false
attribute [local go_sem] Oper.semAt_some

theorem pw_lone {vs : List Sl} (h : vs.Pairwise (fun x y => ∀ g, (sl x).ownBlock = some g → (sl y).ownBlock ≠ some g)) : Lone vs := by
  intro i j x y hx hy hij g hg
  rcases Nat.lt_or_gt_of_ne hij with hlt | hlt
  · exact (List.pairwise_iff_getElem.1 h i j (List.getElem?_eq_some_iff.1 hx).1 (List.getElem?_eq_some_iff.1 hy).1 hlt) g (by rw [(List.getElem?_eq_some_iff.1 hx).2]; exact hg) |> (fun h2 => by rwa [(List.getElem?_eq_some_iff.1 hy).2] at h2)
  · intro hg2
    exact (List.pairwise_iff_getElem.1 h j i (List.getElem?_eq_some_iff.1 hy).1 (List.getElem?_eq_some_iff.1 hx).1 hlt) g (by rw [(List.getElem?_eq_some_iff.1 hy).2]; exact hg2) (by rw [(List.getElem?_eq_some_iff.1 hx).2]; exact hg)
set_option maxRecDepth 100000 in
set_option maxHeartbeats 4000000 in
theorem kdfExpands_walk (A1 : Option Addr) (n1 c1 : Nat) (xs : List (BitVec 8)) {W : World} (hr1 : Rd b8 W W.heap.size A1 xs) (hn1 : xs.length = n1) (hc1 : n1 ≤ c1) (hm1 : c1 ≤ maxLen)
    (A2 : Option Addr) (n2 c2 : Nat) (ys : List (BitVec 8)) (hr2 : Rd b8 W W.heap.size A2 ys) (hn2 : ys.length = n2) (hc2 : n2 ≤ c2) (hm2 : c2 ≤ maxLen)
    (z : Int) (wz : (Lit.int .i64 z).wf = true) :
    Calls Try.prog 9 #[.slice A1 n1 c1, .slice A2 n2 c2, .int .i64 z] W fun e w' => e = .returned (.bool true) ∧ Below W.heap.size W w' := by
  have H1 := Lib.hid hn1
  have H2 := Lib.hid hn2
  have R1 := Lib.hid hr1
  have R2 := Lib.hid hr2
  clear hn1 hn2 hr1 hr2 hc1 hm1 hc2 hm2 wz
  by_cases k1 : (n1 : Int) > 1000
  ·
    go_enter Try.func9, Try.ntmps9
    go_wp2_with fail
    refine (alive02_any _).mono ?_
    rintro e w1 ⟨rfl, hb1⟩
    go_wp2_with fail
    go_ret
    exact ⟨rfl, hb1⟩
  by_cases k2 : (n2 : Int) > 1000
  ·
    go_enter Try.func9, Try.ntmps9
    go_wp2_with fail
    refine (alive02_any _).mono ?_
    rintro e w1 ⟨rfl, hb1⟩
    go_wp2_with fail
    go_ret
    exact ⟨rfl, hb1⟩
  have m1 : n1 ≤ 1000 := by omega
  have m2 : n2 ≤ 1000 := by omega
  by_cases k3 : z > 1000 ∧ z ≤ 8160
  · obtain ⟨k3, k4⟩ := k3
    go_enter Try.func9, Try.ntmps9
    go_wp2_with fail
    refine (alive02_any _).mono ?_
    rintro e w1 ⟨rfl, hb1⟩
    go_wp2_with fail
    go_ret
    exact ⟨rfl, hb1⟩
  by_cases k5 : z < 0 ∨ z > 8160
  · obtain ⟨X, hX⟩ : ∃ X : List (BitVec 8), X = [] := ⟨_, rfl⟩
    obtain ⟨L, hL⟩ : ∃ L : Nat, L = 0 := ⟨_, rfl⟩
    have HXl := Lib.hid (show X.length = L by rw [hX, hL]; rfl)
    have hL1 : L ≤ 1000 := by omega
    have HE := Lib.hid (show ∀ (w : World) (g2 k2 g3 k3 : Nat), Rd b8 w w.heap.size (some ⟨g2, 0, none⟩) xs → Rd b8 w w.heap.size (some ⟨g3, 0, none⟩) ys → Calls Try.prog 25 #[.slice (some ⟨g2, 0, none⟩) n1 k2, .slice (some ⟨g3, 0, none⟩) n2 k3, .int .i64 z] w fun e w' => ∃ A c, e = .returned (.tuple #[.slice A L c, .iface 45 (.int .i64 4)]) ∧ Own b8 w' w.heap.size 5 (.slice A L c) X ∧ Below w.heap.size w w' from fun w g2 k2 g3 k3 r1 r2 => (expand_bad w n1 k2 n2 k3 z _ _ k5).mono fun e w' ⟨he, hb⟩ => ⟨none, 0, by rw [he, hL]; rfl, by rw [hX, hL]; exact Own.nil_ _ _ _ _, hb⟩)
    have HR := Lib.hid (show ∀ w : World, Below W.heap.size W w → Calls Try.prog 26 #[.slice A1 n1 c1, .slice A2 n2 c2, .int .i64 z] w fun e w' => ∃ A c, e = .returned (.tuple #[.slice A L c, .bool false]) ∧ Rd b8 w' w'.heap.size A X ∧ Below w.heap.size w w' from fun w hb => (refExpand_bad w n1 c1 n2 c2 z A1 A2 k5).mono fun e w' ⟨he, hw⟩ => ⟨none, 0, by rw [he, hL], by rw [hX]; exact Rd.nil_ _ _ _ _, by rw [← hw]; exact Below.refl _ _⟩)
    have HI := Lib.hid (show ∀ w : World, Calls Try.prog 28 #[.iface 45 (.int .i64 4), .int .i64 4] w fun e w' => e = .returned (.bool true) ∧ w = w' from fun w => is_any 4 4 w)
    by_cases k8 : z < 0
    · have k9 : ¬ z > 1000 := by omega
      clear k3 k5 hX hL
      go_enter Try.func9, Try.ntmps9
      go_wp2_with fail
      refine (alive02_any _).mono ?_
      rintro e w1 ⟨rfl, hb1⟩
      have hz1' := hb1.size
      have HB1 := Lib.hid hb1
      clear hb1
      go_wp2_with fail
      refine (copy_any c1 (R1.out.below HB1.out) HB1.out.size H1.out (by omega)).mono ?_
      rintro e w2 ⟨v2, rfl, hc2, hb2⟩
      obtain ⟨g2, k2, rfl, hg2, hg2l, -, -⟩ := hc2.shape' H1.out
      have hsz2 := hb2.size
      have HC1_2 := Lib.hid hc2
      have HB2 := Lib.hid (HB1.out.trans (hb2.mono HB1.out.size))
      clear hc2 hb2
      go_wp2_with fail
      refine (copy_any c2 (R2.out.below HB2.out) HB2.out.size H2.out (by omega)).mono ?_
      rintro e w3 ⟨v3, rfl, hc3, hb3⟩
      obtain ⟨g3, k3, rfl, hg3, hg3l, -, -⟩ := hc3.shape' H2.out
      have hsz3 := hb3.size
      have HC2_3 := Lib.hid hc3
      have HC1_3 := Lib.hid (HC1_2.out.below hb3 (Nat.le_refl _))
      have HB3 := Lib.hid (HB2.out.trans (hb3.mono HB2.out.size))
      clear hc3 hb3 HC1_2
      go_wp2_with fail
      refine (HE.out w3 g2 k2 g3 k3 HC1_3.out.own.rd HC2_3.out.own.rd).mono ?_
      rintro e w4 ⟨A4, c4, rfl, ho4, hb4⟩
      have hsz4 := hb4.size
      have HC1_4 := Lib.hid (HC1_3.out.below hb4 (Nat.le_refl _))
      have HC2_4 := Lib.hid (HC2_3.out.below hb4 (Nat.le_refl _))
      have HB4 := Lib.hid (HB3.out.trans (hb4.mono HB3.out.size))
      have HO4 := Lib.hid ho4
      have Hlt4 := Lib.hid ho4.lt
      clear ho4 hb4 HC1_3 HC2_3 HE
      go_wp2_with fail
      refine (HR.out w4 HB4.out).mono ?_
      rintro e w5 ⟨A5, c5, rfl, hr5, hb5⟩
      have hsz5 := hb5.size
      have HC1 := Lib.hid (HC1_4.out.below hb5 (Nat.le_refl _))
      have HC2 := Lib.hid (HC2_4.out.below hb5 (Nat.le_refl _))
      have HB5 := Lib.hid (HB4.out.trans (hb5.mono HB4.out.size))
      have HO5 := Lib.hid (HO4.out.below hb5 (Nat.le_refl _))
      have HR5 := Lib.hid hr5
      clear hr5 hb5 HC1_4 HC2_4 HR HO4
      go_wp2_with fail
      refine (kept_any c1 HC1.out (R1.out.below HB5.out) H1.out rfl (by omega)).mono ?_
      rintro e w' ⟨rfl, rfl⟩
      go_wp2_with fail
      refine (kept_any c2 HC2.out (R2.out.below HB5.out) H2.out rfl (by omega)).mono ?_
      rintro e w' ⟨rfl, rfl⟩
      go_wp2_with fail
      refine (same_any c4 c5 HO5.out.rd HR5.out HXl.out HXl.out).mono ?_
      rintro e w' ⟨rfl, rfl⟩
      rw [beq_self_eq_true]
      go_wp2_with fail
      refine (HI.out _).mono ?_
      rintro e w' ⟨rfl, rfl⟩
      go_wp2_with fail
      refine (apart_any [(A4, L, c4), (some ⟨g2, 0, none⟩, n1, k2), (some ⟨g3, 0, none⟩, n2, k3)] (fun i => [L, n1, n2].getD i 0) _ _ _ _ W.heap.size rfl
        (Own.lit sl w5 _ _ [(A4, L, c4), (some ⟨g2, 0, none⟩, n1, k2), (some ⟨g3, 0, none⟩, n2, k3)] (by omega) (by simp [maxLen])) (fun i x hx => ?_) (pw_lone ?_) (by simp; omega) (by simp) ?_).mono ?_
      · match i, hx with
        | 0, hx => cases hx; exact ⟨_, (HO5.out.less (by omega)).alloc _, HXl.out⟩
        | 1, hx => cases hx; exact ⟨_, (HC1.out.own.less (by omega)).alloc _, H1.out⟩
        | 2, hx => cases hx; exact ⟨_, (HC2.out.own.less (by omega)).alloc _, H2.out⟩
        | i + 3, hx => simp at hx
      · simp only [List.pairwise_cons, List.mem_cons, List.not_mem_nil, or_false, forall_eq_or_imp, forall_eq, List.Pairwise.nil, and_true, false_implies, implies_true]
        refine ⟨⟨fun g hg => ?_, fun g hg => ?_⟩, fun g hg => ?_⟩
        · have := Hlt4.out g hg
          simp only [sl, Value.ownBlock, Option.some.injEq, ne_eq]; omega
        · have := Hlt4.out g hg
          simp only [sl, Value.ownBlock, Option.some.injEq, ne_eq]; omega
        · simp only [sl, Value.ownBlock, Option.some.injEq, ne_eq] at hg ⊢; omega
      · intro i
        match i with
        | 0 => simp; omega
        | 1 => simp; omega
        | 2 => simp; omega
        | i + 3 => simp
      rintro e w6 ⟨rfl, hb6⟩
      go_wp2_with fail
      go_ret
      exact ⟨rfl, Below.trans (HB5.out.alloc (by omega) _) hb6⟩
    · have k9 : z > 1000 := by omega
      have k10 : ¬ z ≤ 8160 := by omega
      clear k3 k5 hX hL k8
      go_enter Try.func9, Try.ntmps9
      go_wp2_with fail
      refine (alive02_any _).mono ?_
      rintro e w1 ⟨rfl, hb1⟩
      have hz1' := hb1.size
      have HB1 := Lib.hid hb1
      clear hb1
      go_wp2_with fail
      refine (copy_any c1 (R1.out.below HB1.out) HB1.out.size H1.out (by omega)).mono ?_
      rintro e w2 ⟨v2, rfl, hc2, hb2⟩
      obtain ⟨g2, k2, rfl, hg2, hg2l, -, -⟩ := hc2.shape' H1.out
      have hsz2 := hb2.size
      have HC1_2 := Lib.hid hc2
      have HB2 := Lib.hid (HB1.out.trans (hb2.mono HB1.out.size))
      clear hc2 hb2
      go_wp2_with fail
      refine (copy_any c2 (R2.out.below HB2.out) HB2.out.size H2.out (by omega)).mono ?_
      rintro e w3 ⟨v3, rfl, hc3, hb3⟩
      obtain ⟨g3, k3, rfl, hg3, hg3l, -, -⟩ := hc3.shape' H2.out
      have hsz3 := hb3.size
      have HC2_3 := Lib.hid hc3
      have HC1_3 := Lib.hid (HC1_2.out.below hb3 (Nat.le_refl _))
      have HB3 := Lib.hid (HB2.out.trans (hb3.mono HB2.out.size))
      clear hc3 hb3 HC1_2
      go_wp2_with fail
      refine (HE.out w3 g2 k2 g3 k3 HC1_3.out.own.rd HC2_3.out.own.rd).mono ?_
      rintro e w4 ⟨A4, c4, rfl, ho4, hb4⟩
      have hsz4 := hb4.size
      have HC1_4 := Lib.hid (HC1_3.out.below hb4 (Nat.le_refl _))
      have HC2_4 := Lib.hid (HC2_3.out.below hb4 (Nat.le_refl _))
      have HB4 := Lib.hid (HB3.out.trans (hb4.mono HB3.out.size))
      have HO4 := Lib.hid ho4
      have Hlt4 := Lib.hid ho4.lt
      clear ho4 hb4 HC1_3 HC2_3 HE
      go_wp2_with fail
      refine (HR.out w4 HB4.out).mono ?_
      rintro e w5 ⟨A5, c5, rfl, hr5, hb5⟩
      have hsz5 := hb5.size
      have HC1 := Lib.hid (HC1_4.out.below hb5 (Nat.le_refl _))
      have HC2 := Lib.hid (HC2_4.out.below hb5 (Nat.le_refl _))
      have HB5 := Lib.hid (HB4.out.trans (hb5.mono HB4.out.size))
      have HO5 := Lib.hid (HO4.out.below hb5 (Nat.le_refl _))
      have HR5 := Lib.hid hr5
      clear hr5 hb5 HC1_4 HC2_4 HR HO4
      go_wp2_with fail
      refine (kept_any c1 HC1.out (R1.out.below HB5.out) H1.out rfl (by omega)).mono ?_
      rintro e w' ⟨rfl, rfl⟩
      go_wp2_with fail
      refine (kept_any c2 HC2.out (R2.out.below HB5.out) H2.out rfl (by omega)).mono ?_
      rintro e w' ⟨rfl, rfl⟩
      go_wp2_with fail
      refine (same_any c4 c5 HO5.out.rd HR5.out HXl.out HXl.out).mono ?_
      rintro e w' ⟨rfl, rfl⟩
      rw [beq_self_eq_true]
      go_wp2_with fail
      refine (HI.out _).mono ?_
      rintro e w' ⟨rfl, rfl⟩
      go_wp2_with fail
      refine (apart_any [(A4, L, c4), (some ⟨g2, 0, none⟩, n1, k2), (some ⟨g3, 0, none⟩, n2, k3)] (fun i => [L, n1, n2].getD i 0) _ _ _ _ W.heap.size rfl
        (Own.lit sl w5 _ _ [(A4, L, c4), (some ⟨g2, 0, none⟩, n1, k2), (some ⟨g3, 0, none⟩, n2, k3)] (by omega) (by simp [maxLen])) (fun i x hx => ?_) (pw_lone ?_) (by simp; omega) (by simp) ?_).mono ?_
      · match i, hx with
        | 0, hx => cases hx; exact ⟨_, (HO5.out.less (by omega)).alloc _, HXl.out⟩
        | 1, hx => cases hx; exact ⟨_, (HC1.out.own.less (by omega)).alloc _, H1.out⟩
        | 2, hx => cases hx; exact ⟨_, (HC2.out.own.less (by omega)).alloc _, H2.out⟩
        | i + 3, hx => simp at hx
      · simp only [List.pairwise_cons, List.mem_cons, List.not_mem_nil, or_false, forall_eq_or_imp, forall_eq, List.Pairwise.nil, and_true, false_implies, implies_true]
        refine ⟨⟨fun g hg => ?_, fun g hg => ?_⟩, fun g hg => ?_⟩
        · have := Hlt4.out g hg
          simp only [sl, Value.ownBlock, Option.some.injEq, ne_eq]; omega
        · have := Hlt4.out g hg
          simp only [sl, Value.ownBlock, Option.some.injEq, ne_eq]; omega
        · simp only [sl, Value.ownBlock, Option.some.injEq, ne_eq] at hg ⊢; omega
      · intro i
        match i with
        | 0 => simp; omega
        | 1 => simp; omega
        | 2 => simp; omega
        | i + 3 => simp
      rintro e w6 ⟨rfl, hb6⟩
      go_wp2_with fail
      go_ret
      exact ⟨rfl, Below.trans (HB5.out.alloc (by omega) _) hb6⟩
  · obtain ⟨N, rfl⟩ : ∃ N : Nat, z = (N : Int) := ⟨z.toNat, by omega⟩
    have k6 : N ≤ 1000 := by omega
    have k6' : (N : Int) ≤ 1000 := by omega
    obtain ⟨X, hX⟩ : ∃ X : List (BitVec 8), X = expV xs ys N := ⟨_, rfl⟩
    obtain ⟨L, hL⟩ : ∃ L : Nat, L = N := ⟨_, rfl⟩
    have HXl := Lib.hid (show X.length = L by rw [hX, hL]; exact expV_len _ _ _ (by omega))
    have hL1 : L ≤ 1000 := by omega
    have HE := Lib.hid (show ∀ (w : World) (g2 k2 g3 k3 : Nat), Rd b8 w w.heap.size (some ⟨g2, 0, none⟩) xs → Rd b8 w w.heap.size (some ⟨g3, 0, none⟩) ys → Calls Try.prog 25 #[.slice (some ⟨g2, 0, none⟩) n1 k2, .slice (some ⟨g3, 0, none⟩) n2 k3, .int .i64 (N : Int)] w fun e w' => ∃ A c, e = .returned (.tuple #[.slice A L c, .nilIface]) ∧ Own b8 w' w.heap.size 5 (.slice A L c) X ∧ Below w.heap.size w w' from fun w g2 k2 g3 k3 r1 r2 => (expand_any w w.heap.size n1 k2 w.heap.size n2 k3 N _ _ xs ys r1 (Nat.le_refl _) H1.out.symm r2 (Nat.le_refl _) H2.out.symm (by omega) (by omega) (by omega)).mono fun e w' ⟨g, he, ho, hb⟩ => ⟨some ⟨g, 0, none⟩, N, by rw [he, hL], by rw [hX, hL]; exact ho, hb⟩)
    have HR := Lib.hid (show ∀ w : World, Below W.heap.size W w → Calls Try.prog 26 #[.slice A1 n1 c1, .slice A2 n2 c2, .int .i64 (N : Int)] w fun e w' => ∃ A c, e = .returned (.tuple #[.slice A L c, .bool true]) ∧ Rd b8 w' w'.heap.size A X ∧ Below w.heap.size w w' from fun w hb => (refExpand_any w W.heap.size n1 c1 W.heap.size n2 c2 N A1 A2 xs ys (R1.out.below hb) hb.size H1.out.symm (R2.out.below hb) hb.size H2.out.symm (by omega) (by omega) (by omega)).mono fun e w' ⟨A, c, he, hr, hb'⟩ => ⟨A, c, by rw [he, hL], by rw [hX]; exact hr, hb'⟩)
    clear k3 k5 hX hL
    go_enter Try.func9, Try.ntmps9
    go_wp2_with fail
    refine (alive02_any _).mono ?_
    rintro e w1 ⟨rfl, hb1⟩
    have hz1' := hb1.size
    have HB1 := Lib.hid hb1
    clear hb1
    go_wp2_with fail
    refine (copy_any c1 (R1.out.below HB1.out) HB1.out.size H1.out (by omega)).mono ?_
    rintro e w2 ⟨v2, rfl, hc2, hb2⟩
    obtain ⟨g2, k2, rfl, hg2, hg2l, -, -⟩ := hc2.shape' H1.out
    have hsz2 := hb2.size
    have HC1_2 := Lib.hid hc2
    have HB2 := Lib.hid (HB1.out.trans (hb2.mono HB1.out.size))
    clear hc2 hb2
    go_wp2_with fail
    refine (copy_any c2 (R2.out.below HB2.out) HB2.out.size H2.out (by omega)).mono ?_
    rintro e w3 ⟨v3, rfl, hc3, hb3⟩
    obtain ⟨g3, k3, rfl, hg3, hg3l, -, -⟩ := hc3.shape' H2.out
    have hsz3 := hb3.size
    have HC2_3 := Lib.hid hc3
    have HC1_3 := Lib.hid (HC1_2.out.below hb3 (Nat.le_refl _))
    have HB3 := Lib.hid (HB2.out.trans (hb3.mono HB2.out.size))
    clear hc3 hb3 HC1_2
    go_wp2_with fail
    refine (HE.out w3 g2 k2 g3 k3 HC1_3.out.own.rd HC2_3.out.own.rd).mono ?_
    rintro e w4 ⟨A4, c4, rfl, ho4, hb4⟩
    have hsz4 := hb4.size
    have HC1_4 := Lib.hid (HC1_3.out.below hb4 (Nat.le_refl _))
    have HC2_4 := Lib.hid (HC2_3.out.below hb4 (Nat.le_refl _))
    have HB4 := Lib.hid (HB3.out.trans (hb4.mono HB3.out.size))
    have HO4 := Lib.hid ho4
    have Hlt4 := Lib.hid ho4.lt
    clear ho4 hb4 HC1_3 HC2_3 HE
    go_wp2_with fail
    refine (HR.out w4 HB4.out).mono ?_
    rintro e w5 ⟨A5, c5, rfl, hr5, hb5⟩
    have hsz5 := hb5.size
    have HC1 := Lib.hid (HC1_4.out.below hb5 (Nat.le_refl _))
    have HC2 := Lib.hid (HC2_4.out.below hb5 (Nat.le_refl _))
    have HB5 := Lib.hid (HB4.out.trans (hb5.mono HB4.out.size))
    have HO5 := Lib.hid (HO4.out.below hb5 (Nat.le_refl _))
    have HR5 := Lib.hid hr5
    clear hr5 hb5 HC1_4 HC2_4 HR HO4
    go_wp2_with fail
    refine (kept_any c1 HC1.out (R1.out.below HB5.out) H1.out rfl (by omega)).mono ?_
    rintro e w' ⟨rfl, rfl⟩
    go_wp2_with fail
    refine (kept_any c2 HC2.out (R2.out.below HB5.out) H2.out rfl (by omega)).mono ?_
    rintro e w' ⟨rfl, rfl⟩
    go_wp2_with fail
    refine (same_any c4 c5 HO5.out.rd HR5.out HXl.out HXl.out).mono ?_
    rintro e w' ⟨rfl, rfl⟩
    rw [beq_self_eq_true]
    go_wp2_with fail
    refine (apart_any [(A4, L, c4), (some ⟨g2, 0, none⟩, n1, k2), (some ⟨g3, 0, none⟩, n2, k3)] (fun i => [L, n1, n2].getD i 0) _ _ _ _ W.heap.size rfl
      (Own.lit sl w5 _ _ [(A4, L, c4), (some ⟨g2, 0, none⟩, n1, k2), (some ⟨g3, 0, none⟩, n2, k3)] (by omega) (by simp [maxLen])) (fun i x hx => ?_) (pw_lone ?_) (by simp; omega) (by simp) ?_).mono ?_
    · match i, hx with
      | 0, hx => cases hx; exact ⟨_, (HO5.out.less (by omega)).alloc _, HXl.out⟩
      | 1, hx => cases hx; exact ⟨_, (HC1.out.own.less (by omega)).alloc _, H1.out⟩
      | 2, hx => cases hx; exact ⟨_, (HC2.out.own.less (by omega)).alloc _, H2.out⟩
      | i + 3, hx => simp at hx
    · simp only [List.pairwise_cons, List.mem_cons, List.not_mem_nil, or_false, forall_eq_or_imp, forall_eq, List.Pairwise.nil, and_true, false_implies, implies_true]
      refine ⟨⟨fun g hg => ?_, fun g hg => ?_⟩, fun g hg => ?_⟩
      · have := Hlt4.out g hg
        simp only [sl, Value.ownBlock, Option.some.injEq, ne_eq]; omega
      · have := Hlt4.out g hg
        simp only [sl, Value.ownBlock, Option.some.injEq, ne_eq]; omega
      · simp only [sl, Value.ownBlock, Option.some.injEq, ne_eq] at hg ⊢; omega
    · intro i
      match i with
      | 0 => simp; omega
      | 1 => simp; omega
      | 2 => simp; omega
      | i + 3 => simp
    rintro e w6 ⟨rfl, hb6⟩
    go_wp2_with fail
    go_ret
    exact ⟨rfl, Below.trans (HB5.out.alloc (by omega) _) hb6⟩
end Go.Proofs.Ytgeighnfgniamaa
