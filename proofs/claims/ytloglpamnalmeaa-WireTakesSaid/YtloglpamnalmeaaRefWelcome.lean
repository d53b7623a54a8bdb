/- CONTRACT: burrowref09.PutWelcome. -/
import Derived.Test.YtloglpamnalmeaaWels
namespace Go.Proofs.Ytloglpamnalmeaa
open Go.RowKit
set_option linter.unusedVariables false
set_option linter.unusedSimpArgs false

theorem w3s {w : World} {g : Nat} {T : TypeId} {a b c : Value} (h : Blk w g T [a, b, c]) : w.cell? ⟨g, 0, none⟩ = some a ∧ w.cell? ⟨g, 1, none⟩ = some b ∧ w.cell? ⟨g, 2, none⟩ = some c := ⟨h.cell 0 rfl, h.cell 1 rfl, h.cell 2 rfl⟩
set_option maxRecDepth 100000 in
set_option maxHeartbeats 4000000 in
theorem refPutWelcome_any (nm : Int) (A1 : Option Addr) (n1 c1 : Nat) (A2 : Option Addr) (n2 c2 B' : Nat) (s1 s2 : List (BitVec 8)) (w : World)
    (hr1 : Rd b8 w B' A1 s1) (hr2 : Rd b8 w B' A2 s2) (hB' : B' ≤ w.heap.size) (hn1 : s1.length = n1) (hn2 : s2.length = n2) (hy1 : n1 ≤ 1000000) (hy2 : n2 ≤ 1000000) :
    Calls Try.prog 20 #[.agg (welC nm A1 n1 c1 A2 n2 c2).toArray] w fun e w' => ∃ v, e = .returned (.tuple #[v, .bool (!welBad nm n1 n2)]) ∧ Own b8 w' w.heap.size 5 v (if welBad nm n1 n2 then [] else welBytes nm s1 s2) ∧ Below w.heap.size w w' := by
  obtain ⟨i0, hi0, hz0, hz1, hz2⟩ := info_parts infoU8
  have HR1 := Lib.hid hr1
  have HN1 := Lib.hid hn1
  have HR2 := Lib.hid hr2
  have HN2 := Lib.hid hn2
  have HB := Lib.hid ((Below.refl w.heap.size w).alloc (Nat.le_refl _) (.cells #[.int .i64 nm, .slice A1 n1 c1, .slice A2 n2 c2] 41))
  have HF := Lib.hid (show ∀ W0, w.alloc (.cells #[.int .i64 nm, .slice A1 n1 c1, .slice A2 n2 c2] 41) = W0 →
      Blk W0 w.heap.size 41 [.int .i64 nm, .slice A1 n1 c1, .slice A2 n2 c2] ∧ Below w.heap.size w W0 ∧ W0.heap.size = w.heap.size + 1 by
    rintro W0 rfl
    exact ⟨Blk.new w _ _, (Below.refl _ _).alloc (Nat.le_refl _) _, by simp⟩)
  rw [show (welC nm A1 n1 c1 A2 n2 c2).toArray = #[.int .i64 nm, .slice A1 n1 c1, .slice A2 n2 c2] from rfl]
  clear hr1 hn1 hr2 hn2
  by_cases h1 : outOf nm 255 = true
  · have e1 : welBad nm n1 n2 = true := by unfold welBad; rw [h1]; rfl
    have hh := fun w => in9_any nm 255 w
    simp only [h1] at hh
    have HI := Lib.hid hh
    rw [e1, if_pos rfl]
    clear e1 h1 hh
    go_enter Try.func20, Try.ntmps20
    go_wp2_with fail
    refine (HI.out _).mono ?_
    rintro e w' ⟨rfl, rfl⟩
    go_wp2_with fail
    go_ret2
    exact ⟨_, rfl, Own.nil_ _ _ _ _, HB.out⟩
  · rw [Bool.not_eq_true] at h1
    have hh := fun w => in9_any nm 255 w
    simp only [h1] at hh
    have HI := Lib.hid hh
    have H1 := Lib.hid h1
    clear h1 hh
    by_cases h2 : 65535 < n1
    · have e1 : welBad nm n1 n2 = true := by
        have : outOf (n1 : Int) 65535 = true := by unfold outOf; simp; omega
        unfold welBad; rw [this]; simp
      have h2' : ((65535 : Int) < (n1 : Int)) = True := by simp; omega
      rw [e1, if_pos rfl]
      clear e1 h2
      go_enter Try.func20, Try.ntmps20
      go_wp2_with fail
      refine (HI.out _).mono ?_
      rintro e w' ⟨rfl, rfl⟩
      go_wp2_with fail
      go_ret2
      exact ⟨_, rfl, Own.nil_ _ _ _ _, HB.out⟩
    · have h2' : ((65535 : Int) < (n1 : Int)) = False := by simp; omega
      have o1 : outOf (n1 : Int) 65535 = false := by unfold outOf; simp; omega
      have HO1 := Lib.hid o1
      clear h2 o1
      by_cases h3 : 65535 < n2
      · have e1 : welBad nm n1 n2 = true := by
          have : outOf (n2 : Int) 65535 = true := by unfold outOf; simp; omega
          unfold welBad; rw [this]; simp
        have h3' : ((65535 : Int) < (n2 : Int)) = True := by simp; omega
        rw [e1, if_pos rfl]
        clear e1 h3
        go_enter Try.func20, Try.ntmps20
        go_wp2_with fail
        refine (HI.out _).mono ?_
        rintro e w' ⟨rfl, rfl⟩
        go_wp2_with fail
        go_ret2
        exact ⟨_, rfl, Own.nil_ _ _ _ _, HB.out⟩
      · have h3' : ((65535 : Int) < (n2 : Int)) = False := by simp; omega
        have o2 : outOf (n2 : Int) 65535 = false := by unfold outOf; simp; omega
        have e1 : welBad nm n1 n2 = decide (65536 < 5 + n1 + n2) := by unfold welBad; rw [H1.out, HO1.out, o2]; rfl
        obtain ⟨N, rfl, hN⟩ := outOf_nat H1.out
        have hbe := beAt0 (N : Int)
        rw [e1]
        have tok1 : True := trivial
        have HLit := Lib.hid (fun (W0 : World) => Own.lit b8 W0 W0.heap.size 5 [beAt (N : Int) 0] (Nat.le_refl _) (by simp [maxLen]))
        clear e1 h3 o2
        by_cases h4 : 65536 < 5 + n1 + n2
        · rw [decide_eq_true h4, if_pos rfl]
          go_enter Try.func20, Try.ntmps20
          go_wp2_with fail
          generalize hW0 : World.alloc w _ = W0
          obtain ⟨hbx0, hb0, hz0'⟩ := HF.out W0 hW0
          have HBx := Lib.hid hbx0
          have HB0 := Lib.hid hb0
          have c0 := hbx0.cell 0 rfl
          have c1' := hbx0.cell 1 rfl
          have c2' := hbx0.cell 2 rfl
          have hgt0 : w.heap.size < W0.heap.size := by omega
          clear hW0 HF hbx0 hb0 hz0'
          refine (HI.out _).mono ?_
          rintro e w' ⟨rfl, rfl⟩
          go_wp2_with fail
          go_region_held3 (fun w' => w'.cell? ⟨w.heap.size, 0, none⟩ = some (.int .i64 (N : Int)) ∧ w'.cell? ⟨w.heap.size, 1, none⟩ = some (.slice A1 n1 c1) ∧ w'.cell? ⟨w.heap.size, 2, none⟩ = some (.slice A2 n2 c2))
            (first
              | exact w3s (HBx.out.below HB5.out (by omega))
              | exact w3s (HBx.out.below HB4.out (by omega))
              | exact w3s (HBx.out.below HB3.out (by omega))
              | exact w3s (HBx.out.below HB2.out (by omega))
              | exact w3s (HBx.out.below (HB2.out.alloc HB2.out.size _) (by omega))
              | exact w3s (HBx.out.below ((Below.refl W0.heap.size W0).drew.alloc (by show W0.heap.size ≤ W0.heap.size; omega) (.cells #[.int .u8 (bv (beAt (N : Int) 0))] 5)) (by omega))
              | go_keep)
            (first
              | (go_simp; go_at_call 58; have _t := tok1; clear tok1; refine (row9_any (B' := B') (ys := s1) (((HR1.out.below (HB0.out.mono hB')).drew).alloc (by show B' ≤ W0.heap.size; omega) _) (by show B' ≤ (World.alloc W0.drew _).heap.size; rw [World.size_alloc]; show B' ≤ W0.heap.size + 1; omega) HN1.out (by omega)).mono ?_; rintro e w2 ⟨v2, rfl, ho2, hb2⟩; obtain ⟨A2', c2'', rfl, hr2, -, -, -⟩ := ho2.shape' (n := 2 + n1) (by rw [rowB_len, HN1.out]); have HR2' := Lib.hid hr2; have HO12 := Lib.hid ((HLit.out W0.drew).below hb2 (Nat.le_refl _)); have HB2 := Lib.hid (((Below.refl W0.heap.size W0).drew.alloc (by show W0.heap.size ≤ W0.heap.size; omega) _).trans (hb2.mono (by rw [World.size_alloc]; show W0.heap.size ≤ W0.heap.size + 1; omega)) : Below W0.heap.size W0 w2); clear ho2 hb2 hr2)
              | (go_simp; go_at_call 58; have _t := tok1; clear tok1; refine (row9_any (B' := B') (ys := s1) ((HR1.out.below (HB0.out.mono hB')).drew) (by show B' ≤ W0.heap.size; omega) HN1.out (by omega)).mono ?_; rintro e w2 ⟨v2, rfl, ho2, hb2⟩; obtain ⟨A2', c2'', rfl, hr2, -, -, -⟩ := ho2.shape' (n := 2 + n1) (by rw [rowB_len, HN1.out]); have HR2' := Lib.hid hr2; have HB2 := Lib.hid ((Below.refl W0.heap.size W0).drew.trans hb2 : Below W0.heap.size W0 w2); clear ho2 hb2 hr2)
              | (refine step_append_rd rfl (.tmp 23) (.tmp 26) 24 rfl b8_one W0.heap.size 5 i0 _ 1 Try.underlying24 hi0 hz0 hz1 hz2 rfl _ _ rfl HO12.out w2.heap.size A2' (2 + n1) c2'' (rowB s1) rfl (by rw [rowB_len, HN1.out]) HR2'.out (by have := HN1.out; simp [maxLen, rowB_len]; omega) (by have := HN1.out; simp [rowB_len]; omega) HB2.out.size ?_; intro v3 w3 hown3 hg3 hbb3; have HO3 := Lib.hid hown3; have HB3 := Lib.hid (hbb3 _ _ (Nat.le_refl _) HB2.out); clear hown3 hg3 hbb3)
              | (refine step_append_rd rfl (.tmp 23) (.tmp 26) 24 rfl b8_one W0.heap.size 5 i0 _ 1 Try.underlying24 hi0 hz0 hz1 hz2 rfl _ _ rfl (Own.lit b8 w2 W0.heap.size 5 [beAt (N : Int) 0] HB2.out.size (by simp [maxLen])) w2.heap.size A2' (2 + n1) c2'' (rowB s1) rfl (by rw [rowB_len, HN1.out]) (HR2'.out.alloc (Nat.le_refl _) _) (by have := HN1.out; simp [maxLen, rowB_len]; omega) (by have := HN1.out; simp [rowB_len]; omega) (by rw [World.size_alloc]; exact Nat.le_succ_of_le HB2.out.size) ?_; intro v3 w3 hown3 hg3 hbb3; have HO3 := Lib.hid hown3; have HB3 := Lib.hid (hbb3 _ _ (Nat.le_refl _) (HB2.out.alloc HB2.out.size _)); clear hown3 hg3 hbb3)
              | (go_simp; go_at_call 58; refine (row9_any (B' := B') (ys := s2) (HR2.out.below ((HB0.out.trans (HB3.out.mono (by omega))).mono hB')) (by have := HB3.out.size; omega) HN2.out (by omega)).mono ?_; rintro e w4 ⟨v4, rfl, ho4, hb4⟩; obtain ⟨A4, c4, rfl, hr4, -, -, -⟩ := ho4.shape' (n := 2 + n2) (by rw [rowB_len, HN2.out]); have HR4 := Lib.hid hr4; have HO34 := Lib.hid (HO3.out.below hb4 (Nat.le_refl _)); have HB4 := Lib.hid (HB3.out.trans (hb4.mono HB3.out.size)); clear ho4 hb4 hr4)
              | (refine step_append_rd rfl (.tmp 27) (.tmp 30) 24 rfl b8_one W0.heap.size 5 i0 _ 1 Try.underlying24 hi0 hz0 hz1 hz2 rfl _ _ rfl HO34.out w4.heap.size A4 (2 + n2) c4 (rowB s2) rfl (by rw [rowB_len, HN2.out]) HR4.out (by have := HN1.out; have := HN2.out; simp [maxLen, rowB_len]; omega) (by have := HN1.out; have := HN2.out; simp [rowB_len]; omega) HB4.out.size ?_; intro v5 w5 hown5 hg5 hbb5; obtain ⟨A5, c5, rfl, -, -, -, -⟩ := hown5.shape' (n := 5 + n1 + n2) (by have := HN1.out; have := HN2.out; simp [rowB_len]; omega); have HO5 := Lib.hid hown5; have HB5 := Lib.hid (hbb5 _ _ (Nat.le_refl _) HB4.out); clear hown5 hg5 hbb5)
              | (go_simp; go_at_call 55; refine (fits_big _ _ _ _ h4).mono ?_; rintro e w6 ⟨rfl, rfl⟩))
          all_goals go_wp2_with fail
          all_goals go_ret2
          all_goals exact ⟨_, rfl, Own.nil_ _ _ _ _, HB0.out.trans (HB5.out.mono (by omega))⟩
        · rw [decide_eq_false h4, if_neg (by simp)]
          go_enter Try.func20, Try.ntmps20
          go_wp2_with fail
          generalize hW0 : World.alloc w _ = W0
          obtain ⟨hbx0, hb0, hz0'⟩ := HF.out W0 hW0
          have HBx := Lib.hid hbx0
          have HB0 := Lib.hid hb0
          have c0 := hbx0.cell 0 rfl
          have c1' := hbx0.cell 1 rfl
          have c2' := hbx0.cell 2 rfl
          have hgt0 : w.heap.size < W0.heap.size := by omega
          clear hW0 HF hbx0 hb0 hz0'
          refine (HI.out _).mono ?_
          rintro e w' ⟨rfl, rfl⟩
          go_wp2_with fail
          go_region_held3 (fun w' => w'.cell? ⟨w.heap.size, 0, none⟩ = some (.int .i64 (N : Int)) ∧ w'.cell? ⟨w.heap.size, 1, none⟩ = some (.slice A1 n1 c1) ∧ w'.cell? ⟨w.heap.size, 2, none⟩ = some (.slice A2 n2 c2))
            (first
              | exact w3s (HBx.out.below HB5.out (by omega))
              | exact w3s (HBx.out.below HB4.out (by omega))
              | exact w3s (HBx.out.below HB3.out (by omega))
              | exact w3s (HBx.out.below HB2.out (by omega))
              | exact w3s (HBx.out.below (HB2.out.alloc HB2.out.size _) (by omega))
              | exact w3s (HBx.out.below ((Below.refl W0.heap.size W0).drew.alloc (by show W0.heap.size ≤ W0.heap.size; omega) (.cells #[.int .u8 (bv (beAt (N : Int) 0))] 5)) (by omega))
              | go_keep)
            (first
              | (go_simp; go_at_call 58; have _t := tok1; clear tok1; refine (row9_any (B' := B') (ys := s1) (((HR1.out.below (HB0.out.mono hB')).drew).alloc (by show B' ≤ W0.heap.size; omega) _) (by show B' ≤ (World.alloc W0.drew _).heap.size; rw [World.size_alloc]; show B' ≤ W0.heap.size + 1; omega) HN1.out (by omega)).mono ?_; rintro e w2 ⟨v2, rfl, ho2, hb2⟩; obtain ⟨A2', c2'', rfl, hr2, -, -, -⟩ := ho2.shape' (n := 2 + n1) (by rw [rowB_len, HN1.out]); have HR2' := Lib.hid hr2; have HO12 := Lib.hid ((HLit.out W0.drew).below hb2 (Nat.le_refl _)); have HB2 := Lib.hid (((Below.refl W0.heap.size W0).drew.alloc (by show W0.heap.size ≤ W0.heap.size; omega) _).trans (hb2.mono (by rw [World.size_alloc]; show W0.heap.size ≤ W0.heap.size + 1; omega)) : Below W0.heap.size W0 w2); clear ho2 hb2 hr2)
              | (go_simp; go_at_call 58; have _t := tok1; clear tok1; refine (row9_any (B' := B') (ys := s1) ((HR1.out.below (HB0.out.mono hB')).drew) (by show B' ≤ W0.heap.size; omega) HN1.out (by omega)).mono ?_; rintro e w2 ⟨v2, rfl, ho2, hb2⟩; obtain ⟨A2', c2'', rfl, hr2, -, -, -⟩ := ho2.shape' (n := 2 + n1) (by rw [rowB_len, HN1.out]); have HR2' := Lib.hid hr2; have HB2 := Lib.hid ((Below.refl W0.heap.size W0).drew.trans hb2 : Below W0.heap.size W0 w2); clear ho2 hb2 hr2)
              | (refine step_append_rd rfl (.tmp 23) (.tmp 26) 24 rfl b8_one W0.heap.size 5 i0 _ 1 Try.underlying24 hi0 hz0 hz1 hz2 rfl _ _ rfl HO12.out w2.heap.size A2' (2 + n1) c2'' (rowB s1) rfl (by rw [rowB_len, HN1.out]) HR2'.out (by have := HN1.out; simp [maxLen, rowB_len]; omega) (by have := HN1.out; simp [rowB_len]; omega) HB2.out.size ?_; intro v3 w3 hown3 hg3 hbb3; have HO3 := Lib.hid hown3; have HB3 := Lib.hid (hbb3 _ _ (Nat.le_refl _) HB2.out); clear hown3 hg3 hbb3)
              | (refine step_append_rd rfl (.tmp 23) (.tmp 26) 24 rfl b8_one W0.heap.size 5 i0 _ 1 Try.underlying24 hi0 hz0 hz1 hz2 rfl _ _ rfl (Own.lit b8 w2 W0.heap.size 5 [beAt (N : Int) 0] HB2.out.size (by simp [maxLen])) w2.heap.size A2' (2 + n1) c2'' (rowB s1) rfl (by rw [rowB_len, HN1.out]) (HR2'.out.alloc (Nat.le_refl _) _) (by have := HN1.out; simp [maxLen, rowB_len]; omega) (by have := HN1.out; simp [rowB_len]; omega) (by rw [World.size_alloc]; exact Nat.le_succ_of_le HB2.out.size) ?_; intro v3 w3 hown3 hg3 hbb3; have HO3 := Lib.hid hown3; have HB3 := Lib.hid (hbb3 _ _ (Nat.le_refl _) (HB2.out.alloc HB2.out.size _)); clear hown3 hg3 hbb3)
              | (go_simp; go_at_call 58; refine (row9_any (B' := B') (ys := s2) (HR2.out.below ((HB0.out.trans (HB3.out.mono (by omega))).mono hB')) (by have := HB3.out.size; omega) HN2.out (by omega)).mono ?_; rintro e w4 ⟨v4, rfl, ho4, hb4⟩; obtain ⟨A4, c4, rfl, hr4, -, -, -⟩ := ho4.shape' (n := 2 + n2) (by rw [rowB_len, HN2.out]); have HR4 := Lib.hid hr4; have HO34 := Lib.hid (HO3.out.below hb4 (Nat.le_refl _)); have HB4 := Lib.hid (HB3.out.trans (hb4.mono HB3.out.size)); clear ho4 hb4 hr4)
              | (refine step_append_rd rfl (.tmp 27) (.tmp 30) 24 rfl b8_one W0.heap.size 5 i0 _ 1 Try.underlying24 hi0 hz0 hz1 hz2 rfl _ _ rfl HO34.out w4.heap.size A4 (2 + n2) c4 (rowB s2) rfl (by rw [rowB_len, HN2.out]) HR4.out (by have := HN1.out; have := HN2.out; simp [maxLen, rowB_len]; omega) (by have := HN1.out; have := HN2.out; simp [rowB_len]; omega) HB4.out.size ?_; intro v5 w5 hown5 hg5 hbb5; obtain ⟨A5, c5, rfl, -, -, -, -⟩ := hown5.shape' (n := 5 + n1 + n2) (by have := HN1.out; have := HN2.out; simp [rowB_len]; omega); have HO5 := Lib.hid hown5; have HB5 := Lib.hid (hbb5 _ _ (Nat.le_refl _) HB4.out); clear hown5 hg5 hbb5)
              | (go_simp; go_at_call 55; refine (fits_ok _ _ _ _ h4).mono ?_; rintro e w6 ⟨rfl, rfl⟩))
          all_goals go_wp2_with fail
          all_goals go_ret2
          all_goals exact ⟨_, rfl, (HO5.out.less (by omega)).cast (by unfold welBytes; simp [be]), HB0.out.trans (HB5.out.mono (by omega))⟩
end Go.Proofs.Ytloglpamnalmeaa
