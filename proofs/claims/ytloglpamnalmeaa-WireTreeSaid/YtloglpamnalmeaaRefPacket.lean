/- CONTRACT: burrowref09.PutPacket. -/
import Derived.Test.YtloglpamnalmeaaPacket
namespace Go.Proofs.Ytloglpamnalmeaa
open Go.RowKit
set_option linter.unusedVariables false
set_option linter.unusedSimpArgs false
theorem outOf_nat {z most : Int} (h : outOf z most = false) : ∃ N : Nat, z = (N : Int) ∧ (N : Int) ≤ most := by
  unfold outOf at h
  simp at h
  exact ⟨z.toNat, by omega, by omega⟩

theorem fits_big (A : Option Addr) (n c : Nat) (w : World) (h : 65536 < n) : Calls Try.prog 55 #[.slice A n c] w fun e w' => e = .returned (.tuple #[.slice none 0 0, .bool false]) ∧ w = w' :=
  (fits_any A n c w).mono fun e w' ⟨h1, h2⟩ => ⟨by rw [h1, if_pos h]; simp [h], h2⟩
theorem fits_ok (A : Option Addr) (n c : Nat) (w : World) (h : ¬ 65536 < n) : Calls Try.prog 55 #[.slice A n c] w fun e w' => e = .returned (.tuple #[.slice A n c, .bool true]) ∧ w = w' :=
  (fits_any A n c w).mono fun e w' ⟨h1, h2⟩ => ⟨by rw [h1, if_neg h]; simp [h], h2⟩
set_option maxRecDepth 100000 in
set_option maxHeartbeats 4000000 in
theorem refPutPacket_any (sum : List (BitVec 8)) (epoch frm number : Int) (A : Option Addr) (n c B' : Nat) (text : List (BitVec 8)) (w : World) (hs : sum.length = 32)
    (hr : Rd b8 w B' A text) (hB' : B' ≤ w.heap.size) (hn : text.length = n) (hy : n ≤ 1000000) :
    Calls Try.prog 14 #[.agg (packetC sum epoch frm number A n c).toArray] w fun e w' => ∃ v, e = .returned (.tuple #[v, .bool (!pkBad epoch frm number n)]) ∧ Own b8 w' w.heap.size 5 v (if pkBad epoch frm number n then [] else pkBytes sum epoch frm number text) ∧ Below w.heap.size w w' := by
  obtain ⟨i0, hi0, hz0, hz1, hz2⟩ := info_parts infoU8
  have HS := Lib.hid hs
  have HR := Lib.hid hr
  have HN := Lib.hid hn
  have HBx := Lib.hid (show PkBox (w.alloc (.cells (packetC sum epoch frm number A n c).toArray 26)) w.heap.size sum epoch frm number A n c from Blk.new w _ _)
  have HB0 := Lib.hid ((Below.refl w.heap.size w).alloc (Nat.le_refl _) (.cells (packetC sum epoch frm number A n c).toArray 26))
  have hz := World.size_alloc w (.cells (packetC sum epoch frm number A n c).toArray 26)
  clear hs hr hn
  by_cases h1 : (outOf epoch 4294967295 || outOf frm 31) = true
  · have e1 : pkBad epoch frm number n = true := by unfold pkBad; rw [h1]; rfl
    have hh := fun w => headGood_any epoch frm w
    simp only [h1] at hh
    have HH := Lib.hid hh
    rw [e1, if_pos rfl]
    clear e1 h1 hh
    obtain ⟨c32, c33, c34, c35, -⟩ := HBx.out.all5 HS.out
    go_enter Try.func14, Try.ntmps14
    go_wp2_with fail
    refine (HH.out _).mono ?_
    rintro e w' ⟨rfl, rfl⟩
    go_wp2_with fail
    go_ret2
    exact ⟨_, rfl, Own.nil_ _ _ _ _, HB0.out⟩
  · rw [Bool.not_eq_true] at h1
    have hh := fun w => headGood_any epoch frm w
    simp only [h1] at hh
    have HH := Lib.hid hh
    have H1 := Lib.hid h1
    clear h1 hh
    by_cases h2 : outOf number 4294967295 = true
    · have e1 : pkBad epoch frm number n = true := by unfold pkBad; rw [h2]; simp
      have hh := fun w => in9_any number 4294967295 w
      simp only [h2] at hh
      have HI := Lib.hid hh
      rw [e1, if_pos rfl]
      clear e1 h2 hh
      obtain ⟨c32, c33, c34, c35, -⟩ := HBx.out.all5 HS.out
      go_enter Try.func14, Try.ntmps14
      go_wp2_with fail
      refine (HH.out _).mono ?_
      rintro e w' ⟨rfl, rfl⟩
      go_wp2_with fail
      refine (HI.out _).mono ?_
      rintro e w' ⟨rfl, rfl⟩
      go_wp2_with fail
      go_ret2
      exact ⟨_, rfl, Own.nil_ _ _ _ _, HB0.out⟩
    · rw [Bool.not_eq_true] at h2
      have hh := fun w => in9_any number 4294967295 w
      simp only [h2] at hh
      have HI := Lib.hid hh
      have H2 := Lib.hid h2
      clear h2 hh
      by_cases h3 : 65535 < n
      · have e1 : pkBad epoch frm number n = true := by
          have : outOf (n : Int) 65535 = true := by unfold outOf; simp; omega
          unfold pkBad; rw [this]; simp
        have h3' : (65535 : Int) < (n : Int) := by omega
        rw [e1, if_pos rfl]
        clear e1 h3
        obtain ⟨c32, c33, c34, c35, -⟩ := HBx.out.all5 HS.out
        go_enter Try.func14, Try.ntmps14
        go_wp2_with fail
        refine (HH.out _).mono ?_
        rintro e w' ⟨rfl, rfl⟩
        go_wp2_with fail
        refine (HI.out _).mono ?_
        rintro e w' ⟨rfl, rfl⟩
        go_wp2_with fail
        go_ret2
        exact ⟨_, rfl, Own.nil_ _ _ _ _, HB0.out⟩
      · have h3' : ((65535 : Int) < (n : Int)) = False := by simp; omega
        have e1 : pkBad epoch frm number n = decide (65536 < 43 + n) := by
          have h3o : outOf (n : Int) 65535 = false := by unfold outOf; simp; omega
          unfold pkBad; rw [H1.out, H2.out, h3o]; rfl
        obtain ⟨E, rfl, hE⟩ := outOf_nat (Bool.or_eq_false_iff.1 H1.out).1
        obtain ⟨F, rfl, hF⟩ := outOf_nat (Bool.or_eq_false_iff.1 H1.out).2
        obtain ⟨N, rfl, hN⟩ := outOf_nat H2.out
        rw [e1]
        clear e1 h3
        by_cases h4 : 65536 < 43 + n
        · rw [decide_eq_true h4, if_pos rfl]
          obtain ⟨c32, c33, c34, c35, -⟩ := HBx.out.all5 HS.out
          go_enter Try.func14, Try.ntmps14
          go_wp2_with fail
          generalize World.alloc w _ = W0 at HBx HB0 hz c32 c33 c34 c35 ⊢
          refine (HH.out _).mono ?_
          rintro e w' ⟨rfl, rfl⟩
          go_wp2_with fail
          refine (HI.out _).mono ?_
          rintro e w' ⟨rfl, rfl⟩
          go_wp2_with fail
          have hu := Try.underlying23
          have hi : (Try.prog.info? 23).map (·.size) = some (sum.map b8).length := by rw [List.length_map, HS.out]; exact infoSum
          have ck := HBx.out.r0 HS.out
          have hh := head9_any sum E F HS.out (by omega) (by omega) W0.drew
          rw [arrV_mk] at hh
          have HHd := Lib.hid hh
          clear hh
          go_region_held3 (fun w' => w'.cell? ⟨w.heap.size, 32, none⟩ = some (.int .i64 (E : Int)) ∧ w'.cell? ⟨w.heap.size, 33, none⟩ = some (.int .i64 (F : Int)) ∧ w'.cell? ⟨w.heap.size, 34, none⟩ = some (.int .i64 (N : Int)) ∧ w'.cell? ⟨w.heap.size, 35, none⟩ = some (.slice A n c) ∧ w'.rangeAt w.heap.size 0 (sum.map b8))
            (first
              | exact (HBx.out.below HB5.out (by omega)).all5 HS.out
              | exact (HBx.out.below HB4.out (by omega)).all5 HS.out
              | exact (HBx.out.below HB3.out (by omega)).all5 HS.out
              | exact (HBx.out.below HB2.out (by omega)).all5 HS.out
              | exact (HBx.out.below HB1.out (by omega)).all5 HS.out
              | go_keep)
            (first
              | (go_simp; go_at_call 56; refine HHd.out.mono ?_; rintro e w1 ⟨v1, rfl, ho1, hb1⟩; have HO1 := Lib.hid (show Own b8 w1 W0.heap.size 5 v1 _ from ho1); have HB1 := Lib.hid ((Below.refl W0.heap.size W0).drew.trans hb1); clear ho1 hb1)
              | (go_simp; go_at_call 57; refine (num9_any N 4 4 rfl (by omega) (by omega) _).mono ?_; rintro e w2 ⟨v2, rfl, ho2, hb2⟩; obtain ⟨A2, c2, rfl, hr2, -, -, -⟩ := ho2.shape' (be_len _ _); have HR2 := Lib.hid hr2; have HO12 := Lib.hid (HO1.out.below hb2 (Nat.le_refl _)); have HB2 := Lib.hid (HB1.out.trans (hb2.mono HB1.out.size)); clear ho2 hb2 hr2)
              | (refine step_append_rd rfl (.tmp 28) (.tmp 31) 24 rfl b8_one W0.heap.size 5 i0 _ 1 Try.underlying24 hi0 hz0 hz1 hz2 rfl _ _ rfl HO12.out w2.heap.size A2 4 c2 (be N 4) rfl (be_len _ _).symm HR2.out (by have := HS.out; simp [maxLen, be_len, groupB_len]; omega) (by have := HS.out; simp [be_len, groupB_len]; omega) HB2.out.size ?_; intro v3 w3 hown3 hg3 hbb3; have HO3 := Lib.hid hown3; have HB3 := Lib.hid (hbb3 _ _ (Nat.le_refl _) HB2.out); clear hown3 hg3 hbb3)
              | (go_simp; go_at_call 58; refine (row9_any (HR.out.below ((HB0.out.trans (HB3.out.mono (by omega))).mono hB')) (by have := HB3.out.size; omega) HN.out (by omega)).mono ?_; rintro e w4 ⟨v4, rfl, ho4, hb4⟩; obtain ⟨A4, c4, rfl, hr4, -, -, -⟩ := ho4.shape' (n := 2 + n) (by rw [rowB_len, HN.out]); have HR4 := Lib.hid hr4; have HO34 := Lib.hid (HO3.out.below hb4 (Nat.le_refl _)); have HB4 := Lib.hid (HB3.out.trans (hb4.mono HB3.out.size)); clear ho4 hb4 hr4)
              | (refine step_append_rd rfl (.tmp 32) (.tmp 35) 24 rfl b8_one W0.heap.size 5 i0 _ 1 Try.underlying24 hi0 hz0 hz1 hz2 rfl _ _ rfl HO34.out w4.heap.size A4 (2 + n) c4 (rowB text) rfl (by rw [rowB_len, HN.out]) HR4.out (by have := HS.out; have := HN.out; simp [maxLen, be_len, groupB_len, rowB_len]; omega) (by have := HS.out; have := HN.out; simp [be_len, groupB_len, rowB_len]; omega) HB4.out.size ?_; intro v5 w5 hown5 hg5 hbb5; obtain ⟨A5, c5, rfl, -, -, -, -⟩ := hown5.shape' (n := 43 + n) (by have := HS.out; have := HN.out; simp [be_len, groupB_len, rowB_len]; omega); have HO5 := Lib.hid hown5; have HB5 := Lib.hid (hbb5 _ _ (Nat.le_refl _) HB4.out); clear hown5 hg5 hbb5)
              | (go_simp; go_at_call 55; refine (fits_big _ _ _ _ h4).mono ?_; rintro e w6 ⟨rfl, rfl⟩))
          go_wp2_with fail
          go_ret2
          exact ⟨_, rfl, Own.nil_ _ _ _ _, HB0.out.trans (HB5.out.mono (by omega))⟩
        · rw [decide_eq_false h4, if_neg (by simp)]
          obtain ⟨c32, c33, c34, c35, -⟩ := HBx.out.all5 HS.out
          go_enter Try.func14, Try.ntmps14
          go_wp2_with fail
          generalize World.alloc w _ = W0 at HBx HB0 hz c32 c33 c34 c35 ⊢
          refine (HH.out _).mono ?_
          rintro e w' ⟨rfl, rfl⟩
          go_wp2_with fail
          refine (HI.out _).mono ?_
          rintro e w' ⟨rfl, rfl⟩
          go_wp2_with fail
          have hu := Try.underlying23
          have hi : (Try.prog.info? 23).map (·.size) = some (sum.map b8).length := by rw [List.length_map, HS.out]; exact infoSum
          have ck := HBx.out.r0 HS.out
          have hh := head9_any sum E F HS.out (by omega) (by omega) W0.drew
          rw [arrV_mk] at hh
          have HHd := Lib.hid hh
          clear hh
          go_region_held3 (fun w' => w'.cell? ⟨w.heap.size, 32, none⟩ = some (.int .i64 (E : Int)) ∧ w'.cell? ⟨w.heap.size, 33, none⟩ = some (.int .i64 (F : Int)) ∧ w'.cell? ⟨w.heap.size, 34, none⟩ = some (.int .i64 (N : Int)) ∧ w'.cell? ⟨w.heap.size, 35, none⟩ = some (.slice A n c) ∧ w'.rangeAt w.heap.size 0 (sum.map b8))
            (first
              | exact (HBx.out.below HB5.out (by omega)).all5 HS.out
              | exact (HBx.out.below HB4.out (by omega)).all5 HS.out
              | exact (HBx.out.below HB3.out (by omega)).all5 HS.out
              | exact (HBx.out.below HB2.out (by omega)).all5 HS.out
              | exact (HBx.out.below HB1.out (by omega)).all5 HS.out
              | go_keep)
            (first
              | (go_simp; go_at_call 56; refine HHd.out.mono ?_; rintro e w1 ⟨v1, rfl, ho1, hb1⟩; have HO1 := Lib.hid (show Own b8 w1 W0.heap.size 5 v1 _ from ho1); have HB1 := Lib.hid ((Below.refl W0.heap.size W0).drew.trans hb1); clear ho1 hb1)
              | (go_simp; go_at_call 57; refine (num9_any N 4 4 rfl (by omega) (by omega) _).mono ?_; rintro e w2 ⟨v2, rfl, ho2, hb2⟩; obtain ⟨A2, c2, rfl, hr2, -, -, -⟩ := ho2.shape' (be_len _ _); have HR2 := Lib.hid hr2; have HO12 := Lib.hid (HO1.out.below hb2 (Nat.le_refl _)); have HB2 := Lib.hid (HB1.out.trans (hb2.mono HB1.out.size)); clear ho2 hb2 hr2)
              | (refine step_append_rd rfl (.tmp 28) (.tmp 31) 24 rfl b8_one W0.heap.size 5 i0 _ 1 Try.underlying24 hi0 hz0 hz1 hz2 rfl _ _ rfl HO12.out w2.heap.size A2 4 c2 (be N 4) rfl (be_len _ _).symm HR2.out (by have := HS.out; simp [maxLen, be_len, groupB_len]; omega) (by have := HS.out; simp [be_len, groupB_len]; omega) HB2.out.size ?_; intro v3 w3 hown3 hg3 hbb3; have HO3 := Lib.hid hown3; have HB3 := Lib.hid (hbb3 _ _ (Nat.le_refl _) HB2.out); clear hown3 hg3 hbb3)
              | (go_simp; go_at_call 58; refine (row9_any (HR.out.below ((HB0.out.trans (HB3.out.mono (by omega))).mono hB')) (by have := HB3.out.size; omega) HN.out (by omega)).mono ?_; rintro e w4 ⟨v4, rfl, ho4, hb4⟩; obtain ⟨A4, c4, rfl, hr4, -, -, -⟩ := ho4.shape' (n := 2 + n) (by rw [rowB_len, HN.out]); have HR4 := Lib.hid hr4; have HO34 := Lib.hid (HO3.out.below hb4 (Nat.le_refl _)); have HB4 := Lib.hid (HB3.out.trans (hb4.mono HB3.out.size)); clear ho4 hb4 hr4)
              | (refine step_append_rd rfl (.tmp 32) (.tmp 35) 24 rfl b8_one W0.heap.size 5 i0 _ 1 Try.underlying24 hi0 hz0 hz1 hz2 rfl _ _ rfl HO34.out w4.heap.size A4 (2 + n) c4 (rowB text) rfl (by rw [rowB_len, HN.out]) HR4.out (by have := HS.out; have := HN.out; simp [maxLen, be_len, groupB_len, rowB_len]; omega) (by have := HS.out; have := HN.out; simp [be_len, groupB_len, rowB_len]; omega) HB4.out.size ?_; intro v5 w5 hown5 hg5 hbb5; obtain ⟨A5, c5, rfl, -, -, -, -⟩ := hown5.shape' (n := 43 + n) (by have := HS.out; have := HN.out; simp [be_len, groupB_len, rowB_len]; omega); have HO5 := Lib.hid hown5; have HB5 := Lib.hid (hbb5 _ _ (Nat.le_refl _) HB4.out); clear hown5 hg5 hbb5)
              | (go_simp; go_at_call 55; refine (fits_ok _ _ _ _ h4).mono ?_; rintro e w6 ⟨rfl, rfl⟩))
          go_wp2_with fail
          go_ret2
          exact ⟨_, rfl, (HO5.out.less (by omega)).cast (by unfold pkBytes; simp only [List.append_assoc]), HB0.out.trans (HB5.out.mono (by omega))⟩
end Go.Proofs.Ytloglpamnalmeaa
