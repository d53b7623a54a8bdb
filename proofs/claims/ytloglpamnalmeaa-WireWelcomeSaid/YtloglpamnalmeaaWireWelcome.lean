/- WireWelcome, the walk. -/
import Derived.Test.YtloglpamnalmeaaWireAlive
import Derived.Test.YtloglpamnalmeaaRefWelcome
import Derived.Test.YtloglpamnalmeaaTakeWel
import Derived.Test.YtloglpamnalmeaaOpen
namespace Go.Proofs.Ytloglpamnalmeaa
open Go.RowKit
set_option linter.unusedVariables false
set_option linter.unusedSimpArgs false

theorem welC_len (nm : Int) (A1 : Option Addr) (n1 c1 : Nat) (A2 : Option Addr) (n2 c2 : Nat) : (welC nm A1 n1 c1 A2 n2 c2).length = 3 := rfl
set_option maxRecDepth 100000 in
set_option maxHeartbeats 4000000 in
theorem wireWelcome_walk (nm : Int) (A1 : Option Addr) (n1 c1 : Nat) (A2 : Option Addr) (n2 c2 : Nat) (s1 s2 : List (BitVec 8)) (w : World) (we : (Lit.int .i64 nm).wf = true)
    (hr1 : Rd b8 w w.heap.size A1 s1) (hn1 : s1.length = n1) (hnc1 : n1 ≤ c1) (hc1 : c1 ≤ maxLen) (hr2 : Rd b8 w w.heap.size A2 s2) (hn2 : s2.length = n2) (hnc2 : n2 ≤ c2) (hc2 : c2 ≤ maxLen) :
    Calls Try.prog 4 #[.agg (welC nm A1 n1 c1 A2 n2 c2).toArray] w fun e w' => e = .returned (.bool true) ∧ Below w.heap.size w w' := by
  have be' := bounds_i64 we
  have HN1 := Lib.hid hn1
  have HN2 := Lib.hid hn2
  have HBx := Lib.hid (show Blk (w.alloc (.cells (welC nm A1 n1 c1 A2 n2 c2).toArray 41)) w.heap.size 41 (welC nm A1 n1 c1 A2 n2 c2) from Blk.new w _ _)
  have HB0 := Lib.hid ((Below.refl w.heap.size w).alloc (Nat.le_refl _) (.cells (welC nm A1 n1 c1 A2 n2 c2).toArray 41))
  have hz0 := World.size_alloc w (.cells (welC nm A1 n1 c1 A2 n2 c2).toArray 41)
  by_cases hbig : n1 < 70000 ∧ n2 < 70000
  · obtain ⟨q, hq⟩ : ∃ q, q = welBad nm n1 n2 := ⟨_, rfl⟩
    have hput := fun W1 (hb : Below w.heap.size w W1) => putWelcome_any nm A1 n1 c1 A2 n2 c2 w.heap.size s1 s2 W1 be'.1 (by omega) (hr1.below hb) (hr2.below hb) hb.size hn1 hn2 (by omega) (by omega)
    have href := fun W1 (hb : Below w.heap.size w W1) => refPutWelcome_any nm A1 n1 c1 A2 n2 c2 w.heap.size s1 s2 W1 (hr1.below hb) (hr2.below hb) hb.size hn1 hn2 (by omega) (by omega)
    simp only [← hq] at hput href
    cases q with
    | true =>
      simp only [reduceIte] at hput
      rw [errV_pos (by simp)] at hput
      simp only [reduceIte, Bool.not_true] at href
      have HPut := Lib.hid hput
      have HRef := Lib.hid href
      have HQ := Lib.hid hq
      have hlt1 : ((n1 : Int) < 70000) = True := by simp; omega
      have hlt2 : ((n2 : Int) < 70000) = True := by simp; omega
      have HBig := Lib.hid hbig
      clear hr1 hn1 hr2 hn2 we hput href hq be' hbig
      go_enter Try.func4, Try.ntmps4
      go_wp2_with fail
      generalize World.alloc w _ = W0 at HBx HB0 hz0 ⊢
      refine (alive09_any _).mono ?_
      rintro e w1 ⟨rfl, hb1⟩
      have hz1 : W0.heap.size ≤ w1.heap.size := hb1.size
      have HBx1 := Lib.hid (HBx.out.below hb1 (by omega))
      have HB1 := Lib.hid (HB0.out.trans (hb1.mono (by omega)))
      have cc1 := HBx1.out.cell 1 rfl
      have cc2 := HBx1.out.cell 2 rfl
      have hgt0 : w.heap.size < W0.heap.size := by omega
      clear hb1 HBx HB0 hz0
      go_wp2_with (refine wpList_load_mid rfl 41 (.tmp 1) rfl w.heap.size 0 rfl (welC nm A1 n1 c1 A2 n2 c2) _ (Blk.whole HBx1.out) Try.underlying41 rfl infoWelcome ?_)
      refine (HPut.out w1 HB1.out).mono ?_
      rintro e w2 ⟨v2, rfl, ho2, hb2⟩
      have hz2 : w1.heap.size ≤ w2.heap.size := hb2.size
      have HBx2 := Lib.hid (HBx1.out.below hb2 (by omega))
      have HB2 := Lib.hid (HB1.out.trans (hb2.mono (by omega)))
      have HO2 := Lib.hid ho2
      have HL2 := Lib.hid ho2.lt
      clear ho2 hb2 cc1 cc2 HBx1 HPut hlt1 hlt2
      go_wp2_with (refine wpList_load_mid rfl 41 (.tmp 1) rfl w.heap.size 0 rfl (welC nm A1 n1 c1 A2 n2 c2) _ (Blk.whole HBx2.out) Try.underlying41 rfl infoWelcome ?_)
      refine (HRef.out w2 HB2.out).mono ?_
      rintro e w3 ⟨v3, rfl, ho3, hb3⟩
      have hz3 : w2.heap.size ≤ w3.heap.size := hb3.size
      have HB3 := Lib.hid (HB2.out.trans (hb3.mono (by omega)))
      have HO23 := Lib.hid (HO2.out.below hb3 (Nat.le_refl _))
      have HO3 := Lib.hid ho3
      clear ho3 hb3 HBx2 HRef
      obtain ⟨A2', c2', rfl, -, -, -, -⟩ := HO23.out.shape' (n := 0) rfl
      go_wp2_with fail
      refine (answer_bad A2' c2' v3).mono ?_
      rintro e w' ⟨rfl, rfl⟩
      go_wp2_with fail
      go_ret
      exact ⟨rfl, HB3.out⟩
    | false =>
      simp only [Bool.false_eq_true, reduceIte, errV_zero] at hput
      simp only [Bool.false_eq_true, reduceIte, Bool.not_false] at href
      have HPut := Lib.hid hput
      have HRef := Lib.hid href
      have HQ := Lib.hid hq
      have hlt1 : ((n1 : Int) < 70000) = True := by simp; omega
      have hlt2 : ((n2 : Int) < 70000) = True := by simp; omega
      have HBig := Lib.hid hbig
      clear hr1 hn1 hr2 hn2 we hput href hq be' hbig
      go_enter Try.func4, Try.ntmps4
      go_wp2_with fail
      generalize World.alloc w _ = W0 at HBx HB0 hz0 ⊢
      refine (alive09_any _).mono ?_
      rintro e w1 ⟨rfl, hb1⟩
      have hz1 : W0.heap.size ≤ w1.heap.size := hb1.size
      have HBx1 := Lib.hid (HBx.out.below hb1 (by omega))
      have HB1 := Lib.hid (HB0.out.trans (hb1.mono (by omega)))
      have cc1 := HBx1.out.cell 1 rfl
      have cc2 := HBx1.out.cell 2 rfl
      have hgt0 : w.heap.size < W0.heap.size := by omega
      clear hb1 HBx HB0 hz0
      go_wp2_with (refine wpList_load_mid rfl 41 (.tmp 1) rfl w.heap.size 0 rfl (welC nm A1 n1 c1 A2 n2 c2) _ (Blk.whole HBx1.out) Try.underlying41 rfl infoWelcome ?_)
      refine (HPut.out w1 HB1.out).mono ?_
      rintro e w2 ⟨v2, rfl, ho2, hb2⟩
      have hz2 : w1.heap.size ≤ w2.heap.size := hb2.size
      have HBx2 := Lib.hid (HBx1.out.below hb2 (by omega))
      have HB2 := Lib.hid (HB1.out.trans (hb2.mono (by omega)))
      have HO2 := Lib.hid ho2
      have HL2 := Lib.hid ho2.lt
      clear ho2 hb2 cc1 cc2 HBx1 HPut hlt1 hlt2
      go_wp2_with (refine wpList_load_mid rfl 41 (.tmp 1) rfl w.heap.size 0 rfl (welC nm A1 n1 c1 A2 n2 c2) _ (Blk.whole HBx2.out) Try.underlying41 rfl infoWelcome ?_)
      refine (HRef.out w2 HB2.out).mono ?_
      rintro e w3 ⟨v3, rfl, ho3, hb3⟩
      have hz3 : w2.heap.size ≤ w3.heap.size := hb3.size
      have HB3 := Lib.hid (HB2.out.trans (hb3.mono (by omega)))
      have HO23 := Lib.hid (HO2.out.below hb3 (Nat.le_refl _))
      have HO3 := Lib.hid ho3
      clear ho3 hb3 HBx2 HRef
      have hlen : (welBytes nm s1 s2).length = 5 + n1 + n2 := by rw [welBytes_len, HN1.out, HN2.out]
      obtain ⟨N, hN', hN4⟩ : ∃ N : Nat, nm = (N : Int) ∧ (N : Int) ≤ 255 := outOf_nat (by have := HQ.out; unfold welBad at this; revert this; cases outOf nm 255 <;> simp)
      have hn51 : n1 ≤ 65535 := by
        obtain ⟨M, hM, hM4⟩ : ∃ M : Nat, (n1 : Int) = (M : Int) ∧ (M : Int) ≤ 65535 := outOf_nat (by have := HQ.out; unfold welBad at this; revert this; cases outOf n1 65535 <;> simp)
        omega
      have hn52 : n2 ≤ 65535 := by
        obtain ⟨M, hM, hM4⟩ : ∃ M : Nat, (n2 : Int) = (M : Int) ∧ (M : Int) ≤ 65535 := outOf_nat (by have := HQ.out; unfold welBad at this; revert this; cases outOf n2 65535 <;> simp)
        omega
      subst hN'
      have hpp := parseW_put N s1 s2 (by omega) (by rw [HN1.out]; omega) (by rw [HN2.out]; omega)
      have hgd := goodW_put N s1 s2 (by omega) (by rw [HN1.out]; omega) (by rw [HN2.out]; omega) (by rw [HN1.out, HN2.out]; exact HQ.out.symm)
      obtain ⟨X, hX⟩ : ∃ X, X = welBytes N s1 s2 := ⟨_, rfl⟩
      rw [← hX] at hlen hpp hgd HO23 HO3
      have HPp := Lib.hid hpp
      have HGd := Lib.hid hgd
      have HX := Lib.hid hX
      obtain ⟨L, hL⟩ : ∃ L, L = 5 + n1 + n2 := ⟨_, rfl⟩
      rw [← hL] at hlen
      have HXl := Lib.hid hlen
      have hLb : L ≤ 200000 := by omega
      have hLp : 0 < L := by omega
      clear hX hlen hpp hgd hL
      obtain ⟨gb, cb, rfl, hgb1, hgb2, hcb⟩ := HO23.out.form' HXl.out hLp
      obtain ⟨A3, c3, rfl, -, -, -, -⟩ := HO3.out.shape' HXl.out
      have hgb3 : gb < w2.heap.size := (HL2.out gb rfl).2
      go_wp2_with fail
      refine (answer_ok cb c3 HO23.out.rd HO3.out.rd HXl.out HXl.out).mono ?_
      rintro e w' ⟨rfl, rfl⟩
      go_wp2_with fail
      refine (takeWelcome_any HO23.out.rd (Nat.le_refl _) HXl.out hcb (by omega)).mono ?_
      rintro e w4 ⟨hb4, ⟨hg, A4, c4, A5, c5, he, ho4, ho5⟩ | ⟨hg, -⟩⟩
      · rw [HPp.out] at ho4 ho5
        have ho4' : Own b8 w4 w3.heap.size 5 (.slice A4 s1.length c4) s1 := ho4
        have ho5' : Own b8 w4 w3.heap.size 5 (.slice A5 s2.length c5) s2 := ho5
        obtain rfl : e = .returned (.tuple #[.agg (welC N A4 n1 c4 A5 n2 c5).toArray, .nilIface]) := by rw [he, HPp.out, ← HN1.out, ← HN2.out]
        rw [HN1.out] at ho4'
        rw [HN2.out] at ho5'
        have hz4 : w3.heap.size ≤ w4.heap.size := hb4.size
        have HB4 := Lib.hid (HB3.out.trans (hb4.mono (by omega)))
        have HO24 := Lib.hid ((HO23.out.below hb4 (Nat.le_refl _)).alloc (.cells zerosWelcome.toArray 41))
        have HO34 := Lib.hid ((HO3.out.below hb4 (Nat.le_refl _)).alloc (.cells zerosWelcome.toArray 41))
        have HO4 := Lib.hid (ho4'.alloc (.cells zerosWelcome.toArray 41))
        have HO5 := Lib.hid (ho5'.alloc (.cells zerosWelcome.toArray 41))
        have HL24 := Lib.hid (HO23.out.below hb4 (Nat.le_refl _)).lt
        have HL34 := Lib.hid (HO3.out.below hb4 (Nat.le_refl _)).lt
        have HL4 := Lib.hid ho4'.lt
        have HL5 := Lib.hid ho5'.lt
        have HZ4 := Lib.hid (show Blk (w4.alloc (.cells zerosWelcome.toArray 41)) w4.heap.size 41 zerosWelcome from Blk.new w4 _ _)
        have HB4a := Lib.hid (HB4.out.alloc (by omega) (.cells zerosWelcome.toArray 41))
        clear hb4 ho4 ho4' ho5 ho5' he hg HO23 HO3 HB4
        go_wp2_with (first
          | (refine wpList_store_blk rfl 41 _ _ rfl w4.heap.size rfl (welC N A4 n1 c4 A5 n2 c5) rfl _ _ HZ4.out rfl infoWelcome (welC_one _ _ _ _ _ _ _) ?_; intro w5 hp5 hg5; have HP5 := Lib.hid hp5; have HG5 := Lib.hid hg5; clear hp5 hg5)
          | (refine wpList_load_mid rfl 41 (.tmp 7) rfl w4.heap.size 0 rfl (welC N A4 n1 c4 A5 n2 c5) _ (Blk.whole HP5.out) Try.underlying41 rfl infoWelcome ?_))
        have hz5 : w4.heap.size + 1 ≤ w5.heap.size := by have := HG5.out.size; simpa using this
        have HO25 := Lib.hid (HO24.out.kept HG5.out (.inr (fun e => by have := (HL24.out _ e).2; omega)))
        have HO35 := Lib.hid (HO34.out.kept HG5.out (.inr (fun e => by have := (HL34.out _ e).2; omega)))
        have HOa5 := Lib.hid (HO4.out.kept HG5.out (.inr (fun e => by have := (HL4.out _ e).2; omega)))
        have HOb5 := Lib.hid (HO5.out.kept HG5.out (.inr (fun e => by have := (HL5.out _ e).2; omega)))
        have HB5 := Lib.hid (HB4a.out.grown HG5.out (by simp; omega) (fun k e => by cases e; omega))
        have hrf := fun (W1 : World) (B1 : Nat) (h1 : Rd b8 W1 B1 A4 s1) (h2 : Rd b8 W1 B1 A5 s2) (hB : B1 ≤ W1.heap.size) => refPutWelcome_any N A4 n1 c4 A5 n2 c5 B1 s1 s2 W1 h1 h2 hB HN1.out HN2.out (by omega) (by omega)
        rw [← HQ.out] at hrf
        simp only [← HX.out, Bool.false_eq_true, reduceIte, Bool.not_false] at hrf
        have HRf := Lib.hid hrf
        clear hrf HO24 HO34 HO4 HO5 HG5 HZ4 HB4a
        refine (HRf.out w5 _ HOa5.out.rd HOb5.out.rd (Nat.le_refl _)).mono ?_
        rintro e w6 ⟨v6, rfl, ho6, hb6⟩
        obtain ⟨A6, c6, rfl, -, -, -, -⟩ := ho6.shape' HXl.out
        have hz6 : w5.heap.size ≤ w6.heap.size := hb6.size
        have HO26 := Lib.hid (HO25.out.below hb6 (Nat.le_refl _))
        have HO36 := Lib.hid (HO35.out.below hb6 (Nat.le_refl _))
        have HOa6 := Lib.hid (HOa5.out.below hb6 (Nat.le_refl _))
        have HOb6 := Lib.hid (HOb5.out.below hb6 (Nat.le_refl _))
        have HP6 := Lib.hid (HP5.out.below hb6 (by omega))
        have HB6 := Lib.hid (HB5.out.trans (hb6.mono (by omega)))
        have HO6 := Lib.hid ho6
        clear ho6 hb6 HO25 HO35 HOa5 HOb5 HP5 HB5
        go_wp2_with fail
        refine (over_any HO26.out (by rw [HXl.out]; omega)).mono ?_
        rintro e w7 ⟨rfl, hg7⟩
        have hg7' : w6.grownBy w7 (some gb) := hg7
        have hz7 : w6.heap.size ≤ w7.heap.size := hg7'.size
        have HP7 := Lib.hid (HP6.out.grown hg7' (by intro e; have := Option.some.inj e; omega))
        have HO37 := Lib.hid (HO36.out.kept hg7' (.inr (fun e => by have := (HO36.out.lt _ e).1; omega)))
        have HOa7 := Lib.hid (HOa6.out.kept hg7' (.inr (fun e => by have := (HOa6.out.lt _ e).1; omega)))
        have HOb7 := Lib.hid (HOb6.out.kept hg7' (.inr (fun e => by have := (HOb6.out.lt _ e).1; omega)))
        have HO67 := Lib.hid (HO6.out.kept hg7' (.inr (fun e => by have := (HO6.out.lt _ e).1; omega)))
        have HB7 := Lib.hid (HB6.out.grown hg7' (by omega) (fun k e => by cases e; omega))
        clear hg7 hg7' HO26 HO36 HOa6 HOb6 HO6 HP6 HB6
        go_wp2_with (refine wpList_load_mid rfl 41 (.tmp 7) rfl w4.heap.size 0 rfl (welC N A4 n1 c4 A5 n2 c5) _ (Blk.whole HP7.out) Try.underlying41 rfl infoWelcome ?_)
        refine (HRf.out w7 _ HOa7.out.rd HOb7.out.rd (Nat.le_refl _)).mono ?_
        rintro e w8 ⟨v8, rfl, ho8, hb8⟩
        obtain ⟨A8, c8, rfl, -, -, -, -⟩ := ho8.shape' HXl.out
        have hz8 : w7.heap.size ≤ w8.heap.size := hb8.size
        have HO38 := Lib.hid (HO37.out.below hb8 (Nat.le_refl _))
        have HO68 := Lib.hid (HO67.out.below hb8 (Nat.le_refl _))
        have HB8 := Lib.hid (HB7.out.trans (hb8.mono (by omega)))
        have HO8 := Lib.hid ho8
        clear ho8 hb8 HO37 HOa7 HOb7 HO67 HP7 HB7
        go_wp2_with fail
        refine (same_any c6 c3 HO68.out.rd HO38.out.rd HXl.out HXl.out).mono ?_
        rintro e w' ⟨rfl, rfl⟩
        rw [beq_self_eq_true]
        go_wp2_with fail
        refine (same_any c8 c3 HO8.out.rd HO38.out.rd HXl.out HXl.out).mono ?_
        rintro e w' ⟨rfl, rfl⟩
        rw [beq_self_eq_true]
        go_wp2_with fail
        go_ret
        exact ⟨rfl, HB8.out⟩
      · rw [HGd.out] at hg; cases hg
  · by_cases hb1 : n1 < 70000
    · have hlt1 : ((n1 : Int) < 70000) = True := by simp; omega
      have hlt2 : ((n2 : Int) < 70000) = False := by simp; omega
      clear hr1 hn1 hr2 hn2 we hbig be' hb1
      go_enter Try.func4, Try.ntmps4
      go_wp2_with fail
      generalize World.alloc w _ = W0 at HBx HB0 hz0 ⊢
      refine (alive09_any _).mono ?_
      rintro e w1 ⟨rfl, hb1⟩
      have hz1 : W0.heap.size ≤ w1.heap.size := hb1.size
      have HBx1 := Lib.hid (HBx.out.below hb1 (by omega))
      have HB1 := Lib.hid (HB0.out.trans (hb1.mono (by omega)))
      have cc1 := HBx1.out.cell 1 rfl
      have cc2 := HBx1.out.cell 2 rfl
      have hgt0 : w.heap.size < W0.heap.size := by omega
      clear hb1 HBx HB0 hz0
      go_wp2_with fail
      go_ret
      exact ⟨rfl, HB1.out⟩
    · have hlt1 : ((n1 : Int) < 70000) = False := by simp; omega
      clear hr1 hn1 hr2 hn2 we hbig be' hb1
      go_enter Try.func4, Try.ntmps4
      go_wp2_with fail
      generalize World.alloc w _ = W0 at HBx HB0 hz0 ⊢
      refine (alive09_any _).mono ?_
      rintro e w1 ⟨rfl, hb1⟩
      have hz1 : W0.heap.size ≤ w1.heap.size := hb1.size
      have HBx1 := Lib.hid (HBx.out.below hb1 (by omega))
      have HB1 := Lib.hid (HB0.out.trans (hb1.mono (by omega)))
      have cc1 := HBx1.out.cell 1 rfl
      have cc2 := HBx1.out.cell 2 rfl
      have hgt0 : w.heap.size < W0.heap.size := by omega
      clear hb1 HBx HB0 hz0
      go_wp2_with fail
      go_ret
      exact ⟨rfl, HB1.out⟩
end Go.Proofs.Ytloglpamnalmeaa
