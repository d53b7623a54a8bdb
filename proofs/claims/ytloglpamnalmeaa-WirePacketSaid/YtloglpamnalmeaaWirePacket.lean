/- WirePacket, the walk. -/
import Derived.Test.YtloglpamnalmeaaWireAlive
import Derived.Test.YtloglpamnalmeaaRefPacket
import Derived.Test.YtloglpamnalmeaaOpen
namespace Go.Proofs.Ytloglpamnalmeaa
open Go.RowKit
set_option linter.unusedVariables false
set_option linter.unusedSimpArgs false

set_option maxRecDepth 100000 in
set_option maxHeartbeats 4000000 in
theorem wirePacket_walk (sum : List (BitVec 8)) (epoch frm number : Int) (A : Option Addr) (n c : Nat) (text : List (BitVec 8)) (w : World) (hs : sum.length = 32) (we : (Lit.int .i64 epoch).wf = true) (wf : (Lit.int .i64 frm).wf = true) (wn : (Lit.int .i64 number).wf = true)
    (hr : Rd b8 w w.heap.size A text) (hn : text.length = n) (hnc : n ≤ c) (hc : c ≤ maxLen) :
    Calls Try.prog 3 #[.agg (packetC sum epoch frm number A n c).toArray] w fun e w' => e = .returned (.bool true) ∧ Below w.heap.size w w' := by
  have be' := bounds_i64 we
  have bf' := bounds_i64 wf
  have bn' := bounds_i64 wn
  have HS := Lib.hid hs
  have HR := Lib.hid hr
  have HN := Lib.hid hn
  have HBx := Lib.hid (show PkBox (w.alloc (.cells (packetC sum epoch frm number A n c).toArray 26)) w.heap.size sum epoch frm number A n c from Blk.new w _ _)
  have HB0 := Lib.hid ((Below.refl w.heap.size w).alloc (Nat.le_refl _) (.cells (packetC sum epoch frm number A n c).toArray 26))
  have hz0 := World.size_alloc w (.cells (packetC sum epoch frm number A n c).toArray 26)
  have HPl := Lib.hid (packetC_len sum epoch frm number A n c hs)
  by_cases hbig : n < 70000
  · have hbig' : (n : Int) < 70000 := by omega
    obtain ⟨q, hq⟩ : ∃ q, q = pkBad epoch frm number n := ⟨_, rfl⟩
    have hput := fun W1 (hb : Below w.heap.size w W1) => putPacket_any sum epoch frm number A n c w.heap.size text W1 hs be'.1 (by omega) bf'.1 (by omega) bn'.1 (by omega) (hr.below hb) hb.size hn (by omega)
    have href := fun W1 (hb : Below w.heap.size w W1) => refPutPacket_any sum epoch frm number A n c w.heap.size text W1 hs (hr.below hb) hb.size hn (by omega)
    simp only [← hq] at hput href
    cases q with
    | true =>
      simp only [reduceIte] at hput
      rw [errV_pos (by simp)] at hput
      simp only [reduceIte, Bool.not_true] at href
      have HPut := Lib.hid hput
      have HRef := Lib.hid href
      have HQ := Lib.hid hq
      have HBig := Lib.hid hbig
      clear hs hr hn we wf wn hput href hq be' bf' bn' hbig
      go_enter Try.func3, Try.ntmps3
      go_wp2_with fail
      generalize World.alloc w _ = W0 at HBx HB0 hz0 ⊢
      refine (alive09_any _).mono ?_
      rintro e w1 ⟨rfl, hb1⟩
      have hz1 : W0.heap.size ≤ w1.heap.size := hb1.size
      have HBx1 := Lib.hid (HBx.out.below hb1 (by omega))
      have HB1 := Lib.hid (HB0.out.trans (hb1.mono (by omega)))
      have c35 := HBx1.out.c35 HS.out
      clear hb1 HBx HB0
      have hlt70 : ((n : Int) < 70000) = True := by simp; have := HBig.out; omega
      clear hbig'
      go_wp2_with (refine wpList_load_mid rfl 26 (.tmp 1) rfl w.heap.size 0 rfl (packetC sum epoch frm number A n c) _ (Blk.whole HBx1.out) Try.underlying26 rfl (by rw [HPl.out]; exact infoPacket) ?_)
      refine (HPut.out w1 HB1.out).mono ?_
      rintro e w2 ⟨v2, rfl, ho2, hb2⟩
      clear hlt70
      have hz2 : w1.heap.size ≤ w2.heap.size := hb2.size
      have HBx2 := Lib.hid (HBx1.out.below hb2 (by omega))
      have HB2 := Lib.hid (HB1.out.trans (hb2.mono (by omega)))
      have HO2 := Lib.hid ho2
      have HL2 := Lib.hid ho2.lt
      clear ho2 hb2 c35 HBx1 HPut
      go_wp2_with (refine wpList_load_mid rfl 26 (.tmp 1) rfl w.heap.size 0 rfl (packetC sum epoch frm number A n c) _ (Blk.whole HBx2.out) Try.underlying26 rfl (by rw [HPl.out]; exact infoPacket) ?_)
      refine (HRef.out w2 HB2.out).mono ?_
      rintro e w3 ⟨v3, rfl, ho3, hb3⟩
      have hz3 : w2.heap.size ≤ w3.heap.size := hb3.size
      have HB3 := Lib.hid (HB2.out.trans (hb3.mono (by omega)))
      have HO23 := Lib.hid (HO2.out.below hb3 (Nat.le_refl _))
      have HO3 := Lib.hid ho3
      clear ho3 hb3 HBx2 HRef
      obtain ⟨A2, c2, rfl, -, -, -, -⟩ := HO23.out.shape' (n := 0) rfl
      go_wp2_with fail
      refine (answer_bad A2 c2 v3).mono ?_
      rintro e w' ⟨rfl, rfl⟩
      go_wp2_with fail
      go_ret
      exact ⟨rfl, HB3.out⟩
    | false =>
      simp only [Bool.false_eq_true, reduceIte, errV_zero] at hput
      simp only [Bool.false_eq_true, reduceIte, Bool.not_false] at href
      have HPut := Lib.hid hput
      have HRef := Lib.hid href
      have HQ := Lib.hid hq
      have HBig := Lib.hid hbig
      clear hs hr hn we wf wn hput href hq be' bf' bn' hbig
      go_enter Try.func3, Try.ntmps3
      go_wp2_with fail
      generalize World.alloc w _ = W0 at HBx HB0 hz0 ⊢
      refine (alive09_any _).mono ?_
      rintro e w1 ⟨rfl, hb1⟩
      have hz1 : W0.heap.size ≤ w1.heap.size := hb1.size
      have HBx1 := Lib.hid (HBx.out.below hb1 (by omega))
      have HB1 := Lib.hid (HB0.out.trans (hb1.mono (by omega)))
      have c35 := HBx1.out.c35 HS.out
      clear hb1 HBx HB0
      have hlt70 : ((n : Int) < 70000) = True := by simp; have := HBig.out; omega
      clear hbig'
      go_wp2_with (refine wpList_load_mid rfl 26 (.tmp 1) rfl w.heap.size 0 rfl (packetC sum epoch frm number A n c) _ (Blk.whole HBx1.out) Try.underlying26 rfl (by rw [HPl.out]; exact infoPacket) ?_)
      refine (HPut.out w1 HB1.out).mono ?_
      rintro e w2 ⟨v2, rfl, ho2, hb2⟩
      clear hlt70
      have hz2 : w1.heap.size ≤ w2.heap.size := hb2.size
      have HBx2 := Lib.hid (HBx1.out.below hb2 (by omega))
      have HB2 := Lib.hid (HB1.out.trans (hb2.mono (by omega)))
      have HO2 := Lib.hid ho2
      have HL2 := Lib.hid ho2.lt
      clear ho2 hb2 c35 HBx1 HPut
      go_wp2_with (refine wpList_load_mid rfl 26 (.tmp 1) rfl w.heap.size 0 rfl (packetC sum epoch frm number A n c) _ (Blk.whole HBx2.out) Try.underlying26 rfl (by rw [HPl.out]; exact infoPacket) ?_)
      refine (HRef.out w2 HB2.out).mono ?_
      rintro e w3 ⟨v3, rfl, ho3, hb3⟩
      have hz3 : w2.heap.size ≤ w3.heap.size := hb3.size
      have HB3 := Lib.hid (HB2.out.trans (hb3.mono (by omega)))
      have HO23 := Lib.hid (HO2.out.below hb3 (Nat.le_refl _))
      have HO3 := Lib.hid ho3
      clear ho3 hb3 HBx2 HRef
      have hlen : (pkBytes sum epoch frm number text).length = 43 + n := by rw [pkBytes_len _ _ _ _ _ HS.out, HN.out]
      obtain ⟨E, hE, hE4⟩ : ∃ E : Nat, epoch = (E : Int) ∧ (E : Int) ≤ 4294967295 := outOf_nat (by have := HQ.out; unfold pkBad at this; revert this; cases outOf epoch 4294967295 <;> simp)
      obtain ⟨F, hF, hF1⟩ : ∃ F : Nat, frm = (F : Int) ∧ (F : Int) ≤ 31 := outOf_nat (by have := HQ.out; unfold pkBad at this; revert this; cases outOf frm 31 <;> simp)
      obtain ⟨N, hN', hN4⟩ : ∃ N : Nat, number = (N : Int) ∧ (N : Int) ≤ 4294967295 := outOf_nat (by have := HQ.out; unfold pkBad at this; revert this; cases outOf number 4294967295 <;> simp)
      have hn5 : n ≤ 65535 := by
        obtain ⟨M, hM, hM4⟩ : ∃ M : Nat, (n : Int) = (M : Int) ∧ (M : Int) ≤ 65535 := outOf_nat (by have := HQ.out; unfold pkBad at this; revert this; cases outOf n 65535 <;> simp)
        omega
      subst hE hF hN'
      have hpp := parse_put sum E F N text HS.out (by omega) (by omega) (by omega) (by rw [HN.out]; omega)
      have hgd := good_put sum E F N text HS.out (by omega) (by omega) (by omega) (by rw [HN.out]; omega) (by rw [HN.out]; exact HQ.out.symm)
      obtain ⟨X, hX⟩ : ∃ X, X = pkBytes sum E F N text := ⟨_, rfl⟩
      rw [← hX] at hlen hpp hgd HO23 HO3
      have HPp := Lib.hid hpp
      have HGd := Lib.hid hgd
      have HX := Lib.hid hX
      have HXl := Lib.hid hlen
      clear hX hlen hpp hgd
      obtain ⟨gb, cb, rfl, hgb1, hgb2, hcb⟩ := HO23.out.form' HXl.out (by omega)
      obtain ⟨A3, c3, rfl, -, -, -, -⟩ := HO3.out.shape' HXl.out
      have hgb3 : gb < w2.heap.size := (HL2.out gb rfl).2
      go_wp2_with fail
      refine (answer_ok cb c3 HO23.out.rd HO3.out.rd HXl.out HXl.out).mono ?_
      rintro e w' ⟨rfl, rfl⟩
      go_wp2_with fail
      refine (takePacket_any HO23.out.rd (Nat.le_refl _) HXl.out hcb (by omega)).mono ?_
      rintro e w4 ⟨hb4, ⟨hg, A4, c4, he, ho4⟩ | ⟨hg, -⟩⟩
      · rw [HPp.out] at ho4
        have ho4' : Own b8 w4 w3.heap.size 5 (.slice A4 text.length c4) text := ho4
        obtain rfl : e = .returned (.tuple #[.agg (packetC sum (E : Int) F N A4 n c4).toArray, .nilIface]) := by rw [he, HPp.out, ← HN.out]
        rw [HN.out] at ho4'
        have hz4 : w3.heap.size ≤ w4.heap.size := hb4.size
        have HB4 := Lib.hid (HB3.out.trans (hb4.mono (by omega)))
        have HO24 := Lib.hid ((HO23.out.below hb4 (Nat.le_refl _)).alloc (.cells (packetC zero32 0 0 0 none 0 0).toArray 26))
        have HO34 := Lib.hid ((HO3.out.below hb4 (Nat.le_refl _)).alloc (.cells (packetC zero32 0 0 0 none 0 0).toArray 26))
        have HO4 := Lib.hid (ho4'.alloc (.cells (packetC zero32 0 0 0 none 0 0).toArray 26))
        have hlt24 := (HO23.out.below hb4 (Nat.le_refl _)).lt
        have hlt34 := (HO3.out.below hb4 (Nat.le_refl _)).lt
        have hlt4 := ho4'.lt
        have HL24 := Lib.hid hlt24
        have HL34 := Lib.hid hlt34
        have HL4 := Lib.hid hlt4
        have HYl := Lib.hid (packetC_len sum E F N A4 n c4 HS.out)
        have HZ4 := Lib.hid (show Blk (w4.alloc (.cells (packetC zero32 0 0 0 none 0 0).toArray 26)) w4.heap.size 26 (packetC zero32 0 0 0 none 0 0) from Blk.new w4 _ _)
        have HB4a := Lib.hid (HB4.out.alloc (by omega) (.cells (packetC zero32 0 0 0 none 0 0).toArray 26))
        clear hb4 ho4 ho4' he hg HO23 HO3 hlt24 hlt34 hlt4 HB4
        go_wp2_with (first
          | (refine wpList_store_blk rfl 26 _ _ rfl w4.heap.size rfl (packetC sum E F N A4 n c4) rfl _ _ HZ4.out (by rw [HYl.out]; rfl) (by rw [HYl.out]; exact infoPacket) (packetC_one _ _ _ _ _ _ _) ?_; intro w5 hp5 hg5; have HP5 := Lib.hid hp5; have HG5 := Lib.hid hg5; clear hp5 hg5)
          | (refine wpList_load_mid rfl 26 (.tmp 7) rfl w4.heap.size 0 rfl (packetC sum E F N A4 n c4) _ (Blk.whole HP5.out) Try.underlying26 rfl (by rw [HYl.out]; exact infoPacket) ?_))
        have hz5 : w4.heap.size + 1 ≤ w5.heap.size := by have := HG5.out.size; simpa using this
        have HO25 := Lib.hid (HO24.out.kept HG5.out (.inr (fun e => by have := (HL24.out _ e).2; omega)))
        have HO35 := Lib.hid (HO34.out.kept HG5.out (.inr (fun e => by have := (HL34.out _ e).2; omega)))
        have HO5 := Lib.hid (HO4.out.kept HG5.out (.inr (fun e => by have := (HL4.out _ e).2; omega)))
        have HB5 := Lib.hid (HB4a.out.grown HG5.out (by simp; omega) (fun k e => by cases e; omega))
        have hrf := fun (W1 : World) (B1 : Nat) (h : Rd b8 W1 B1 A4 text) (hB : B1 ≤ W1.heap.size) => refPutPacket_any sum E F N A4 n c4 B1 text W1 HS.out h hB HN.out (by omega)
        rw [← HQ.out] at hrf
        simp only [← HX.out] at hrf
        have HRf := Lib.hid hrf
        clear hrf HO24 HO34 HO4 HG5 HZ4 HB4a
        refine (HRf.out w5 _ HO5.out.rd (Nat.le_refl _)).mono ?_
        rintro e w6 ⟨v6, rfl, ho6, hb6⟩
        rw [if_neg (by simp)] at ho6
        obtain ⟨A6, c6, rfl, -, -, -, -⟩ := ho6.shape' HXl.out
        have hz6 : w5.heap.size ≤ w6.heap.size := hb6.size
        have HO26 := Lib.hid (HO25.out.below hb6 (Nat.le_refl _))
        have HO36 := Lib.hid (HO35.out.below hb6 (Nat.le_refl _))
        have HO56 := Lib.hid (HO5.out.below hb6 (Nat.le_refl _))
        have HP6 := Lib.hid (HP5.out.below hb6 (by omega))
        have HB6 := Lib.hid (HB5.out.trans (hb6.mono (by omega)))
        have HO6 := Lib.hid ho6
        clear ho6 hb6 HO25 HO35 HO5 HP5 HB5
        go_wp2_with fail
        refine (over_any HO26.out (by rw [HXl.out]; omega)).mono ?_
        rintro e w7 ⟨rfl, hg7⟩
        have hg7' : w6.grownBy w7 (some gb) := hg7
        have hz7 : w6.heap.size ≤ w7.heap.size := hg7'.size
        have HP7 := Lib.hid (HP6.out.grown hg7' (by intro e; have := Option.some.inj e; omega))
        have HO37 := Lib.hid (HO36.out.kept hg7' (.inr (fun e => by have := (HO36.out.lt _ e).1; omega)))
        have HO57 := Lib.hid (HO56.out.kept hg7' (.inr (fun e => by have := (HO56.out.lt _ e).1; omega)))
        have HO67 := Lib.hid (HO6.out.kept hg7' (.inr (fun e => by have := (HO6.out.lt _ e).1; omega)))
        have HB7 := Lib.hid (HB6.out.grown hg7' (by omega) (fun k e => by cases e; omega))
        clear hg7 hg7' HO26 HO36 HO56 HO6 HP6 HB6
        go_wp2_with (refine wpList_load_mid rfl 26 (.tmp 7) rfl w4.heap.size 0 rfl (packetC sum E F N A4 n c4) _ (Blk.whole HP7.out) Try.underlying26 rfl (by rw [HYl.out]; exact infoPacket) ?_)
        refine (HRf.out w7 _ HO57.out.rd (Nat.le_refl _)).mono ?_
        rintro e w8 ⟨v8, rfl, ho8, hb8⟩
        rw [if_neg (by simp)] at ho8
        obtain ⟨A8, c8, rfl, -, -, -, -⟩ := ho8.shape' HXl.out
        have hz8 : w7.heap.size ≤ w8.heap.size := hb8.size
        have HO38 := Lib.hid (HO37.out.below hb8 (Nat.le_refl _))
        have HO68 := Lib.hid (HO67.out.below hb8 (Nat.le_refl _))
        have HB8 := Lib.hid (HB7.out.trans (hb8.mono (by omega)))
        have HO8 := Lib.hid ho8
        clear ho8 hb8 HO37 HO57 HO67 HP7 HB7
        go_wp2_with fail
        refine (same_any c6 c3 HO68.out.rd HO38.out.rd HXl.out HXl.out).mono ?_
        rintro e w' ⟨rfl, rfl⟩
        rw [beq_self_eq_true]
        go_wp2_with fail
        refine (same_any c8 c3 HO8.out.rd HO38.out.rd HXl.out HXl.out).mono ?_
        rintro e w' ⟨rfl, rfl⟩
        rw [beq_self_eq_true]
        go_wp2_with fail
        go_ret
        exact ⟨rfl, HB8.out⟩
      · rw [HGd.out] at hg; cases hg
  · have hbig' : ((n : Int) < 70000) = False := by simp; omega
    clear hs hr hn we wf wn hbig be' bf' bn'
    go_enter Try.func3, Try.ntmps3
    go_wp2_with fail
    generalize World.alloc w _ = W0 at HBx HB0 hz0 ⊢
    refine (alive09_any _).mono ?_
    rintro e w1 ⟨rfl, hb1⟩
    have hz1 : W0.heap.size ≤ w1.heap.size := hb1.size
    have HBx1 := Lib.hid (HBx.out.below hb1 (by omega))
    have HB1 := Lib.hid (HB0.out.trans (hb1.mono (by omega)))
    have c35 := HBx1.out.c35 HS.out
    clear hb1 HBx HB0
    go_wp2_with fail
    go_ret
    exact ⟨rfl, HB1.out⟩
end Go.Proofs.Ytloglpamnalmeaa
