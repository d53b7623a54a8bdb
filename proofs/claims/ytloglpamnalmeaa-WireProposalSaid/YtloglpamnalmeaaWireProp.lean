/- WireProposal, the walk. -/
import Derived.Test.YtloglpamnalmeaaWels
import Derived.Test.YtloglpamnalmeaaTakeProp
import Derived.Test.YtloglpamnalmeaaRefPropB
namespace Go.Proofs.Ytloglpamnalmeaa
open Go.RowKit
set_option linter.unusedVariables false
set_option linter.unusedSimpArgs false

set_option maxRecDepth 100000 in
set_option maxHeartbeats 4000000 in
theorem wireProp_walk {w : World} (x : PropD) (hx : x.Ok) {A : Option Addr} {c : Nat} (hr : Rd cI w w.heap.size A x.leaf.um) :
    Calls Try.prog 8 #[.agg (propC x A c).toArray] w fun e w' => e = .returned (.bool true) ∧ Below w.heap.size w w' := by
  have HX := Lib.hid hx
  have HR := Lib.hid hr
  have HXl := Lib.hid (propC_len hx A c)
  have hlaw := fun W => lawNode_any x.leaf hx.leaf A c W
  obtain ⟨lt, hlt⟩ : ∃ lt, lt = decide ((x.leaf.um.length : Int) < 100) := ⟨_, rfl⟩
  rw [← hlt] at hlaw
  have HLaw := Lib.hid hlaw
  have HLt := Lib.hid hlt
  have HBx := Lib.hid (Blk.new w 71 (propC x A c))
  have HB0 := Lib.hid ((Below.refl w.heap.size w).alloc (Nat.le_refl _) (.cells (propC x A c).toArray 71))
  have hz0 := World.size_alloc w (.cells (propC x A c).toArray 71)
  clear hr hlt hx hlaw
  cases lt with
  | false =>
    go_enter Try.func8, Try.ntmps8
    go_wp2_with fail
    generalize World.alloc w _ = W0 at HBx HB0 hz0 ⊢
    refine (alive09_any _).mono ?_
    rintro e w1 ⟨rfl, hb1⟩
    have hz1 : W0.heap.size ≤ w1.heap.size := hb1.size
    have HBx1 := Lib.hid (HBx.out.below hb1 (by omega))
    have HB1 := Lib.hid (HB0.out.trans (hb1.mono (by omega)))
    clear hb1 HBx HB0
    go_wp2_with (refine wpList_load_midw (by first | rfl | go_simp) 50 (.tmp 14) rfl w.heap.size 67 rfl (nodeC x.leaf A c) _ (propC_leaf HBx1.out HX.out) Try.underlying50 rfl (by rw [nodeC_len HX.out.leaf]; exact infoNode) ?_)
    refine (HLaw.out w1).mono ?_
    rintro e w1b ⟨rfl, hb1b⟩
    have hz1b : w1.heap.size ≤ w1b.heap.size := hb1b.size
    have HBx1b := Lib.hid (HBx1.out.below hb1b (by omega))
    have HB1b := Lib.hid (HB1.out.trans (hb1b.mono HB1.out.size))
    clear hb1b HLaw
    go_wp2_with fail
    go_ret
    exact ⟨rfl, HB1b.out⟩
  | true =>
    have hum : x.leaf.um.length ≤ 300 := by have := HLt.out.symm; simp at this; omega
    have hput := fun W1 (hb : Below w.heap.size w W1) => putProp_any (c := c) x HX.out (HR.out.below hb) hb.size hum
    have href := fun W1 (hb : Below w.heap.size w W1) => refPutProp_any (c := c) x HX.out (HR.out.below hb) hb.size hum
    obtain ⟨q, hq⟩ : ∃ q, q = (propBad x || decide (65536 < (propB x).length)) := ⟨_, rfl⟩
    simp only [← hq] at hput href
    have HQ := Lib.hid hq
    clear hq
    cases q with
    | true =>
      simp only [reduceIte] at hput
      rw [errV_pos (by simp)] at hput
      simp only [reduceIte, Bool.not_true] at href
      have HPut := Lib.hid hput
      have HRef := Lib.hid href
      clear hput href
      go_enter Try.func8, Try.ntmps8
      go_wp2_with fail
      generalize World.alloc w _ = W0 at HBx HB0 hz0 ⊢
      refine (alive09_any _).mono ?_
      rintro e w1 ⟨rfl, hb1⟩
      have hz1 : W0.heap.size ≤ w1.heap.size := hb1.size
      have HBx1 := Lib.hid (HBx.out.below hb1 (by omega))
      have HB1 := Lib.hid (HB0.out.trans (hb1.mono (by omega)))
      clear hb1 HBx HB0
      go_wp2_with (refine wpList_load_midw (by first | rfl | go_simp) 50 (.tmp 14) rfl w.heap.size 67 rfl (nodeC x.leaf A c) _ (propC_leaf HBx1.out HX.out) Try.underlying50 rfl (by rw [nodeC_len HX.out.leaf]; exact infoNode) ?_)
      refine (HLaw.out w1).mono ?_
      rintro e w1b ⟨rfl, hb1b⟩
      have hz1b : w1.heap.size ≤ w1b.heap.size := hb1b.size
      have HBx1b := Lib.hid (HBx1.out.below hb1b (by omega))
      have HB1b := Lib.hid (HB1.out.trans (hb1b.mono HB1.out.size))
      clear hb1b HLaw
      go_wp2_with (refine wpList_load_mid rfl 71 (.tmp 1) rfl w.heap.size 0 rfl (propC x A c) _ (Blk.whole HBx1b.out) Try.underlying71 rfl (by rw [HXl.out]; exact infoProp) ?_)
      refine (HPut.out w1b HB1b.out).mono ?_
      rintro e w2 ⟨v2, rfl, ho2, hb2⟩
      have hz2 : w1b.heap.size ≤ w2.heap.size := hb2.size
      have HBx2 := Lib.hid (HBx1b.out.below hb2 (by omega))
      have HB2 := Lib.hid (HB1b.out.trans (hb2.mono HB1b.out.size))
      have HO2 := Lib.hid ho2
      have HL2 := Lib.hid ho2.lt
      clear ho2 hb2 HPut
      go_wp2_with (refine wpList_load_mid rfl 71 (.tmp 1) rfl w.heap.size 0 rfl (propC x A c) _ (Blk.whole HBx2.out) Try.underlying71 rfl (by rw [HXl.out]; exact infoProp) ?_)
      refine (HRef.out w2 HB2.out).mono ?_
      rintro e w3 ⟨v3, rfl, ho3, hb3⟩
      have hz3 : w2.heap.size ≤ w3.heap.size := hb3.size
      have HB3 := Lib.hid (HB2.out.trans (hb3.mono HB2.out.size))
      have HO23 := Lib.hid (HO2.out.below hb3 (Nat.le_refl _))
      have HO3 := Lib.hid ho3
      clear ho3 hb3 HRef HBx1 HBx1b HBx2
      obtain ⟨A2', c2', rfl, -, -, -, -⟩ := HO23.out.shape' (n := 0) rfl
      go_wp2_with fail
      refine (answer_bad A2' c2' v3).mono ?_
      rintro e w' ⟨rfl, rfl⟩
      go_wp2_with fail
      go_ret
      exact ⟨rfl, HB3.out⟩
    | false =>
      simp only [Bool.false_eq_true, reduceIte, errV_zero] at hput
      simp only [Bool.false_eq_true, reduceIte, Bool.not_false] at href
      have HPut := Lib.hid hput
      have HRef := Lib.hid href
      clear hput href
      go_enter Try.func8, Try.ntmps8
      go_wp2_with fail
      generalize World.alloc w _ = W0 at HBx HB0 hz0 ⊢
      refine (alive09_any _).mono ?_
      rintro e w1 ⟨rfl, hb1⟩
      have hz1 : W0.heap.size ≤ w1.heap.size := hb1.size
      have HBx1 := Lib.hid (HBx.out.below hb1 (by omega))
      have HB1 := Lib.hid (HB0.out.trans (hb1.mono (by omega)))
      clear hb1 HBx HB0
      go_wp2_with (refine wpList_load_midw (by first | rfl | go_simp) 50 (.tmp 14) rfl w.heap.size 67 rfl (nodeC x.leaf A c) _ (propC_leaf HBx1.out HX.out) Try.underlying50 rfl (by rw [nodeC_len HX.out.leaf]; exact infoNode) ?_)
      refine (HLaw.out w1).mono ?_
      rintro e w1b ⟨rfl, hb1b⟩
      have hz1b : w1.heap.size ≤ w1b.heap.size := hb1b.size
      have HBx1b := Lib.hid (HBx1.out.below hb1b (by omega))
      have HB1b := Lib.hid (HB1.out.trans (hb1b.mono HB1.out.size))
      clear hb1b HLaw
      go_wp2_with (refine wpList_load_mid rfl 71 (.tmp 1) rfl w.heap.size 0 rfl (propC x A c) _ (Blk.whole HBx1b.out) Try.underlying71 rfl (by rw [HXl.out]; exact infoProp) ?_)
      refine (HPut.out w1b HB1b.out).mono ?_
      rintro e w2 ⟨v2, rfl, ho2, hb2⟩
      have hz2 : w1b.heap.size ≤ w2.heap.size := hb2.size
      have HBx2 := Lib.hid (HBx1b.out.below hb2 (by omega))
      have HB2 := Lib.hid (HB1b.out.trans (hb2.mono HB1b.out.size))
      have HO2 := Lib.hid ho2
      have HL2 := Lib.hid ho2.lt
      clear ho2 hb2 HPut
      go_wp2_with (refine wpList_load_mid rfl 71 (.tmp 1) rfl w.heap.size 0 rfl (propC x A c) _ (Blk.whole HBx2.out) Try.underlying71 rfl (by rw [HXl.out]; exact infoProp) ?_)
      refine (HRef.out w2 HB2.out).mono ?_
      rintro e w3 ⟨v3, rfl, ho3, hb3⟩
      have hz3 : w2.heap.size ≤ w3.heap.size := hb3.size
      have HB3 := Lib.hid (HB2.out.trans (hb3.mono HB2.out.size))
      have HO23 := Lib.hid (HO2.out.below hb3 (Nat.le_refl _))
      have HO3 := Lib.hid ho3
      clear ho3 hb3 HRef HBx1 HBx1b HBx2
      have hq2 := HQ.out.symm
      rw [Bool.or_eq_false_iff, decide_eq_false_iff_not] at hq2
      have hlen : (propB x).length ≤ 65536 := by omega
      have hlp : 0 < (propB x).length := by unfold propB; rw [List.length_append, groupB_len]; omega
      have hgd : goodP (propB x) = true := goodP_put HX.out hq2.1 hlen
      have p1 : (pProp (propB x, false)).1 = x := by have := pProp_put HX.out hq2.1 []; rw [List.append_nil] at this; rw [this]
      obtain ⟨X, hX⟩ : ∃ X, X = propB x := ⟨_, rfl⟩
      rw [← hX] at hlen hlp hgd p1 HO23 HO3
      have HGd := Lib.hid hgd
      have HP1 := Lib.hid p1
      have HX' := Lib.hid hX
      obtain ⟨L, hL⟩ : ∃ L, L = X.length := ⟨_, rfl⟩
      have HXn := Lib.hid hL.symm
      rw [← hL] at hlen hlp
      clear hX hgd p1 hL hq2
      obtain ⟨gb, cb, rfl, hgb1, hgb2, hcb⟩ := HO23.out.form' HXn.out hlp
      obtain ⟨A3, c3, rfl, -, -, -, -⟩ := HO3.out.shape' HXn.out
      have hgb3 : gb < w2.heap.size := (HL2.out gb rfl).2
      go_wp2_with fail
      refine (answer_ok cb c3 HO23.out.rd HO3.out.rd HXn.out HXn.out).mono ?_
      rintro e w' ⟨rfl, rfl⟩
      go_wp2_with fail
      refine (takeProp_any HO23.out.rd (Nat.le_refl _) HXn.out hcb (by omega)).mono ?_
      rintro e w4 ⟨hb4, ⟨hg, A4, c4, he, ho4⟩ | ⟨hg, -⟩⟩
      · rw [HP1.out] at he ho4
        subst he
        have hq4 : (propBad x || decide (65536 < X.length)) = false := by rw [HX'.out]; exact HQ.out.symm
        have hrf := fun (W1 : World) (B1 : Nat) (h1 : Rd cI W1 B1 A4 x.leaf.um) (hB : B1 ≤ W1.heap.size) => refPutProp_any (c := c4) x HX.out h1 hB hum
        simp only [← HX'.out, hq4, Bool.false_eq_true, reduceIte, Bool.not_false] at hrf
        have HRf := Lib.hid hrf
        have hz4 : w3.heap.size ≤ w4.heap.size := hb4.size
        have HB4 := Lib.hid (HB3.out.trans (hb4.mono (by have := HB3.out.size; omega)))
        have HO24 := Lib.hid (HO23.out.below hb4 (Nat.le_refl _))
        have HO34 := Lib.hid (HO3.out.below hb4 (Nat.le_refl _))
        have HO4 := Lib.hid ho4
        have HZ4 := Lib.hid (show Blk (w4.alloc (.cells zerosProposal.toArray 71)) w4.heap.size 71 zerosProposal from Blk.new w4 _ _)
        have HYl := Lib.hid (propC_len HX.out A4 c4)
        clear hb4 ho4 hg hq4 hrf HO23 HO3
        go_wp2_with (first
          | (refine wpList_store_blk rfl 71 _ _ rfl w4.heap.size rfl (propC x A4 c4) rfl _ _ HZ4.out (by rw [zerosProposal_len, HYl.out]) (by rw [HYl.out]; exact infoProp) (propC_one _ _ _) ?_; intro w5 hp5 hg5; have HP5 := Lib.hid hp5; have HG5 := Lib.hid hg5; clear hp5 hg5)
          | (refine wpList_load_mid rfl 71 (.tmp 7) rfl w4.heap.size 0 rfl (propC x A4 c4) _ (Blk.whole HP5.out) Try.underlying71 rfl (by rw [HYl.out]; exact infoProp) ?_))
        have hb5 : Below w4.heap.size w4 w5 := below_box HG5.out
        have hz5 : w4.heap.size + 1 ≤ w5.heap.size := by have := HG5.out.size; simpa using this
        have HO25 := Lib.hid (HO24.out.below hb5 (Nat.le_refl _))
        have HO35 := Lib.hid (HO34.out.below hb5 (Nat.le_refl _))
        have HOa5 := Lib.hid (HO4.out.below hb5 (Nat.le_refl _))
        have HB5 := Lib.hid (HB4.out.trans (hb5.mono (by have := HB4.out.size; omega)))
        clear hb5 HG5 HO24 HO34 HO4 HZ4
        refine (HRf.out w5 _ HOa5.out.rd (Nat.le_refl _)).mono ?_
        rintro e w6 ⟨v6, rfl, ho6, hb6⟩
        obtain ⟨A6, c6, rfl, -, -, -, -⟩ := ho6.shape' HXn.out
        have hz6 : w5.heap.size ≤ w6.heap.size := hb6.size
        have HO26 := Lib.hid (HO25.out.below hb6 (Nat.le_refl _))
        have HO36 := Lib.hid (HO35.out.below hb6 (Nat.le_refl _))
        have HOa6 := Lib.hid (HOa5.out.below hb6 (Nat.le_refl _))
        have HP6 := Lib.hid (HP5.out.below hb6 (by omega))
        have HB6 := Lib.hid (HB5.out.trans (hb6.mono (by have := HB5.out.size; omega)))
        have HO6 := Lib.hid ho6
        clear ho6 hb6 HO25 HO35 HOa5 HP5
        go_wp2_with fail
        refine (over_any HO26.out (by rw [HXn.out]; omega)).mono ?_
        rintro e w7 ⟨rfl, hg7⟩
        have hg7' : w6.grownBy w7 (some gb) := hg7
        have hz7 : w6.heap.size ≤ w7.heap.size := hg7'.size
        have HO37 := Lib.hid (HO36.out.kept hg7' (.inr (fun e => by have := (HO36.out.lt _ e).1; omega)))
        have HOa7 := Lib.hid (HOa6.out.kept hg7' (.inr (fun e => by have := (HOa6.out.lt _ e).1; omega)))
        have HO67 := Lib.hid (HO6.out.kept hg7' (.inr (fun e => by have := (HO6.out.lt _ e).1; omega)))
        have HP7 := Lib.hid (HP6.out.grown hg7' (by intro e; have := Option.some.inj e; omega))
        have HB7 := Lib.hid (HB6.out.grown hg7' (by have := HB6.out.size; omega) (fun k e => by cases e; have := HB1b.out.size; omega))
        clear hg7 hg7' HO26 HO36 HOa6 HO6 HP6
        go_wp2_with (refine wpList_load_mid rfl 71 (.tmp 7) rfl w4.heap.size 0 rfl (propC x A4 c4) _ (Blk.whole HP7.out) Try.underlying71 rfl (by rw [HYl.out]; exact infoProp) ?_)
        refine (HRf.out w7 _ HOa7.out.rd (Nat.le_refl _)).mono ?_
        rintro e w8 ⟨v8, rfl, ho8, hb8⟩
        obtain ⟨A8, c8, rfl, -, -, -, -⟩ := ho8.shape' HXn.out
        have hz8 : w7.heap.size ≤ w8.heap.size := hb8.size
        have HO38 := Lib.hid (HO37.out.below hb8 (Nat.le_refl _))
        have HO68 := Lib.hid (HO67.out.below hb8 (Nat.le_refl _))
        have HB8 := Lib.hid (HB7.out.trans (hb8.mono (by have := HB7.out.size; omega)))
        have HO8 := Lib.hid ho8
        clear ho8 hb8 HO37 HOa7 HO67
        go_wp2_with fail
        refine (same_any c6 c3 HO68.out.rd HO38.out.rd HXn.out HXn.out).mono ?_
        rintro e w' ⟨rfl, rfl⟩
        rw [beq_self_eq_true]
        go_wp2_with fail
        refine (same_any c8 c3 HO8.out.rd HO38.out.rd HXn.out HXn.out).mono ?_
        rintro e w' ⟨rfl, rfl⟩
        rw [beq_self_eq_true]
        go_wp2_with fail
        go_ret
        exact ⟨rfl, HB8.out⟩
      · rw [HGd.out] at hg; cases hg
end Go.Proofs.Ytloglpamnalmeaa
