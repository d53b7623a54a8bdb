/- WireInfo, the walk. -/
import Derived.Test.YtloglpamnalmeaaWels
import Derived.Test.YtloglpamnalmeaaTakeInf
import Derived.Test.YtloglpamnalmeaaRefInf
import Derived.Test.YtloglpamnalmeaaWireTree
namespace Go.Proofs.Ytloglpamnalmeaa
open Go.RowKit
set_option linter.unusedVariables false
set_option linter.unusedSimpArgs false

set_option maxRecDepth 100000 in
set_option maxHeartbeats 4000000 in
theorem wireInfo_walk {w : World} (x : InfD) (hx : x.Ok) {A : Option Addr} {n c : Nat} {ts : List TN} (hr : RdT w w.heap.size A ts) (hn : ts.length = n) (hmax : n ≤ 9223372036854775807) :
    Calls Try.prog 7 #[.agg (infC x A n c).toArray] w fun e w' => e = .returned (.bool true) ∧ Below w.heap.size w w' := by
  have HX := Lib.hid hx
  have HR := Lib.hid hr
  have HN := Lib.hid hn
  have HXl := Lib.hid (infC_len hx A n c)
  have HLaw := Lib.hid (fun W (hb : Below w.heap.size w W) => lawTree_any (c := c) (hr.below hb) hb.size hn hmax)
  obtain ⟨lt, hlt⟩ : ∃ lt, lt = lawTree ts := ⟨_, rfl⟩
  rw [← hlt] at HLaw
  have HLt := Lib.hid hlt
  have HBx := Lib.hid (Blk.new w 64 (infC x A n c))
  have HB0 := Lib.hid ((Below.refl w.heap.size w).alloc (Nat.le_refl _) (.cells (infC x A n c).toArray 64))
  have hz0 := World.size_alloc w (.cells (infC x A n c).toArray 64)
  clear hr hn hlt hx
  cases lt with
  | false =>
    go_enter Try.func7, Try.ntmps7
    go_wp2_with fail
    generalize World.alloc w _ = W0 at HBx HB0 hz0 ⊢
    refine (alive09_any _).mono ?_
    rintro e w1 ⟨rfl, hb1⟩
    have hz1 : W0.heap.size ≤ w1.heap.size := hb1.size
    have HBx1 := Lib.hid (HBx.out.below hb1 (by omega))
    have HB1 := Lib.hid (HB0.out.trans (hb1.mono (by omega)))
    have c33 := infC_nodes HBx1.out HX.out
    clear hb1 HBx HB0
    go_wp2_with fail
    refine (HLaw.out w1 HB1.out).mono ?_
    rintro e w1b ⟨rfl, hb1b⟩
    have hz1b : w1.heap.size ≤ w1b.heap.size := hb1b.size
    have HBx1b := Lib.hid (HBx1.out.below hb1b (by omega))
    have HB1b := Lib.hid (HB1.out.trans (hb1b.mono HB1.out.size))
    clear hb1b HLaw c33
    go_wp2_with fail
    go_ret
    exact ⟨rfl, HB1b.out⟩
  | true =>
    obtain ⟨hn101, hum⟩ := lawTree_le HLt.out.symm
    rw [HN.out] at hn101
    have HUm := Lib.hid hum
    have hput := fun W1 (hb : Below w.heap.size w W1) => putInf_any (c := c) x HX.out (HR.out.below hb) hb.size HN.out (by omega) hum
    have href := fun W1 (hb : Below w.heap.size w W1) => refPutInf_any (c := c) x HX.out (HR.out.below hb) hb.size HN.out (by omega) hum
    obtain ⟨q, hq⟩ : ∃ q, q = (infBad x ts || decide (65536 < (infB x ts).length)) := ⟨_, rfl⟩
    simp only [← hq] at hput href
    have HQ := Lib.hid hq
    clear hum hq
    cases q with
    | true =>
      simp only [reduceIte] at hput
      rw [errV_pos (by simp)] at hput
      simp only [reduceIte, Bool.not_true] at href
      have HPut := Lib.hid hput
      have HRef := Lib.hid href
      clear hput href
      go_enter Try.func7, Try.ntmps7
      go_wp2_with fail
      generalize World.alloc w _ = W0 at HBx HB0 hz0 ⊢
      refine (alive09_any _).mono ?_
      rintro e w1 ⟨rfl, hb1⟩
      have hz1 : W0.heap.size ≤ w1.heap.size := hb1.size
      have HBx1 := Lib.hid (HBx.out.below hb1 (by omega))
      have HB1 := Lib.hid (HB0.out.trans (hb1.mono (by omega)))
      have c33 := infC_nodes HBx1.out HX.out
      clear hb1 HBx HB0
      go_wp2_with fail
      refine (HLaw.out w1 HB1.out).mono ?_
      rintro e w1b ⟨rfl, hb1b⟩
      have hz1b : w1.heap.size ≤ w1b.heap.size := hb1b.size
      have HBx1b := Lib.hid (HBx1.out.below hb1b (by omega))
      have HB1b := Lib.hid (HB1.out.trans (hb1b.mono HB1.out.size))
      clear hb1b HLaw c33
      go_wp2_with (refine wpList_load_mid rfl 64 (.tmp 1) rfl w.heap.size 0 rfl (infC x A n c) _ (Blk.whole HBx1b.out) Try.underlying64 rfl (by rw [HXl.out]; exact infoInfo) ?_)
      refine (HPut.out w1b HB1b.out).mono ?_
      rintro e w2 ⟨v2, rfl, ho2, hb2⟩
      have hz2 : w1b.heap.size ≤ w2.heap.size := hb2.size
      have HBx2 := Lib.hid (HBx1b.out.below hb2 (by omega))
      have HB2 := Lib.hid (HB1b.out.trans (hb2.mono HB1b.out.size))
      have HO2 := Lib.hid ho2
      have HL2 := Lib.hid ho2.lt
      clear ho2 hb2 HPut
      go_wp2_with (refine wpList_load_mid rfl 64 (.tmp 1) rfl w.heap.size 0 rfl (infC x A n c) _ (Blk.whole HBx2.out) Try.underlying64 rfl (by rw [HXl.out]; exact infoInfo) ?_)
      refine (HRef.out w2 HB2.out).mono ?_
      rintro e w3 ⟨v3, rfl, ho3, hb3⟩
      have hz3 : w2.heap.size ≤ w3.heap.size := hb3.size
      have HB3 := Lib.hid (HB2.out.trans (hb3.mono HB2.out.size))
      have HO23 := Lib.hid (HO2.out.below hb3 (Nat.le_refl _))
      have HO3 := Lib.hid ho3
      clear ho3 hb3 HRef HBx1 HBx1b HBx2
      obtain ⟨A2', c2', rfl, -, -, -, -⟩ := HO23.out.shape' (n := 0) rfl
      go_wp2_with fail
      refine (answer_bad A2' c2' v3).mono ?_
      rintro e w' ⟨rfl, rfl⟩
      go_wp2_with fail
      go_ret
      exact ⟨rfl, HB3.out⟩
    | false =>
      simp only [Bool.false_eq_true, reduceIte, errV_zero] at hput
      simp only [Bool.false_eq_true, reduceIte, Bool.not_false] at href
      have HPut := Lib.hid hput
      have HRef := Lib.hid href
      clear hput href
      go_enter Try.func7, Try.ntmps7
      go_wp2_with fail
      generalize World.alloc w _ = W0 at HBx HB0 hz0 ⊢
      refine (alive09_any _).mono ?_
      rintro e w1 ⟨rfl, hb1⟩
      have hz1 : W0.heap.size ≤ w1.heap.size := hb1.size
      have HBx1 := Lib.hid (HBx.out.below hb1 (by omega))
      have HB1 := Lib.hid (HB0.out.trans (hb1.mono (by omega)))
      have c33 := infC_nodes HBx1.out HX.out
      clear hb1 HBx HB0
      go_wp2_with fail
      refine (HLaw.out w1 HB1.out).mono ?_
      rintro e w1b ⟨rfl, hb1b⟩
      have hz1b : w1.heap.size ≤ w1b.heap.size := hb1b.size
      have HBx1b := Lib.hid (HBx1.out.below hb1b (by omega))
      have HB1b := Lib.hid (HB1.out.trans (hb1b.mono HB1.out.size))
      clear hb1b HLaw c33
      go_wp2_with (refine wpList_load_mid rfl 64 (.tmp 1) rfl w.heap.size 0 rfl (infC x A n c) _ (Blk.whole HBx1b.out) Try.underlying64 rfl (by rw [HXl.out]; exact infoInfo) ?_)
      refine (HPut.out w1b HB1b.out).mono ?_
      rintro e w2 ⟨v2, rfl, ho2, hb2⟩
      have hz2 : w1b.heap.size ≤ w2.heap.size := hb2.size
      have HBx2 := Lib.hid (HBx1b.out.below hb2 (by omega))
      have HB2 := Lib.hid (HB1b.out.trans (hb2.mono HB1b.out.size))
      have HO2 := Lib.hid ho2
      have HL2 := Lib.hid ho2.lt
      clear ho2 hb2 HPut
      go_wp2_with (refine wpList_load_mid rfl 64 (.tmp 1) rfl w.heap.size 0 rfl (infC x A n c) _ (Blk.whole HBx2.out) Try.underlying64 rfl (by rw [HXl.out]; exact infoInfo) ?_)
      refine (HRef.out w2 HB2.out).mono ?_
      rintro e w3 ⟨v3, rfl, ho3, hb3⟩
      have hz3 : w2.heap.size ≤ w3.heap.size := hb3.size
      have HB3 := Lib.hid (HB2.out.trans (hb3.mono HB2.out.size))
      have HO23 := Lib.hid (HO2.out.below hb3 (Nat.le_refl _))
      have HO3 := Lib.hid ho3
      clear ho3 hb3 HRef HBx1 HBx1b HBx2
      have hq2 := HQ.out.symm
      rw [Bool.or_eq_false_iff, decide_eq_false_iff_not] at hq2
      have hbX : infBadX x (ts.map (·.x)) = false := by rw [← infBad_X]; exact hq2.1
      have hok : ∀ x ∈ ts.map (·.x), x.Ok := by intro x hx; obtain ⟨t, ht, rfl⟩ := List.mem_map.1 hx; exact HR.out.ok t ht
      have hlen : (infB x ts).length ≤ 65536 := by omega
      have hlp : 0 < (infB x ts).length := by unfold infB; rw [List.length_append, HX.out.grp]; omega
      have hgd : goodI (infB x ts) = true := by rw [infB_X]; exact goodI_put HX.out hok hbX (by rw [← infB_X]; exact hlen)
      obtain ⟨p1, p2, -⟩ := pInf_put HX.out hok hbX
      rw [← infB_X] at p1 p2
      obtain ⟨X, hX⟩ : ∃ X, X = infB x ts := ⟨_, rfl⟩
      rw [← hX] at hlen hlp hgd p1 p2 HO23 HO3
      have HGd := Lib.hid hgd
      have HP1 := Lib.hid p1
      have HP2 := Lib.hid p2
      have HX' := Lib.hid hX
      obtain ⟨L, hL⟩ : ∃ L, L = X.length := ⟨_, rfl⟩
      have HXn := Lib.hid hL.symm
      rw [← hL] at hlen hlp
      clear hX hgd p1 p2 hL hq2 hbX hok
      obtain ⟨gb, cb, rfl, hgb1, hgb2, hcb⟩ := HO23.out.form' HXn.out hlp
      obtain ⟨A3, c3, rfl, -, -, -, -⟩ := HO3.out.shape' HXn.out
      have hgb3 : gb < w2.heap.size := (HL2.out gb rfl).2
      go_wp2_with fail
      refine (answer_ok cb c3 HO23.out.rd HO3.out.rd HXn.out HXn.out).mono ?_
      rintro e w' ⟨rfl, rfl⟩
      go_wp2_with fail
      refine (takeInfo_any HO23.out.rd (Nat.le_refl _) HXn.out hcb (by omega)).mono ?_
      rintro e w4 ⟨hb4, ⟨hg, A4, c4, ts4, he, ho4, hx4⟩ | ⟨hg, -⟩⟩
      · rw [HP1.out] at he
        rw [HP2.out] at hx4
        have hl4 : ts4.length = n := by have := congrArg List.length hx4; rwa [List.length_map, List.length_map, HN.out] at this
        rw [hl4] at ho4 he
        subst he
        have hum4 : ∀ t ∈ ts4, t.x.um.length ≤ 300 := by
          intro t ht
          have : t.x ∈ ts.map (·.x) := by rw [← hx4]; exact List.mem_map_of_mem ht
          obtain ⟨t0, h0, h1⟩ := List.mem_map.1 this
          rw [← h1]; exact HUm.out t0 h0
        have hbx4 : infB x ts4 = X := by rw [infB_X, hx4, ← infB_X, ← HX'.out]
        have hq4 : (infBad x ts4 || decide (65536 < (infB x ts4).length)) = false := by rw [infBad_X, hx4, ← infBad_X, hbx4, HX'.out]; exact HQ.out.symm
        rw [hbx4] at hq4
        have hrf := fun (W1 : World) (B1 : Nat) (h1 : RdT W1 B1 A4 ts4) (hB : B1 ≤ W1.heap.size) => refPutInf_any (c := c4) x HX.out h1 hB hl4 (by omega) hum4
        simp only [hq4, hbx4, Bool.false_eq_true, reduceIte, Bool.not_false] at hrf
        have HRf := Lib.hid hrf
        have hz4 : w3.heap.size ≤ w4.heap.size := hb4.size
        have HB4 := Lib.hid (HB3.out.trans (hb4.mono (by have := HB3.out.size; omega)))
        have HO24 := Lib.hid (HO23.out.below hb4 (Nat.le_refl _))
        have HO34 := Lib.hid (HO3.out.below hb4 (Nat.le_refl _))
        have HO4 := Lib.hid ho4
        have HR4 := Lib.hid (fun (W : World) (h : OwnT W w3.heap.size (.slice A4 n c4) ts4) => (show RdT W W.heap.size A4 ts4 from ownT_rd h))
        have HZ4 := Lib.hid (show Blk (w4.alloc (.cells zerosInfo.toArray 64)) w4.heap.size 64 zerosInfo from Blk.new w4 _ _)
        have HYl := Lib.hid (infC_len HX.out A4 n c4)
        clear hb4 ho4 hg hx4 hum4 hbx4 hq4 hrf HO23 HO3
        go_wp2_with (first
          | (refine wpList_store_blk rfl 64 _ _ rfl w4.heap.size rfl (infC x A4 n c4) rfl _ _ HZ4.out (by rw [zerosInfo_len, HYl.out]) (by rw [HYl.out]; exact infoInfo) (infC_one _ _ _ _) ?_; intro w5 hp5 hg5; have HP5 := Lib.hid hp5; have HG5 := Lib.hid hg5; clear hp5 hg5)
          | (refine wpList_load_mid rfl 64 (.tmp 7) rfl w4.heap.size 0 rfl (infC x A4 n c4) _ (Blk.whole HP5.out) Try.underlying64 rfl (by rw [HYl.out]; exact infoInfo) ?_))
        have hb5 : Below w4.heap.size w4 w5 := below_box HG5.out
        have hz5 : w4.heap.size + 1 ≤ w5.heap.size := by have := HG5.out.size; simpa using this
        have HO25 := Lib.hid (HO24.out.below hb5 (Nat.le_refl _))
        have HO35 := Lib.hid (HO34.out.below hb5 (Nat.le_refl _))
        have HOa5 := Lib.hid (HO4.out.below hb5 (Nat.le_refl _))
        have HB5 := Lib.hid (HB4.out.trans (hb5.mono (by have := HB4.out.size; omega)))
        clear hb5 HG5 HO24 HO34 HO4 HZ4
        refine (HRf.out w5 _ (HR4.out _ HOa5.out) (Nat.le_refl _)).mono ?_
        rintro e w6 ⟨v6, rfl, ho6, hb6⟩
        obtain ⟨A6, c6, rfl, -, -, -, -⟩ := ho6.shape' HXn.out
        have hz6 : w5.heap.size ≤ w6.heap.size := hb6.size
        have HO26 := Lib.hid (HO25.out.below hb6 (Nat.le_refl _))
        have HO36 := Lib.hid (HO35.out.below hb6 (Nat.le_refl _))
        have HOa6 := Lib.hid (HOa5.out.below hb6 (Nat.le_refl _))
        have HP6 := Lib.hid (HP5.out.below hb6 (by omega))
        have HB6 := Lib.hid (HB5.out.trans (hb6.mono (by have := HB5.out.size; omega)))
        have HO6 := Lib.hid ho6
        clear ho6 hb6 HO25 HO35 HOa5 HP5
        go_wp2_with fail
        refine (over_any HO26.out (by rw [HXn.out]; omega)).mono ?_
        rintro e w7 ⟨rfl, hg7⟩
        have hg7' : w6.grownBy w7 (some gb) := hg7
        have hz7 : w6.heap.size ≤ w7.heap.size := hg7'.size
        have HO37 := Lib.hid (HO36.out.kept hg7' (.inr (fun e => by have := (HO36.out.lt _ e).1; omega)))
        have HOa7 := Lib.hid (HOa6.out.kept hg7' (by omega))
        have HO67 := Lib.hid (HO6.out.kept hg7' (.inr (fun e => by have := (HO6.out.lt _ e).1; omega)))
        have HP7 := Lib.hid (HP6.out.grown hg7' (by intro e; have := Option.some.inj e; omega))
        have HB7 := Lib.hid (HB6.out.grown hg7' (by have := HB6.out.size; omega) (fun k e => by cases e; have := HB1b.out.size; omega))
        clear hg7 hg7' HO26 HO36 HOa6 HO6 HP6
        go_wp2_with (refine wpList_load_mid rfl 64 (.tmp 7) rfl w4.heap.size 0 rfl (infC x A4 n c4) _ (Blk.whole HP7.out) Try.underlying64 rfl (by rw [HYl.out]; exact infoInfo) ?_)
        refine (HRf.out w7 _ (HR4.out _ HOa7.out) (Nat.le_refl _)).mono ?_
        rintro e w8 ⟨v8, rfl, ho8, hb8⟩
        obtain ⟨A8, c8, rfl, -, -, -, -⟩ := ho8.shape' HXn.out
        have hz8 : w7.heap.size ≤ w8.heap.size := hb8.size
        have HO38 := Lib.hid (HO37.out.below hb8 (Nat.le_refl _))
        have HO68 := Lib.hid (HO67.out.below hb8 (Nat.le_refl _))
        have HB8 := Lib.hid (HB7.out.trans (hb8.mono (by have := HB7.out.size; omega)))
        have HO8 := Lib.hid ho8
        clear ho8 hb8 HO37 HOa7 HO67
        go_wp2_with fail
        refine (same_any c6 c3 HO68.out.rd HO38.out.rd HXn.out HXn.out).mono ?_
        rintro e w' ⟨rfl, rfl⟩
        rw [beq_self_eq_true]
        go_wp2_with fail
        refine (same_any c8 c3 HO8.out.rd HO38.out.rd HXn.out HXn.out).mono ?_
        rintro e w' ⟨rfl, rfl⟩
        rw [beq_self_eq_true]
        go_wp2_with fail
        go_ret
        exact ⟨rfl, HB8.out⟩
      · rw [HGd.out] at hg; cases hg
end Go.Proofs.Ytloglpamnalmeaa
