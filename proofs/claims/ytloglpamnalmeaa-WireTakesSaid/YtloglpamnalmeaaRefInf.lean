/- CONTRACT: burrowref09.PutInfo. -/
import Derived.Test.YtloglpamnalmeaaRefTree
import Derived.Test.YtloglpamnalmeaaInfD
namespace Go.Proofs.Ytloglpamnalmeaa
open Go.RowKit
set_option linter.unusedVariables false
set_option linter.unusedSimpArgs false

set_option maxRecDepth 100000 in
set_option maxHeartbeats 4000000 in
theorem refPutInf_any {w : World} (x : InfD) (hx : x.Ok) {B' : Nat} {A : Option Addr} {n c : Nat} {ts : List TN} (hr : RdT w B' A ts) (hB' : B' ≤ w.heap.size) (hn : ts.length = n) (hy : n ≤ 300) (hu : ∀ t ∈ ts, t.x.um.length ≤ 300) :
    Calls Try.prog 30 #[.agg (infC x A n c).toArray] w fun e w' => ∃ v, e = .returned (.tuple #[v, .bool (!(infBad x ts || decide (65536 < (infB x ts).length)))]) ∧ Own b8 w' w.heap.size 5 v (if (infBad x ts || decide (65536 < (infB x ts).length)) then [] else infB x ts) ∧ Below w.heap.size w w' := by
  obtain ⟨i0, hi0, hz0, hz1, hz2⟩ := info_parts infoU8
  have HX := Lib.hid hx
  have HR := Lib.hid hr
  have HN := Lib.hid hn
  have HU := Lib.hid hu
  have HBx0 := Lib.hid (Blk.new w 64 (infC x A n c))
  have HB0 := Lib.hid ((Below.refl w.heap.size w).alloc (Nat.le_refl _) (.cells (infC x A n c).toArray 64))
  have hs0 := World.size_alloc w (.cells (infC x A n c).toArray 64)
  have HG := Lib.hid (fun W (hb : Below w.heap.size w W) => treeGood_any (c := c) (hr.below (hb.mono hB')) (by have := hb.size; omega) hn (by omega))
  have HTr := Lib.hid (fun W (hb : Below w.heap.size w W) => refTree_any (c := c) (hr.below (hb.mono hB')) (by have := hb.size; omega) hn hy hu)
  have HTl := Lib.hid (show (treeB ts).length ≤ 120001 by
    unfold treeB; rw [List.length_append, be_len]; have h1 := nodesB_len hr.ok hu; have h2 : ts.length * 400 ≤ 300 * 400 := Nat.mul_le_mul_right _ (by omega); omega)
  obtain ⟨tb, htb⟩ : ∃ tb, tb = treeBad ts := ⟨_, rfl⟩
  rw [← htb] at HG
  have HTb := Lib.hid htb
  clear hx hr hn hu htb
  by_cases h1 : (outOf x.ep 4294967295 || outOf x.frm 31) = true
  · have e1 : infBad x ts = true := by
      unfold infBad
      rw [Bool.or_eq_true] at h1
      rcases h1 with h | h <;> rw [h] <;> simp
    have hh := fun w => headGood_any x.ep x.frm w
    simp only [h1] at hh
    have HH := Lib.hid hh
    rw [e1]
    clear e1 h1 hh
    have c32 := infC_ep HBx0.out HX.out
    have c33 := infC_nodes HBx0.out HX.out
    have c98 := infC_frm HBx0.out HX.out
    go_enter Try.func30, Try.ntmps30
    go_wp2_with fail
    generalize World.alloc w _ = W0 at HBx0 HB0 hs0 c32 c33 c98 ⊢
    go_wp2_with fail
    refine (HH.out _).mono ?_
    rintro e w' ⟨rfl, rfl⟩
    go_wp2_with fail
    go_ret2
    exact ⟨_, rfl, Own.nil_ _ _ _ _, HB0.out⟩
  · rw [Bool.not_eq_true] at h1
    have hh := fun w => headGood_any x.ep x.frm w
    simp only [h1] at hh
    have HH := Lib.hid hh
    have H1 := Lib.hid h1
    clear h1 hh
    cases tb with
    | true =>
      have e1 : infBad x ts = true := by unfold infBad; rw [← HTb.out]; simp
      rw [e1]
      clear e1
      have c32 := infC_ep HBx0.out HX.out
      have c33 := infC_nodes HBx0.out HX.out
      have c98 := infC_frm HBx0.out HX.out
      go_enter Try.func30, Try.ntmps30
      go_wp2_with fail
      generalize World.alloc w _ = W0 at HBx0 HB0 hs0 c32 c33 c98 ⊢
      go_wp2_with fail
      refine (HH.out _).mono ?_
      rintro e w' ⟨rfl, rfl⟩
      go_wp2_with fail
      refine (HG.out W0 HB0.out).mono ?_
      rintro e w2 ⟨rfl, hb2⟩
      have HBx2 := Lib.hid (HBx0.out.below hb2 (by omega))
      have HB2 := Lib.hid (HB0.out.trans (hb2.mono (by omega)))
      have hs2 : w.heap.size + 1 ≤ w2.heap.size := by have := hb2.size; omega
      have c32 := infC_ep HBx2.out HX.out
      have c33 := infC_nodes HBx2.out HX.out
      have c98 := infC_frm HBx2.out HX.out
      clear hb2
      go_wp2_with fail
      go_ret2
      exact ⟨_, rfl, Own.nil_ _ _ _ _, HB2.out⟩
    | false =>
      have e1 : infBad x ts = false := by unfold infBad; rw [← HTb.out, Bool.or_false]; exact H1.out
      obtain ⟨E, hE, hEl⟩ := outOf_nat (Bool.or_eq_false_iff.1 H1.out).1
      obtain ⟨F, hF, hFl⟩ := outOf_nat (Bool.or_eq_false_iff.1 H1.out).2
      have HE := Lib.hid hE
      have HFe := Lib.hid hF
      rw [e1]
      have hf := beAt0 (F : Int)
      clear e1 hE hF
      obtain ⟨N, hN⟩ : ∃ N, N = (infB x ts).length := ⟨_, rfl⟩
      rw [← hN]
      have HNl := Lib.hid hN
      clear hN
      by_cases hbig : 65536 < N
      · rw [decide_eq_true hbig]
        have c32 := infC_ep HBx0.out HX.out
        have c33 := infC_nodes HBx0.out HX.out
        have c98 := infC_frm HBx0.out HX.out
        go_enter Try.func30, Try.ntmps30
        go_wp2_with fail
        generalize World.alloc w _ = W0 at HBx0 HB0 hs0 c32 c33 c98 ⊢
        go_wp2_with fail
        refine (HH.out _).mono ?_
        rintro e w' ⟨rfl, rfl⟩
        go_wp2_with fail
        refine (HG.out W0 HB0.out).mono ?_
        rintro e w2 ⟨rfl, hb2⟩
        have HBx2 := Lib.hid (HBx0.out.below hb2 (by omega))
        have HB2 := Lib.hid (HB0.out.trans (hb2.mono (by omega)))
        have hs2 : w.heap.size + 1 ≤ w2.heap.size := by have := hb2.size; omega
        have c32 := infC_ep HBx2.out HX.out
        have c33 := infC_nodes HBx2.out HX.out
        have c98 := infC_frm HBx2.out HX.out
        clear hb2
        rw [HE.out] at c32
        rw [HFe.out] at c98
        go_wp2_with fail
        go_region_held3 (fun w' => w'.cell? ⟨w.heap.size, 32, none⟩ = some (.int .i64 (E : Int)))
          (first
            | exact (infC_ep (HBx2.out.below HB5.out (by omega)) HX.out).trans (by rw [HE.out])
            | exact (infC_ep (HBx2.out.below HB4.out (by omega)) HX.out).trans (by rw [HE.out])
            | exact (infC_ep (HBx2.out.below HB3.out (by omega)) HX.out).trans (by rw [HE.out])
            | go_keep)
          (first
            | (refine step_append_rd rfl (.tmp 17) (.tmp 19) 24 rfl b8_one w2.heap.size 5 i0 _ 1 Try.underlying24 hi0 hz0 hz1 hz2 rfl _ [] rfl (Own.lit b8 w2.drew w2.heap.size 5 [] (Nat.le_refl _) (by simp)) (w.heap.size + 1) _ 32 32 x.grp rfl HX.out.grp.symm (rd_of_range (infC_grp (HBx2.out.drew.alloc _) HX.out)) (by have := HX.out.grp; simp [maxLen]; omega) (by have := HX.out.grp; simp; omega) (by simp) ?_; intro v3 w3 hown3 hg3 hbb3; have HO3 := Lib.hid hown3; have HB3 := Lib.hid (hbb3 w2.heap.size w2 (Nat.le_refl _) ((Below.refl _ _).drew.alloc (Nat.le_refl _) _)); clear hown3 hg3 hbb3)
            | (go_simp; go_at_call 57; refine (num9_any E 4 4 rfl (by omega) (by omega) _).mono ?_; rintro e w4 ⟨v4, rfl, ho4, hb4⟩; obtain ⟨A4, c4, rfl, hr4, -, -, -⟩ := ho4.shape' (be_len _ _); have HR4 := Lib.hid hr4; have HO34 := Lib.hid (HO3.out.below hb4 (Nat.le_refl _)); have HB4 := Lib.hid (HB3.out.trans (hb4.mono HB3.out.size)); clear ho4 hb4 hr4)
            | (refine step_append_rd rfl (.tmp 20) (.tmp 23) 24 rfl b8_one w2.heap.size 5 i0 _ 1 Try.underlying24 hi0 hz0 hz1 hz2 rfl _ _ rfl HO34.out w4.heap.size A4 4 c4 (be E 4) rfl (be_len _ _).symm HR4.out (by have := HX.out.grp; simp [maxLen, be_len]; omega) (by have := HX.out.grp; simp [be_len]; omega) HB4.out.size ?_; intro v5 w5 hown5 hg5 hbb5; have HO5 := Lib.hid hown5; have HB5 := Lib.hid (hbb5 _ _ (Nat.le_refl _) HB4.out); clear hown5 hg5 hbb5))
        have HB5' := Lib.hid (HB2.out.trans (HB5.out.mono (show w.heap.size ≤ w2.heap.size by omega)))
        have HBx5 := Lib.hid (HBx2.out.below HB5.out (by omega))
        have hs5 : w2.heap.size ≤ w5.heap.size := HB5.out.size
        obtain ⟨A5, c5, rfl, -, -, -, -⟩ := HO5.out.shape' (n := 36) (by have := HX.out.grp; simp [be_len]; omega)
        have HL5 := Lib.hid (show ([] ++ x.grp ++ be (E : Int) 4).length = 36 by have := HX.out.grp; simp [be_len]; omega)
        have c33 := infC_nodes HBx5.out HX.out
        have c98 := (infC_frm HBx5.out HX.out).trans (by rw [HFe.out])
        clear c32
        go_wp2_with fail
        go_region_held3 (fun w' => w'.cell? ⟨w.heap.size, 33, none⟩ = some (.slice A n c))
          (first
            | exact infC_nodes HBx9.out HX.out
            | exact infC_nodes HBx8.out HX.out
            | exact infC_nodes HBx7.out HX.out
            | exact infC_nodes HBx6.out HX.out
            | go_keep)
          (first
            | (go_simp; go_at_call 69; refine (HTr.out _ HB5'.out.drew).mono ?_; rintro e w6 ⟨v6, rfl, ho6, hb6⟩; obtain ⟨A6, c6, rfl, hr6, -, -, -⟩ := ho6.shape' (n := (treeB ts).length) rfl; have HR6 := Lib.hid hr6; have HO56 := Lib.hid (HO5.out.drew.below hb6 (Nat.le_refl _)); have HB6 := Lib.hid ((Below.refl w2.heap.size w5).drew.trans (hb6.mono hs5)); have HBx6 := Lib.hid (HBx5.out.below HB6.out (by omega)); have hs6 : w5.heap.size ≤ w6.heap.size := HB6.out.size; clear ho6 hb6 hr6)
            | (refine step_append_rd rfl (.tmp 25) (.tmp 28) 24 rfl b8_one w2.heap.size 5 i0 _ 1 Try.underlying24 hi0 hz0 hz1 hz2 rfl _ _ rfl HO56.out w6.heap.size A6 (treeB ts).length c6 (treeB ts) rfl rfl HR6.out (by rw [HL5.out]; have := HTl.out; simp only [maxLen]; omega) (by rw [HL5.out]; have := HTl.out; omega) (by omega) ?_; intro v7 w7 hown7 hg7 hbb7; have HO7 := Lib.hid hown7; have HB7 := Lib.hid (hbb7 _ _ (Nat.le_refl _) HB6.out); have HBx7 := Lib.hid (HBx5.out.below HB7.out (by omega)); have hs7 : w5.heap.size ≤ w7.heap.size := HB7.out.size; clear hown7 hg7 hbb7)
            | (refine step_append_rd rfl (.tmp 29) (.tmp 31) 24 rfl b8_one w2.heap.size 5 i0 _ 1 Try.underlying24 hi0 hz0 hz1 hz2 rfl _ _ rfl HO7.out (w.heap.size + 1) _ 32 32 x.conf rfl HX.out.conf.symm (rd_of_range (infC_conf HBx7.out HX.out)) (by rw [List.length_append, HL5.out, HX.out.conf]; have := HTl.out; simp only [maxLen]; omega) (by rw [List.length_append, HL5.out, HX.out.conf]; have := HTl.out; omega) (by omega) ?_; intro v8 w8 hown8 hg8 hbb8; have HO8 := Lib.hid hown8; have HB8 := Lib.hid (hbb8 _ _ (Nat.le_refl _) HB7.out); have HBx8 := Lib.hid (HBx5.out.below HB8.out (by omega)); have hs8 : w5.heap.size ≤ w8.heap.size := HB8.out.size; clear hown8 hg8 hbb8)
            | (refine step_append_rd rfl (.tmp 32) (.tmp 34) 24 rfl b8_one w2.heap.size 5 i0 _ 1 Try.underlying24 hi0 hz0 hz1 hz2 rfl _ _ rfl HO8.out (w.heap.size + 1) _ 32 32 x.tag rfl HX.out.tag.symm (rd_of_range (infC_tag HBx8.out HX.out)) (by rw [List.length_append, List.length_append, HL5.out, HX.out.conf, HX.out.tag]; have := HTl.out; simp only [maxLen]; omega) (by rw [List.length_append, List.length_append, HL5.out, HX.out.conf, HX.out.tag]; have := HTl.out; omega) (by omega) ?_; intro v9 w9 hown9 hg9 hbb9; have HO9 := Lib.hid hown9; have HB9 := Lib.hid (hbb9 _ _ (Nat.le_refl _) HB8.out); have HBx9 := Lib.hid (HBx5.out.below HB9.out (by omega)); have hs9 : w5.heap.size ≤ w9.heap.size := HB9.out.size; clear hown9 hg9 hbb9))
        have HL9 := Lib.hid (show ([] ++ x.grp ++ be (E : Int) 4 ++ treeB ts ++ x.conf ++ x.tag).length + 65 = N by
          rw [HNl.out]; unfold infB; simp only [List.length_append, List.length_nil, be_len, HX.out.grp, HX.out.conf, HX.out.tag, HX.out.sig]; omega)
        have hN1 : N ≤ 130000 := by have h := HNl.out; have h2 := HTl.out; rw [h]; unfold infB; simp only [List.length_append, be_len, HX.out.grp, HX.out.conf, HX.out.tag, HX.out.sig]; omega
        obtain ⟨A9, c9, rfl, -, -, -, -⟩ := HO9.out.shape' (n := N - 65) (by have := HL9.out; omega)
        have c98 := (infC_frm HBx9.out HX.out).trans (by rw [HFe.out])
        have HB9' := Lib.hid (HB5'.out.trans (HB9.out.mono (show w.heap.size ≤ w2.heap.size by omega)))
        clear c33
        go_wp2_with fail
        go_region_held3 (fun w' => w'.cell? ⟨w.heap.size, 98, none⟩ = some (.int .i64 (F : Int)))
          (first
            | exact (infC_frm HBx11.out HX.out).trans (by rw [HFe.out])
            | exact (infC_frm HBx10.out HX.out).trans (by rw [HFe.out])
            | go_keep)
          (first
            | (refine step_append_rd rfl (.tmp 36) (.tmp 40) 24 rfl b8_one w2.heap.size 5 i0 _ 1 Try.underlying24 hi0 hz0 hz1 hz2 rfl _ _ rfl (HO9.out.alloc _).drew (w9.heap.size + 1) _ 1 1 [beAt (F : Int) 0] rfl rfl ((Rd.new b8 w9 5 [beAt (F : Int) 0]).below (Below.refl _ _).drew) (by have := HL9.out; simp only [List.length_singleton, maxLen]; omega) (by have := HL9.out; simp only [List.length_singleton]; omega) (by show w2.heap.size ≤ (w9.alloc _).heap.size; rw [World.size_alloc]; omega) ?_; intro v10 w10 hown10 hg10 hbb10; have HO10 := Lib.hid hown10; have HB10 := Lib.hid (hbb10 w2.heap.size w9 (Nat.le_refl _) ((Below.refl _ _).alloc (show w2.heap.size ≤ w9.heap.size by omega) _).drew); have HBx10 := Lib.hid (HBx9.out.below HB10.out (by omega)); have hs10 : w9.heap.size ≤ w10.heap.size := HB10.out.size; clear hown10 hg10 hbb10)
            | (refine step_append_rd rfl (.tmp 41) (.tmp 43) 24 rfl b8_one w2.heap.size 5 i0 _ 1 Try.underlying24 hi0 hz0 hz1 hz2 rfl _ _ rfl HO10.out (w.heap.size + 1) _ 64 64 x.sig rfl HX.out.sig.symm (rd_of_range (infC_sig HBx10.out HX.out)) (by rw [List.length_append, HX.out.sig]; have := HL9.out; simp only [List.length_singleton, maxLen]; omega) (by rw [List.length_append, HX.out.sig]; have := HL9.out; simp only [List.length_singleton]; omega) (by omega) ?_; intro v11 w11 hown11 hg11 hbb11; obtain ⟨A11, c11, rfl, -, -, -, -⟩ := hown11.shape' (n := N) (by rw [List.length_append, List.length_append, HX.out.sig]; have := HL9.out; simp only [List.length_singleton]; omega); have HO11 := Lib.hid hown11; have HB11 := Lib.hid (hbb11 _ _ (Nat.le_refl _) HB10.out); have HBx11 := Lib.hid (HBx9.out.below HB11.out (by omega)); have hs11 : w9.heap.size ≤ w11.heap.size := HB11.out.size; clear hown11 hg11 hbb11)
            | (go_simp; go_at_call 55; refine (fits_big _ _ _ _ hbig).mono ?_; rintro e w12 ⟨rfl, rfl⟩))
        have HBe := Lib.hid (HB9'.out.trans (HB11.out.mono (show w.heap.size ≤ w2.heap.size by omega)))
        go_wp2_with fail
        go_ret2
        exact ⟨_, rfl, Own.nil_ _ _ _ _, HBe.out⟩
      · rw [decide_eq_false hbig]
        have c32 := infC_ep HBx0.out HX.out
        have c33 := infC_nodes HBx0.out HX.out
        have c98 := infC_frm HBx0.out HX.out
        go_enter Try.func30, Try.ntmps30
        go_wp2_with fail
        generalize World.alloc w _ = W0 at HBx0 HB0 hs0 c32 c33 c98 ⊢
        go_wp2_with fail
        refine (HH.out _).mono ?_
        rintro e w' ⟨rfl, rfl⟩
        go_wp2_with fail
        refine (HG.out W0 HB0.out).mono ?_
        rintro e w2 ⟨rfl, hb2⟩
        have HBx2 := Lib.hid (HBx0.out.below hb2 (by omega))
        have HB2 := Lib.hid (HB0.out.trans (hb2.mono (by omega)))
        have hs2 : w.heap.size + 1 ≤ w2.heap.size := by have := hb2.size; omega
        have c32 := infC_ep HBx2.out HX.out
        have c33 := infC_nodes HBx2.out HX.out
        have c98 := infC_frm HBx2.out HX.out
        clear hb2
        rw [HE.out] at c32
        rw [HFe.out] at c98
        go_wp2_with fail
        go_region_held3 (fun w' => w'.cell? ⟨w.heap.size, 32, none⟩ = some (.int .i64 (E : Int)))
          (first
            | exact (infC_ep (HBx2.out.below HB5.out (by omega)) HX.out).trans (by rw [HE.out])
            | exact (infC_ep (HBx2.out.below HB4.out (by omega)) HX.out).trans (by rw [HE.out])
            | exact (infC_ep (HBx2.out.below HB3.out (by omega)) HX.out).trans (by rw [HE.out])
            | go_keep)
          (first
            | (refine step_append_rd rfl (.tmp 17) (.tmp 19) 24 rfl b8_one w2.heap.size 5 i0 _ 1 Try.underlying24 hi0 hz0 hz1 hz2 rfl _ [] rfl (Own.lit b8 w2.drew w2.heap.size 5 [] (Nat.le_refl _) (by simp)) (w.heap.size + 1) _ 32 32 x.grp rfl HX.out.grp.symm (rd_of_range (infC_grp (HBx2.out.drew.alloc _) HX.out)) (by have := HX.out.grp; simp [maxLen]; omega) (by have := HX.out.grp; simp; omega) (by simp) ?_; intro v3 w3 hown3 hg3 hbb3; have HO3 := Lib.hid hown3; have HB3 := Lib.hid (hbb3 w2.heap.size w2 (Nat.le_refl _) ((Below.refl _ _).drew.alloc (Nat.le_refl _) _)); clear hown3 hg3 hbb3)
            | (go_simp; go_at_call 57; refine (num9_any E 4 4 rfl (by omega) (by omega) _).mono ?_; rintro e w4 ⟨v4, rfl, ho4, hb4⟩; obtain ⟨A4, c4, rfl, hr4, -, -, -⟩ := ho4.shape' (be_len _ _); have HR4 := Lib.hid hr4; have HO34 := Lib.hid (HO3.out.below hb4 (Nat.le_refl _)); have HB4 := Lib.hid (HB3.out.trans (hb4.mono HB3.out.size)); clear ho4 hb4 hr4)
            | (refine step_append_rd rfl (.tmp 20) (.tmp 23) 24 rfl b8_one w2.heap.size 5 i0 _ 1 Try.underlying24 hi0 hz0 hz1 hz2 rfl _ _ rfl HO34.out w4.heap.size A4 4 c4 (be E 4) rfl (be_len _ _).symm HR4.out (by have := HX.out.grp; simp [maxLen, be_len]; omega) (by have := HX.out.grp; simp [be_len]; omega) HB4.out.size ?_; intro v5 w5 hown5 hg5 hbb5; have HO5 := Lib.hid hown5; have HB5 := Lib.hid (hbb5 _ _ (Nat.le_refl _) HB4.out); clear hown5 hg5 hbb5))
        have HB5' := Lib.hid (HB2.out.trans (HB5.out.mono (show w.heap.size ≤ w2.heap.size by omega)))
        have HBx5 := Lib.hid (HBx2.out.below HB5.out (by omega))
        have hs5 : w2.heap.size ≤ w5.heap.size := HB5.out.size
        obtain ⟨A5, c5, rfl, -, -, -, -⟩ := HO5.out.shape' (n := 36) (by have := HX.out.grp; simp [be_len]; omega)
        have HL5 := Lib.hid (show ([] ++ x.grp ++ be (E : Int) 4).length = 36 by have := HX.out.grp; simp [be_len]; omega)
        have c33 := infC_nodes HBx5.out HX.out
        have c98 := (infC_frm HBx5.out HX.out).trans (by rw [HFe.out])
        clear c32
        go_wp2_with fail
        go_region_held3 (fun w' => w'.cell? ⟨w.heap.size, 33, none⟩ = some (.slice A n c))
          (first
            | exact infC_nodes HBx9.out HX.out
            | exact infC_nodes HBx8.out HX.out
            | exact infC_nodes HBx7.out HX.out
            | exact infC_nodes HBx6.out HX.out
            | go_keep)
          (first
            | (go_simp; go_at_call 69; refine (HTr.out _ HB5'.out.drew).mono ?_; rintro e w6 ⟨v6, rfl, ho6, hb6⟩; obtain ⟨A6, c6, rfl, hr6, -, -, -⟩ := ho6.shape' (n := (treeB ts).length) rfl; have HR6 := Lib.hid hr6; have HO56 := Lib.hid (HO5.out.drew.below hb6 (Nat.le_refl _)); have HB6 := Lib.hid ((Below.refl w2.heap.size w5).drew.trans (hb6.mono hs5)); have HBx6 := Lib.hid (HBx5.out.below HB6.out (by omega)); have hs6 : w5.heap.size ≤ w6.heap.size := HB6.out.size; clear ho6 hb6 hr6)
            | (refine step_append_rd rfl (.tmp 25) (.tmp 28) 24 rfl b8_one w2.heap.size 5 i0 _ 1 Try.underlying24 hi0 hz0 hz1 hz2 rfl _ _ rfl HO56.out w6.heap.size A6 (treeB ts).length c6 (treeB ts) rfl rfl HR6.out (by rw [HL5.out]; have := HTl.out; simp only [maxLen]; omega) (by rw [HL5.out]; have := HTl.out; omega) (by omega) ?_; intro v7 w7 hown7 hg7 hbb7; have HO7 := Lib.hid hown7; have HB7 := Lib.hid (hbb7 _ _ (Nat.le_refl _) HB6.out); have HBx7 := Lib.hid (HBx5.out.below HB7.out (by omega)); have hs7 : w5.heap.size ≤ w7.heap.size := HB7.out.size; clear hown7 hg7 hbb7)
            | (refine step_append_rd rfl (.tmp 29) (.tmp 31) 24 rfl b8_one w2.heap.size 5 i0 _ 1 Try.underlying24 hi0 hz0 hz1 hz2 rfl _ _ rfl HO7.out (w.heap.size + 1) _ 32 32 x.conf rfl HX.out.conf.symm (rd_of_range (infC_conf HBx7.out HX.out)) (by rw [List.length_append, HL5.out, HX.out.conf]; have := HTl.out; simp only [maxLen]; omega) (by rw [List.length_append, HL5.out, HX.out.conf]; have := HTl.out; omega) (by omega) ?_; intro v8 w8 hown8 hg8 hbb8; have HO8 := Lib.hid hown8; have HB8 := Lib.hid (hbb8 _ _ (Nat.le_refl _) HB7.out); have HBx8 := Lib.hid (HBx5.out.below HB8.out (by omega)); have hs8 : w5.heap.size ≤ w8.heap.size := HB8.out.size; clear hown8 hg8 hbb8)
            | (refine step_append_rd rfl (.tmp 32) (.tmp 34) 24 rfl b8_one w2.heap.size 5 i0 _ 1 Try.underlying24 hi0 hz0 hz1 hz2 rfl _ _ rfl HO8.out (w.heap.size + 1) _ 32 32 x.tag rfl HX.out.tag.symm (rd_of_range (infC_tag HBx8.out HX.out)) (by rw [List.length_append, List.length_append, HL5.out, HX.out.conf, HX.out.tag]; have := HTl.out; simp only [maxLen]; omega) (by rw [List.length_append, List.length_append, HL5.out, HX.out.conf, HX.out.tag]; have := HTl.out; omega) (by omega) ?_; intro v9 w9 hown9 hg9 hbb9; have HO9 := Lib.hid hown9; have HB9 := Lib.hid (hbb9 _ _ (Nat.le_refl _) HB8.out); have HBx9 := Lib.hid (HBx5.out.below HB9.out (by omega)); have hs9 : w5.heap.size ≤ w9.heap.size := HB9.out.size; clear hown9 hg9 hbb9))
        have HL9 := Lib.hid (show ([] ++ x.grp ++ be (E : Int) 4 ++ treeB ts ++ x.conf ++ x.tag).length + 65 = N by
          rw [HNl.out]; unfold infB; simp only [List.length_append, List.length_nil, be_len, HX.out.grp, HX.out.conf, HX.out.tag, HX.out.sig]; omega)
        have hN1 : N ≤ 130000 := by have h := HNl.out; have h2 := HTl.out; rw [h]; unfold infB; simp only [List.length_append, be_len, HX.out.grp, HX.out.conf, HX.out.tag, HX.out.sig]; omega
        obtain ⟨A9, c9, rfl, -, -, -, -⟩ := HO9.out.shape' (n := N - 65) (by have := HL9.out; omega)
        have c98 := (infC_frm HBx9.out HX.out).trans (by rw [HFe.out])
        have HB9' := Lib.hid (HB5'.out.trans (HB9.out.mono (show w.heap.size ≤ w2.heap.size by omega)))
        clear c33
        go_wp2_with fail
        go_region_held3 (fun w' => w'.cell? ⟨w.heap.size, 98, none⟩ = some (.int .i64 (F : Int)))
          (first
            | exact (infC_frm HBx11.out HX.out).trans (by rw [HFe.out])
            | exact (infC_frm HBx10.out HX.out).trans (by rw [HFe.out])
            | go_keep)
          (first
            | (refine step_append_rd rfl (.tmp 36) (.tmp 40) 24 rfl b8_one w2.heap.size 5 i0 _ 1 Try.underlying24 hi0 hz0 hz1 hz2 rfl _ _ rfl (HO9.out.alloc _).drew (w9.heap.size + 1) _ 1 1 [beAt (F : Int) 0] rfl rfl ((Rd.new b8 w9 5 [beAt (F : Int) 0]).below (Below.refl _ _).drew) (by have := HL9.out; simp only [List.length_singleton, maxLen]; omega) (by have := HL9.out; simp only [List.length_singleton]; omega) (by show w2.heap.size ≤ (w9.alloc _).heap.size; rw [World.size_alloc]; omega) ?_; intro v10 w10 hown10 hg10 hbb10; have HO10 := Lib.hid hown10; have HB10 := Lib.hid (hbb10 w2.heap.size w9 (Nat.le_refl _) ((Below.refl _ _).alloc (show w2.heap.size ≤ w9.heap.size by omega) _).drew); have HBx10 := Lib.hid (HBx9.out.below HB10.out (by omega)); have hs10 : w9.heap.size ≤ w10.heap.size := HB10.out.size; clear hown10 hg10 hbb10)
            | (refine step_append_rd rfl (.tmp 41) (.tmp 43) 24 rfl b8_one w2.heap.size 5 i0 _ 1 Try.underlying24 hi0 hz0 hz1 hz2 rfl _ _ rfl HO10.out (w.heap.size + 1) _ 64 64 x.sig rfl HX.out.sig.symm (rd_of_range (infC_sig HBx10.out HX.out)) (by rw [List.length_append, HX.out.sig]; have := HL9.out; simp only [List.length_singleton, maxLen]; omega) (by rw [List.length_append, HX.out.sig]; have := HL9.out; simp only [List.length_singleton]; omega) (by omega) ?_; intro v11 w11 hown11 hg11 hbb11; obtain ⟨A11, c11, rfl, -, -, -, -⟩ := hown11.shape' (n := N) (by rw [List.length_append, List.length_append, HX.out.sig]; have := HL9.out; simp only [List.length_singleton]; omega); have HO11 := Lib.hid hown11; have HB11 := Lib.hid (hbb11 _ _ (Nat.le_refl _) HB10.out); have HBx11 := Lib.hid (HBx9.out.below HB11.out (by omega)); have hs11 : w9.heap.size ≤ w11.heap.size := HB11.out.size; clear hown11 hg11 hbb11)
            | (go_simp; go_at_call 55; refine (fits_ok _ _ _ _ hbig).mono ?_; rintro e w12 ⟨rfl, rfl⟩))
        have HBe := Lib.hid (HB9'.out.trans (HB11.out.mono (show w.heap.size ≤ w2.heap.size by omega)))
        go_wp2_with fail
        go_ret2
        refine ⟨_, rfl, (HO11.out.less (show w.heap.size ≤ w2.heap.size by omega)).cast ?_, HBe.out⟩
        unfold infB
        rw [HE.out, HFe.out]
        simp only [List.nil_append, List.append_assoc]
        rfl
end Go.Proofs.Ytloglpamnalmeaa
