/- CONTRACT: the reference's Seal. -/
import Derived.Test.YtkoefhbmkmepaaaMarkR
import Derived.Test.YtkoefhbmkmepaaaMix
import Derived.Test.YtkoefhbmkmepaaaErr
namespace Go.Proofs.Ytkoefhbmkmepaaa
open Go.RowKit
set_option linter.unusedVariables false
set_option linter.unusedSimpArgs false

set_option maxRecDepth 100000 in
set_option maxHeartbeats 4000000 in
theorem refSeal_any (w : World) (key : List (BitVec 8)) (hk : key.length = 32) (A C T : Option Addr) (n c l cc m d Bn Bc Bm : Nat) (nonce ctx text : List (BitVec 8))
    (hrn : Rd b8 w Bn A nonce) (hBn : Bn ≤ w.heap.size) (hn : nonce.length = n) (hnc : n ≤ c)
    (hrc : Rd b8 w Bc C ctx) (hBc : Bc ≤ w.heap.size) (hl : ctx.length = l)
    (hrm : Rd b8 w Bm T text) (hBm : Bm ≤ w.heap.size) (hm : text.length = m) :
    Calls Try.prog 35 #[arrV b8 key, .slice A n c, .slice C l cc, .slice T m d] w fun e w' => ∃ v, e = .returned (.tuple #[v, .int .i64 (sealBad n l m : Int)]) ∧ Own b8 w' w.heap.size 5 v (sealV key nonce ctx text) ∧ Below w.heap.size w w' := by
  obtain ⟨i0, hi0, hz0, hz1, hz2⟩ := info_parts infoU8
  have HK := Lib.hid hk
  have HN := Lib.hid hn
  have HL := Lib.hid hl
  have HM := Lib.hid hm
  have HRn := Lib.hid (hrn.more hBn)
  have HRc := Lib.hid (hrc.more hBc)
  have HRm := Lib.hid (hrm.more hBm)
  have hsv : sealV key nonce ctx text = if sealBad n l m = 0 then mixV key nonce 1 text ++ tagOf key nonce ctx (mixV key nonce 1 text) else [] := by unfold sealV; rw [hn, hl, hm]
  rw [hsv]
  clear hk hn hl hm hrn hrc hrm hBn hBc hBm hsv
  rw [arrV_mk]
  have HK1 := Lib.hid (Arr.new b8 w 39 key)
  have HB1 := Lib.hid (show Below w.heap.size w (w.alloc (.cells (key.map b8).toArray 39)) from (Below.refl _ w).alloc (Nat.le_refl _) _)
  by_cases h1 : n = 12
  · subst h1
    by_cases h2 : l ≤ 1048576
    · by_cases h3 : m ≤ 1048576
      · have hgood : sealBad 12 l m = 0 := by unfold sealBad; rw [if_neg (by omega)]
        rw [hgood, if_pos rfl]
        obtain ⟨X, hX⟩ : ∃ X, mixV key nonce 1 text = X := ⟨_, rfl⟩
        rw [hX]
        have HXe := Lib.hid hX
        clear hX
        have h2i : ¬ ((l : Int) > 1048576) := by omega
        have h3i : ¬ ((m : Int) > 1048576) := by omega
        go_enter Try.func35, Try.ntmps35
        go_wp2_with (refine wpList_load_arr rfl 39 (.tmp 4) rfl w.heap.size rfl _ key HK1.out _ Try.underlying39 rfl (by rw [HK.out]; exact size32r) ?_)
        have hml := mixV_len1 key nonce text HN.out (by rw [HM.out]; omega)
        have hmx := refMix_any key A 12 c w.heap.size nonce 1 T m d w.heap.size text (w.alloc (.cells (key.map b8).toArray 39)) HK.out (HRn.out.alloc (Nat.le_refl _) _) (by simp) HN.out hnc (HRm.out.alloc (Nat.le_refl _) _) (by simp) HM.out (by omega)
        rw [HM.out] at hml
        rw [hml.1, arrV_mk] at hmx
        rw [HXe.out] at hmx hml
        have HX := Lib.hid hml.2
        have HMx := Lib.hid hmx
        have hz1w : (w.alloc (.cells (key.map b8).toArray 39)).heap.size = w.heap.size + 1 := by simp
        clear hml hmx
        refine HMx.out.mono ?_
        rintro e w2 ⟨v2, rfl, ho2, hb2⟩
        obtain ⟨A2, c2, rfl, hr2, -, -, -⟩ := ho2.shape' HX.out
        have hz2w := hb2.size
        have HR2 := Lib.hid hr2
        have HO2 := Lib.hid (ho2.less (show w.heap.size ≤ _ by simp))
        have HB2 := Lib.hid (HB1.out.trans (hb2.mono (by omega)))
        have HK2 := Lib.hid (HK1.out.below hb2 (by omega))
        clear ho2 hb2 hr2 HMx HB1 HK1
        go_wp2_with (refine wpList_load_arr rfl 39 (.tmp 4) rfl w.heap.size rfl _ key HK2.out _ Try.underlying39 rfl (by rw [HK.out]; exact size32r) ?_)
        have ham := refAmark_any w2 key HK.out A C A2 12 c l cc m c2 w.heap.size w.heap.size w2.heap.size nonce ctx X (HRn.out.below HB2.out) HB2.out.size HN.out rfl hnc (HRc.out.below HB2.out) HB2.out.size HL.out (by omega) HR2.out (Nat.le_refl _) HX.out (by omega)
        rw [arrV_mk] at ham
        obtain ⟨G, hG⟩ : ∃ G, tagOf key nonce ctx X = G := ⟨_, rfl⟩
        have HGl := Lib.hid (show G.length = 16 by rw [← hG]; exact tagOf_len _ _ _ _)
        rw [hG] at ham
        have HGe := Lib.hid hG
        have HAm := Lib.hid ham
        clear ham hG
        refine HAm.out.mono ?_
        rintro e w3 ⟨rfl, hb3⟩
        have hz3w := hb3.size
        have HO3 := Lib.hid (HO2.out.below hb3 (Nat.le_refl _))
        have HB3 := Lib.hid (HB2.out.trans (hb3.mono HB2.out.size))
        have hs3 := HB3.out.size
        have HT3 := Lib.hid (Arr.new b8 w3 76 (List.replicate 16 0#8))
        clear hb3 HR2 HAm HB2 HO2
        go_wp2_with (first
          | (refine wpList_store_arr rfl 76 (.tmp 12) (.tmp 37) rfl w3.heap.size rfl G rfl _ _ HT3.out (by rw [HGl.out]; rfl) (by rw [HGl.out]; exact size16r) b8_one' ?_; intro w4 hx4 hg4; have HX4 := Lib.hid hx4; have hw4 : w3.heap.size < w4.heap.size := hx4.lt; have hb34 : Below w3.heap.size w3 w4 := (((Below.refl w3.heap.size w3).alloc (Nat.le_refl _) (.cells ((List.replicate 16 0#8).map b8).toArray 76)).grown hg4 (by simp) (fun k e => by cases e; exact Nat.le_refl _)); have HO4 := Lib.hid (HO3.out.below hb34 (Nat.le_refl _)); have HB4 := Lib.hid (HB3.out.trans (hb34.mono hs3)); clear hx4 hg4 hb34)
          | (at_builtin; refine wpList_append_rd rfl (.tmp 38) (.tmp 39) 47 rfl b8_one w.heap.size 5 i0 _ 1 Try.underlying47 hi0 hz0 hz1 hz2 rfl _ _ rfl HO4.out (w3.heap.size + 1) _ 16 16 G rfl HGl.out.symm (HX4.out.rd 0) (by have := HX.out; have := HGl.out; simp only [maxLen]; omega) (by have := HX.out; have := HGl.out; omega) (by omega) ?_; intro v5 w5 hown5 hg5 hbb5))
        have HO5 := Lib.hid hown5
        have HB5 := Lib.hid (hbb5 _ _ (Nat.le_refl _) HB4.out)
        clear hown5 hg5 hbb5
        go_wp2_with fail
        go_ret2
        rw [HGe.out]
        exact ⟨_, rfl, HO5.out, HB5.out⟩
      · have h2i : ¬ ((l : Int) > 1048576) := by omega
        have h3i : (m : Int) > 1048576 := by omega
        have hbad : sealBad 12 l m = 1 := by unfold sealBad; rw [if_pos (by omega)]
        rw [hbad, if_neg (by decide)]
        go_enter Try.func35, Try.ntmps35
        go_wp2_with fail
        go_ret2
        exact ⟨_, rfl, Own.nil_ _ _ _ _, HB1.out⟩
    · have h2i : (l : Int) > 1048576 := by omega
      have hbad : sealBad 12 l m = 1 := by unfold sealBad; rw [if_pos (by omega)]
      rw [hbad, if_neg (by decide)]
      go_enter Try.func35, Try.ntmps35
      go_wp2_with fail
      go_ret2
      exact ⟨_, rfl, Own.nil_ _ _ _ _, HB1.out⟩
  · have h1i : ¬ ((n : Int) = 12) := by omega
    have hbad : sealBad n l m = 1 := by unfold sealBad; rw [if_pos (by omega)]
    rw [hbad, if_neg (by decide)]
    go_enter Try.func35, Try.ntmps35
    go_wp2_with fail
    go_ret2
    exact ⟨_, rfl, Own.nil_ _ _ _ _, HB1.out⟩
end Go.Proofs.Ytkoefhbmkmepaaa
