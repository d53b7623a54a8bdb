/- CONTRACT: aead.Seal. -/
import Derived.Test.YtkoefhbmkmepaaaMarkW
import Derived.Test.YtkoefhbmkmepaaaMix
import Derived.Test.YtkoefhbmkmepaaaErr
namespace Go.Proofs.Ytkoefhbmkmepaaa
open Go.RowKit
set_option linter.unusedVariables false
set_option linter.unusedSimpArgs false

set_option maxRecDepth 100000 in
set_option maxHeartbeats 4000000 in
theorem seal_any (w : World) (key : List (BitVec 8)) (hk : key.length = 32) (A C T : Option Addr) (n c l cc m d Bn Bc Bm : Nat) (nonce ctx text : List (BitVec 8))
    (hrn : Rd b8 w Bn A nonce) (hBn : Bn ≤ w.heap.size) (hn : nonce.length = n) (hnc : n ≤ c)
    (hrc : Rd b8 w Bc C ctx) (hBc : Bc ≤ w.heap.size) (hl : ctx.length = l)
    (hrm : Rd b8 w Bm T text) (hBm : Bm ≤ w.heap.size) (hm : text.length = m) :
    Calls Try.prog 30 #[arrV b8 key, .slice A n c, .slice C l cc, .slice T m d] w fun e w' => ∃ v, e = .returned (.tuple #[v, errV (sealBad n l m)]) ∧ Own b8 w' w.heap.size 5 v (sealV key nonce ctx text) ∧ Below w.heap.size w w' := by
  have HK := Lib.hid hk
  have HN := Lib.hid hn
  have HL := Lib.hid hl
  have HM := Lib.hid hm
  have HRn := Lib.hid (hrn.more hBn)
  have HRc := Lib.hid (hrc.more hBc)
  have HRm := Lib.hid (hrm.more hBm)
  have hsv : sealV key nonce ctx text = if sealBad n l m = 0 then mixV key nonce 1 text ++ tagOf key nonce ctx (mixV key nonce 1 text) else [] := by unfold sealV; rw [hn, hl, hm]
  rw [hsv]
  clear hk hn hl hm hrn hrc hrm hBn hBc hBm hsv
  rw [arrV_mk]
  have HK1 := Lib.hid (Arr.new b8 w 39 key)
  have HB1 := Lib.hid (show Below w.heap.size w (w.alloc (.cells (key.map b8).toArray 39)) from (Below.refl _ w).alloc (Nat.le_refl _) _)
  by_cases h1 : n = 12
  · subst h1
    by_cases h2 : l ≤ 1048576
    · by_cases h3 : m ≤ 1048576
      · have hgood : sealBad 12 l m = 0 := by unfold sealBad; rw [if_neg (by omega)]
        rw [hgood, if_pos rfl, errV_zero]
        obtain ⟨X, hX⟩ : ∃ X, mixV key nonce 1 text = X := ⟨_, rfl⟩
        rw [hX]
        have HXe := Lib.hid hX
        clear hX
        have h2i : ¬ ((l : Int) > 1048576) := by omega
        have h3i : ¬ ((m : Int) > 1048576) := by omega
        go_enter Try.func30, Try.ntmps30
        go_wp2_with (refine wpList_load_arr rfl 39 (.tmp 4) rfl w.heap.size rfl _ key HK1.out _ Try.underlying39 rfl (by rw [HK.out]; exact size32k) ?_)
        have hml := mixV_len1 key nonce text HN.out (by rw [HM.out]; omega)
        have hmx := mix_any key A 12 c w.heap.size nonce 1 T m d w.heap.size text (w.alloc (.cells (key.map b8).toArray 39)) HK.out (HRn.out.alloc (Nat.le_refl _) _) (by simp) HN.out hnc (HRm.out.alloc (Nat.le_refl _) _) (by simp) HM.out (by omega) (by omega) (by omega)
        rw [HM.out] at hml
        rw [hml.1, errV_zero, arrV_mk] at hmx
        rw [HXe.out] at hmx hml
        have HX := Lib.hid hml.2
        have HMx := Lib.hid hmx
        have hz1 : (w.alloc (.cells (key.map b8).toArray 39)).heap.size = w.heap.size + 1 := by simp
        clear hml hmx
        refine HMx.out.mono ?_
        rintro e w2 ⟨v2, rfl, ho2, hb2⟩
        obtain ⟨A2, c2, rfl, hr2, -, -, -⟩ := ho2.shape' HX.out
        have hz2 := hb2.size
        have HR2 := Lib.hid hr2
        have HB2 := Lib.hid (HB1.out.trans (hb2.mono (by omega)))
        have HK2 := Lib.hid (HK1.out.below hb2 (by omega))
        clear ho2 hb2 hr2 HMx HB1 HK1
        go_wp2_with (refine wpList_load_arr rfl 39 (.tmp 4) rfl w.heap.size rfl _ key HK2.out _ Try.underlying39 rfl (by rw [HK.out]; exact size32k) ?_)
        have ham := amark_any w2 key HK.out A C A2 12 c l cc m c2 w.heap.size w.heap.size w2.heap.size nonce ctx X (HRn.out.below HB2.out) HB2.out.size HN.out rfl hnc (HRc.out.below HB2.out) HB2.out.size HL.out (by omega) HR2.out (Nat.le_refl _) HX.out (by omega)
        rw [arrV_mk] at ham
        have HAm := Lib.hid ham
        clear ham
        refine HAm.out.mono ?_
        rintro e w3 ⟨g3, rfl, hg3, ha3, hb3⟩
        have hz3 := hb3.size
        have HR3 := Lib.hid ((HR2.out.below hb3).more hz3)
        have HA3 := Lib.hid (show Rd b8 w3 w3.heap.size (some ⟨g3, 0, none⟩) (tagOf key nonce ctx X) from (ha3.rd 0).more (by have := ha3.lt; omega))
        have HB3 := Lib.hid (HB2.out.trans (hb3.mono HB2.out.size))
        have hs3 := HB3.out.size
        clear ha3 hb3 HR2 HAm HB2
        go_wp2_with fail
        have hcc := concat_two w3 w3.heap.size m c2 16 16 A2 (some ⟨g3, 0, none⟩) X (tagOf key nonce ctx X) HR3.out HA3.out (Nat.le_refl _) HX.out.symm (tagOf_len _ _ _ _).symm (by rw [HX.out, tagOf_len]; omega)
        have HCc := Lib.hid hcc
        clear hcc
        refine HCc.out.mono ?_
        rintro e w4 ⟨v4, rfl, ho4, hb4⟩
        have HO4 := Lib.hid (ho4.less (show w.heap.size ≤ w3.heap.size + 1 by omega))
        have HB4 := Lib.hid (HB3.out.trans (hb4.mono hs3))
        clear ho4 hb4 HCc
        go_wp2_with fail
        go_ret2
        exact ⟨_, rfl, HO4.out, HB4.out⟩
      · have h2i : ¬ ((l : Int) > 1048576) := by omega
        have h3i : (m : Int) > 1048576 := by omega
        have hbad : sealBad 12 l m = 1 := by unfold sealBad; rw [if_pos (by omega)]
        rw [hbad, if_neg (by decide)]
        go_enter Try.func30, Try.ntmps30
        go_wp2_with fail
        go_ret2
        exact ⟨_, rfl, Own.nil_ _ _ _ _, HB1.out⟩
    · have h2i : (l : Int) > 1048576 := by omega
      have hbad : sealBad 12 l m = 1 := by unfold sealBad; rw [if_pos (by omega)]
      rw [hbad, if_neg (by decide)]
      go_enter Try.func30, Try.ntmps30
      go_wp2_with fail
      go_ret2
      exact ⟨_, rfl, Own.nil_ _ _ _ _, HB1.out⟩
  · have h1i : ¬ ((n : Int) = 12) := by omega
    have hbad : sealBad n l m = 1 := by unfold sealBad; rw [if_pos (by omega)]
    rw [hbad, if_neg (by decide)]
    go_enter Try.func30, Try.ntmps30
    go_wp2_with fail
    go_ret2
    exact ⟨_, rfl, Own.nil_ _ _ _ _, HB1.out⟩
end Go.Proofs.Ytkoefhbmkmepaaa
