/- ChachaTwice, the walk: mixed twice a text is as it was; its beginning is mixed to the beginning. -/
import Derived.Test.YtgcpjmmiciehmaaMixes
namespace Go.Proofs.Ytgcpjmmiciehmaa
open Go.RowKit
set_option linter.unusedVariables false
set_option linter.unusedSimpArgs false

theorem sliced_zero (a : Option Addr) (h m s : Nat) : sliced a 0 h m s = .slice a h m := by
  unfold sliced
  rw [Nat.zero_mul, Nat.sub_zero, Nat.sub_zero]
  cases a <;> simp [Addr.add]
attribute [local go_sem high] sliced_zero
theorem umod_nat (U : Int) (m : Nat) (hU : 0 ≤ U) : ∃ K : Nat, U.tmod ((m : Int) + 1) = (K : Int) ∧ K ≤ m := by
  rw [Int.tmod_eq_emod_of_nonneg hU]
  have h0 := Int.emod_nonneg U (b := (m : Int) + 1) (by omega)
  have h1 := Int.emod_lt_of_pos U (b := (m : Int) + 1) (by omega)
  exact ⟨(U % ((m : Int) + 1)).toNat, by omega, by omega⟩
theorem getD_lt {xs : List (BitVec 8)} {i : Nat} (h : i < xs.length) : xs.getD i 0#8 = xs[i] := by simp [List.getD, h]
theorem mixTo_getD {key nonce : List (BitVec 8)} {number : Int} {text : List (BitVec 8)} {k i : Nat} (h : i < k) : (mixTo key nonce number text k).getD i 0#8 = mixAt key nonce number text i := by
  rw [getD_lt (by rw [mixTo_len]; exact h)]; simp [mixTo]
theorem mixTo_twice {key nonce : List (BitVec 8)} {number : Int} {text : List (BitVec 8)} {m : Nat} (hm : text.length = m) : mixTo key nonce number (mixTo key nonce number text m) m = text := by
  refine List.ext_getElem (by rw [mixTo_len, hm]) fun i h1 h2 => ?_
  rw [mixTo_len] at h1
  simp only [mixTo, List.getElem_map, List.getElem_range]
  show mixAt key nonce number (mixTo key nonce number text m) i = _
  unfold mixAt
  rw [mixTo_getD h1]
  unfold mixAt
  rw [getD_lt h2, BitVec.xor_assoc, BitVec.xor_self, BitVec.xor_zero]
theorem mixTo_take {key nonce : List (BitVec 8)} {number : Int} {text : List (BitVec 8)} {m k : Nat} (hm : text.length = m) (hk : k ≤ m) : mixTo key nonce number (text.take k) k = (mixTo key nonce number text m).take k := by
  refine List.ext_getElem (by rw [mixTo_len, List.length_take, mixTo_len]; omega) fun i h1 h2 => ?_
  rw [mixTo_len] at h1
  simp only [mixTo, List.getElem_map, List.getElem_range, List.getElem_take]
  unfold mixAt
  have : (text.take k).getD i 0#8 = text.getD i 0#8 := by
    rw [getD_lt (by rw [List.length_take]; omega), getD_lt (by omega), List.getElem_take]
  rw [this]
theorem mixBad_mono {n m k : Nat} {number : Int} (h : mixBad n m number = 0) (hk : k ≤ m) : mixBad n k number = 0 := by
  unfold mixBad at h ⊢
  by_cases hb : badP n number = 0
  · rw [if_neg (by rw [hb]; simp)] at h ⊢
    by_cases hc : 0 < m ∧ 4294967295 < number + (((m - 1) / 64 : Nat) : Int)
    · rw [if_pos hc] at h; cases h
    · rw [if_neg (by omega)]
  · rw [if_pos hb] at h; exact absurd h hb

set_option maxRecDepth 100000 in
set_option maxHeartbeats 4000000 in
theorem twice_walk (key : List (BitVec 8)) (A : Option Addr) (n c : Nat) (nonce : List (BitVec 8)) (number : Int) (T : Option Addr) (m d : Nat) (text : List (BitVec 8)) (w : World) (hk : key.length = 32)
    (hr : Rd b8 w w.heap.size A nonce) (hn : nonce.length = n) (hnc : n ≤ c) (hc : c ≤ maxLen) (wf : (Lit.int .i64 number).wf = true) (ht : Rd b8 w w.heap.size T text) (hm : text.length = m) (hmd : m ≤ d) (hd : d ≤ maxLen) (cut : Int) (wfc : (Lit.int .i64 cut).wf = true) :
    Calls Try.prog 7 #[.agg (streamC key A n c number T m d).toArray, .int .i64 cut] w fun e w' => e = .returned (.bool true) ∧ Below w.heap.size w w' := by
  have hq := bounds_i64 wf
  have HK := Lib.hid hk
  have HN := Lib.hid hn
  have HM := Lib.hid hm
  have HR := Lib.hid hr
  have HT := Lib.hid ht
  have hlg := fun w' => large03_any key A n c number T m d w' hk
  have HS := Lib.hid (SBox.new w key A n c number T m d)
  have hb0 : Below w.heap.size w (w.alloc (.cells (streamC key A n c number T m d).toArray 40)) := by (repeat' (first | assumption | exact Below.refl _ _ | refine Below.drew ?_ | refine Below.alloc ?_ ?_ _ | omega | (simp; done) | (simp; omega)))
  have hz0 : (w.alloc (.cells (streamC key A n c number T m d).toArray 40)).heap.size = w.heap.size + 1 := by simp
  clear wfc
  by_cases hlarge : (decide ((1000 : Int) < n) || decide ((1000 : Int) < m)) = true
  · rw [hlarge] at hlg
    have HL := Lib.hid hlg
    clear hlg hlarge hk hn hm hr ht hq wf
    go_enter Try.func7, Try.ntmps7
    go_wp2_with fail
    generalize World.alloc w _ = W0 at HS hb0 hz0 ⊢
    have HB0 := Lib.hid hb0
    clear hb0
    refine (alive03_any _).mono ?_
    rintro e w0 ⟨rfl, rfl⟩
    go_wp2_with (refine wpList_load_mid rfl 40 (.tmp 2) rfl w.heap.size 0 rfl (streamC key A n c number T m d) _ HS.out.all Try.underlying40 rfl (by rw [streamC_len HK.out]; exact infoStream) ?_)
    refine (HL.out W0).mono ?_
    rintro e w1 ⟨rfl, hb1⟩
    go_wp2_with fail
    go_ret
    exact ⟨rfl, HB0.out.trans (hb1.mono (by omega))⟩
  · rw [Bool.not_eq_true] at hlarge
    rw [hlarge] at hlg
    have hn1 : n ≤ 1000 := by simp at hlarge; omega
    have hm1 : m ≤ 1000 := by simp at hlarge; omega
    have HL := Lib.hid hlg
    clear hlg hlarge hk hn hm hr ht wf
    by_cases hbad : mixBad n m number = 0
    · have Hbad := Lib.hid hbad
      have HX := Lib.hid (show mixV key nonce number text = mixTo key nonce number text m by unfold mixV; rw [HN.out, HM.out, if_pos hbad])
      obtain ⟨U, hU, hU0, hU1⟩ : ∃ U : Int, IntKind.u64.wrap cut = U ∧ 0 ≤ U ∧ U < 18446744073709551616 := ⟨_, rfl, by rw [ofint_u64]; unfold bv; omega, by rw [ofint_u64]; unfold bv; have := (BitVec.ofInt 64 cut).isLt; omega⟩
      obtain ⟨K, hKU, hKm⟩ : ∃ K : Nat, U.tmod ((m : Int) + 1) = (K : Int) ∧ K ≤ m := umod_nat U m hU0
      have HKU := Lib.hid (show wrap64 (U.tmod ((m : Int) + 1)) = (K : Int) by rw [hKU]; exact IntWalk.wrap64_in _ (by omega))
      clear hbad hU0 hU1 hKU
      go_enter Try.func7, Try.ntmps7
      go_wp2_with fail
      generalize World.alloc w _ = W0 at HS hb0 hz0 ⊢
      have HB0 := Lib.hid hb0
      clear hb0
      refine (alive03_any _).mono ?_
      rintro e w0 ⟨rfl, rfl⟩
      go_wp2_with (refine wpList_load_mid rfl 40 (.tmp 2) rfl w.heap.size 0 rfl (streamC key A n c number T m d) _ HS.out.all Try.underlying40 rfl (by rw [streamC_len HK.out]; exact infoStream) ?_)
      refine (HL.out W0).mono ?_
      rintro e w1 ⟨rfl, hb1⟩
      have HBx := Lib.hid (HS.out.below hb1 (by omega))
      have HB1 := Lib.hid (HB0.out.trans (hb1.mono (by omega)) : Below w.heap.size w w1)
      have hz1 := hb1.size
      have cn := HBx.out.nonceC HK.out
      have ct := HBx.out.textC HK.out
      have cq := HBx.out.numC HK.out
      have hmix := mix_any key A n c w.heap.size nonce number T m d w.heap.size text w1 HK.out (HR.out.below HB1.out) (by omega) HN.out hnc (HT.out.below HB1.out) (by omega) HM.out (by omega) hq.1 (by omega)
      clear hb1 HL HB0 HS
      rw [arrV_mk, Hbad.out, HX.out] at hmix
      obtain ⟨X, hX⟩ : ∃ X, X = mixTo key nonce number text m := ⟨_, rfl⟩
      have HXX := Lib.hid hX
      have HXl := Lib.hid (show X.length = m by rw [hX, mixTo_len])
      rw [← hX] at hmix
      have HMix := Lib.hid hmix
      clear hmix hX HX
      go_wp2_with (refine wpList_load_mid rfl 38 (.tmp 16) rfl w.heap.size 0 rfl (key.map b8) _ (HBx.out.keyC HK.out) Try.underlying38 rfl (by rw [List.length_map, HK.out]; exact infoKeyS) ?_)
      refine HMix.out.mono ?_
      rintro e w2 ⟨v2, rfl, ho2, hb2⟩
      rw [errV_zero]
      obtain ⟨X2, c2, rfl, hr2, -, hc2, -⟩ := ho2.shape' HXl.out
      have hz2 : w1.heap.size ≤ w2.heap.size := hb2.size
      have HBx2 := Lib.hid (HBx.out.below hb2 (by omega))
      have HB2 := Lib.hid (HB1.out.trans (hb2.mono (by omega)) : Below w.heap.size w w2)
      have HR2 := Lib.hid hr2
      have cn := HBx2.out.nonceC HK.out
      have ct := HBx2.out.textC HK.out
      have cq := HBx2.out.numC HK.out
      have hmix := mix_any key A n c w.heap.size nonce number X2 m c2 w2.heap.size X w2 HK.out (HR.out.below HB2.out) (by omega) HN.out hnc HR2.out (Nat.le_refl _) HXl.out (by omega) hq.1 (by omega)
      have HY : mixV key nonce number X = text := by unfold mixV; rw [HN.out, HXl.out, if_pos Hbad.out, HXX.out]; exact mixTo_twice HM.out
      rw [arrV_mk, Hbad.out, HY] at hmix
      have HMix2 := Lib.hid hmix
      clear hmix HY HMix ho2 hb2 hr2 HBx HB1
      go_wp2_with (refine wpList_load_mid rfl 38 (.tmp 33) rfl w.heap.size 0 rfl (key.map b8) _ (HBx2.out.keyC HK.out) Try.underlying38 rfl (by rw [List.length_map, HK.out]; exact infoKeyS) ?_)
      refine HMix2.out.mono ?_
      rintro e w3 ⟨v3, rfl, ho3, hb3⟩
      rw [errV_zero]
      obtain ⟨X3, c3, rfl, hr3, -, -, -⟩ := ho3.shape' HM.out
      have hz3 : w2.heap.size ≤ w3.heap.size := hb3.size
      have HBx3 := Lib.hid (HBx2.out.below hb3 (by omega))
      have HB3 := Lib.hid (HB2.out.trans (hb3.mono (by omega)) : Below w.heap.size w w3)
      have HR23 := Lib.hid (HR2.out.below hb3)
      have HR3 := Lib.hid hr3
      have CN := Lib.hid (HBx3.out.nonceC HK.out)
      have CT := Lib.hid (HBx3.out.textC HK.out)
      have CQ := Lib.hid (HBx3.out.numC HK.out)
      have CK := Lib.hid (HBx3.out.keyC HK.out)
      have cn := CN.out
      have ct := CT.out
      have cq := CQ.out
      have ck := CK.out
      clear ho3 hb3 hr3 HMix2 HBx2 HB2 HR2
      go_wp2_with fail
      rw [HKU.out]
      clear hU HKU
      have hu := Try.underlying38
      have hi : (Try.prog.info? 38).map (·.size) = some (key.map b8).length := by rw [List.length_map, HK.out]; exact infoKeyS
      have hKd : (K : Int) ≤ (d : Int) := by omega
      have hK0 : (0 : Int) ≤ (K : Int) := by omega
      have hKd' : K ≤ d := by omega
      have hmix := mix_any key A n c w.heap.size nonce number T K d w.heap.size (text.take K) w3.drew HK.out ((HR.out.below HB3.out).drew) (by show w.heap.size ≤ w3.heap.size; omega) HN.out hnc ((HT.out.below HB3.out).drew.take K) (by show w.heap.size ≤ w3.heap.size; omega) (by rw [List.length_take, HM.out]; omega) (by omega) hq.1 (by omega)
      have HZ : mixV key nonce number (text.take K) = X.take K := by
        unfold mixV
        rw [HN.out, List.length_take, HM.out, Nat.min_eq_left hKm, mixBad_mono Hbad.out hKm, if_pos rfl, HXX.out]
        exact mixTo_take HM.out hKm
      rw [arrV_mk, mixBad_mono Hbad.out hKm, HZ, errV_zero] at hmix
      have HMix3 := Lib.hid hmix
      clear hmix HZ
      go_region_held3 (fun w' => w'.cell? ⟨w.heap.size, 32, none⟩ = some (.slice A n c) ∧ w'.cell? ⟨w.heap.size, 33, none⟩ = some (.int .i64 number) ∧ w'.cell? ⟨w.heap.size, 34, none⟩ = some (.slice T m d) ∧ w'.rangeAt w.heap.size 0 (key.map b8))
        (first
          | exact (HBx3.out.below (B := w3.heap.size) (show Below w3.heap.size w3 w4 from (Below.refl w3.heap.size w3).drew.trans hb4) (by omega)).all4 HK.out
          | go_keep)
        (first
          | (go_simp; refine HMix3.out.mono ?_; rintro e w4 ⟨v4, rfl, ho4, hb4⟩; have hz4 : w3.heap.size ≤ w4.heap.size := hb4.size))
      obtain ⟨X4, c4, rfl, hr4, -, -, -⟩ := ho4.shape' (n := K) (by rw [List.length_take, HXl.out]; omega)
      have hb34 : Below w3.heap.size w3 w4 := (Below.refl w3.heap.size w3).drew.trans hb4
      have HBx4 := Lib.hid (HBx3.out.below hb34 (by omega))
      have HB4 := Lib.hid (HB3.out.trans (hb34.mono (by omega)) : Below w.heap.size w w4)
      have HR24 := Lib.hid (HR23.out.below (hb34.mono (by omega)))
      have HR34 := Lib.hid (HR3.out.below hb34)
      have HR4 := Lib.hid hr4
      have ct := HBx4.out.textC HK.out
      have hKc : (K : Int) ≤ (c2 : Int) := by omega
      have hKc' : K ≤ c2 := by omega
      clear ho4 hb4 hr4 hb34 HMix3 HBx3 HB3 HR23 HR3 CN CT CQ CK hu hi cn cq ck hKd hKd'
      go_wp2_with fail
      refine (same_any c3 d HR34.out (HT.out.below HB4.out) HM.out HM.out).mono ?_
      rintro e w5 ⟨rfl, rfl⟩
      rw [beq_self_eq_true]
      go_wp2_with fail
      refine (same_any c4 c2 HR4.out (HR24.out.take K) (by rw [List.length_take, HXl.out]; omega) (by rw [List.length_take, HXl.out]; omega)).mono ?_
      rintro e w5 ⟨rfl, rfl⟩
      rw [beq_self_eq_true]
      go_wp2_with fail
      go_ret
      exact ⟨rfl, HB4.out⟩
    · obtain ⟨bad, hb'⟩ : ∃ bad, bad = mixBad n m number := ⟨_, rfl⟩
      have HX := Lib.hid (show mixV key nonce number text = [] by unfold mixV; rw [HN.out, HM.out, if_neg hbad])
      rw [← hb'] at hbad
      have Hbad := Lib.hid hbad
      have Hb' := Lib.hid hb'
      clear hbad hb'
      go_enter Try.func7, Try.ntmps7
      go_wp2_with fail
      generalize World.alloc w _ = W0 at HS hb0 hz0 ⊢
      have HB0 := Lib.hid hb0
      clear hb0
      refine (alive03_any _).mono ?_
      rintro e w0 ⟨rfl, rfl⟩
      go_wp2_with (refine wpList_load_mid rfl 40 (.tmp 2) rfl w.heap.size 0 rfl (streamC key A n c number T m d) _ HS.out.all Try.underlying40 rfl (by rw [streamC_len HK.out]; exact infoStream) ?_)
      refine (HL.out W0).mono ?_
      rintro e w1 ⟨rfl, hb1⟩
      have HBx := Lib.hid (HS.out.below hb1 (by omega))
      have HB1 := Lib.hid (HB0.out.trans (hb1.mono (by omega)) : Below w.heap.size w w1)
      have hz1 := hb1.size
      have cn := HBx.out.nonceC HK.out
      have ct := HBx.out.textC HK.out
      have cq := HBx.out.numC HK.out
      have hmix := mix_any key A n c w.heap.size nonce number T m d w.heap.size text w1 HK.out (HR.out.below HB1.out) (by omega) HN.out hnc (HT.out.below HB1.out) (by omega) HM.out (by omega) hq.1 (by omega)
      clear hb1 HL HB0 HS
      rw [arrV_mk, ← Hb'.out, HX.out, errV_pos Hbad.out] at hmix
      have HMix := Lib.hid hmix
      clear hmix HX
      go_wp2_with (refine wpList_load_mid rfl 38 (.tmp 16) rfl w.heap.size 0 rfl (key.map b8) _ (HBx.out.keyC HK.out) Try.underlying38 rfl (by rw [List.length_map, HK.out]; exact infoKeyS) ?_)
      refine HMix.out.mono ?_
      rintro e w2 ⟨v2, rfl, ho2, hb2⟩
      obtain ⟨X2, c2, rfl, -, -, -, -⟩ := ho2.shape' (n := 0) rfl
      clear ho2
      go_wp2_with fail
      go_ret
      exact ⟨rfl, HB1.out.trans (hb2.mono (by omega))⟩
end Go.Proofs.Ytgcpjmmiciehmaa
