/- AeadCuts, the walk: of a sealed text's beginning the program makes what the document makes. -/
import Derived.Test.YtgcpjmmiciehmaaAlive04
import Derived.Test.YtgcpjmmiciehmaaOpenR
import Derived.Test.YtgcpjmmiciehmaaOpenSeal
namespace Go.Proofs.Ytgcpjmmiciehmaa
open Go.RowKit
set_option linter.unusedVariables false
set_option linter.unusedSimpArgs false

theorem umod_lt (U : Int) (L : Nat) (hU : 0 ≤ U) (hL : 0 < L) : ∃ K : Nat, U.tmod (L : Int) = (K : Int) ∧ K < L := by
  rw [Int.tmod_eq_emod_of_nonneg hU]
  have h0 := Int.emod_nonneg U (b := (L : Int)) (by omega)
  have h1 := Int.emod_lt_of_pos U (b := (L : Int)) (by omega)
  exact ⟨(U % (L : Int)).toNat, by omega, by omega⟩
set_option maxRecDepth 100000 in
set_option maxHeartbeats 1000000 in
theorem aeadCuts_walk (key : List (BitVec 8)) (A : Option Addr) (n c : Nat) (nonce : List (BitVec 8)) (C : Option Addr) (l cc : Nat) (ctx : List (BitVec 8)) (T : Option Addr) (m d : Nat) (text : List (BitVec 8)) (w : World) (hk : key.length = 32)
    (hr : Rd b8 w w.heap.size A nonce) (hn : nonce.length = n) (hnc : n ≤ c) (hc : c ≤ maxLen) (hrc : Rd b8 w w.heap.size C ctx) (hl : ctx.length = l) (hlc : l ≤ cc) (hcc : cc ≤ maxLen) (ht : Rd b8 w w.heap.size T text) (hm : text.length = m) (hmd : m ≤ d) (hd : d ≤ maxLen) (cut : Int) (wz : (Lit.int .i64 cut).wf = true) :
    Calls Try.prog 14 #[.agg (sealedC key A n c C l cc T m d).toArray, .int .i64 cut] w fun e w' => e = .returned (.bool true) ∧ Below w.heap.size w w' := by
  have HK := Lib.hid hk
  have HN := Lib.hid hn
  have HL := Lib.hid hl
  have HM := Lib.hid hm
  have HR := Lib.hid hr
  have HC := Lib.hid hrc
  have HT := Lib.hid ht
  have HS := Lib.hid (SdBox.new w key A n c C l cc T m d)
  have hb0 : Below w.heap.size w (w.alloc (.cells (sealedC key A n c C l cc T m d).toArray 65)) := by (repeat' (first | assumption | exact Below.refl _ _ | refine Below.drew ?_ | refine Below.alloc ?_ ?_ _ | omega | (simp; done) | (simp; omega)))
  have hz0 : (w.alloc (.cells (sealedC key A n c C l cc T m d).toArray 65)).heap.size = w.heap.size + 1 := by simp
  have hbs : sealBad nonce.length ctx.length text.length = sealBad n l m := by rw [hn, hl, hm]
  have hsl := sealV_len key nonce ctx text
  rw [hbs] at hsl
  rw [hm] at hsl
  clear hbs wz
  by_cases k1 : (l : Int) > 500
  · clear hk hn hm hl hr hrc ht hsl
    go_enter Try.func14, Try.ntmps14
    go_wp2_with fail
    generalize World.alloc w _ = W0 at HS hb0 hz0 ⊢
    have HB0 := Lib.hid hb0
    clear hb0
    refine (alive04_any _).mono ?_
    rintro e wa ⟨rfl, hba⟩
    have hsa := hba.size
    have HSa := Lib.hid (HS.out.below hba (by omega))
    have HBa := Lib.hid (HB0.out.trans (hba.mono (by omega)))
    have hwa : w.heap.size < wa.heap.size := by omega
    have cn := HSa.out.nonceC HK.out
    have cx := HSa.out.ctxC HK.out
    have ct := HSa.out.textC HK.out
    clear hba HS HB0
    go_wp2_with fail
    go_ret
    exact ⟨rfl, HBa.out⟩
  by_cases k2 : (m : Int) > 500
  · clear hk hn hm hl hr hrc ht hsl
    go_enter Try.func14, Try.ntmps14
    go_wp2_with fail
    generalize World.alloc w _ = W0 at HS hb0 hz0 ⊢
    have HB0 := Lib.hid hb0
    clear hb0
    refine (alive04_any _).mono ?_
    rintro e wa ⟨rfl, hba⟩
    have hsa := hba.size
    have HSa := Lib.hid (HS.out.below hba (by omega))
    have HBa := Lib.hid (HB0.out.trans (hba.mono (by omega)))
    have hwa : w.heap.size < wa.heap.size := by omega
    have cn := HSa.out.nonceC HK.out
    have cx := HSa.out.ctxC HK.out
    have ct := HSa.out.textC HK.out
    clear hba HS HB0
    go_wp2_with fail
    go_ret
    exact ⟨rfl, HBa.out⟩
  have m1 : l ≤ 500 := by omega
  have m2 : m ≤ 500 := by omega
  obtain ⟨X, hX⟩ : ∃ X, X = sealV key nonce ctx text := ⟨_, rfl⟩
  obtain ⟨bad, hbad⟩ : ∃ bad, bad = sealBad n l m := ⟨_, rfl⟩
  have hb01 := sealBad_or n l m
  rw [← hbad] at hsl hb01
  rw [← hX] at hsl
  have HP := Lib.hid (show ∀ (W' : World), Below w.heap.size w W' → Calls Try.prog 36 #[.agg (key.map b8).toArray, .slice A n c, .slice C l cc, .slice T m d] W' fun e w' => ∃ v, e = .returned (.tuple #[v, .int .i64 (bad : Int)]) ∧ Own b8 w' W'.heap.size 5 v X ∧ Below W'.heap.size W' w' from fun W' hb => by
    have h := refSeal_any W' key HK.out A C T n c l cc m d _ _ _ nonce ctx text (HR.out.below hb) hb.size HN.out hnc (HC.out.below hb) hb.size HL.out (HT.out.below hb) hb.size HM.out
    rw [arrV_mk, ← hbad, ← hX] at h
    exact h)
  clear hbad hX
  rcases hb01 with rfl | rfl
  · have hXl := hsl rfl
    obtain ⟨U, hU, hU0, hU1⟩ : ∃ U : Int, IntKind.u64.wrap cut = U ∧ 0 ≤ U ∧ U < 18446744073709551616 := ⟨_, rfl, by rw [ofint_u64]; unfold bv; omega, by rw [ofint_u64]; unfold bv; have := (BitVec.ofInt 64 cut).isLt; omega⟩
    obtain ⟨L, hL⟩ : ∃ L, L = m + 16 := ⟨_, rfl⟩
    obtain ⟨k, hKU, hKL⟩ : ∃ k : Nat, U.tmod (L : Int) = (k : Int) ∧ k < L := umod_lt U L hU0 (by omega)
    have hLb : L ≤ 516 := by omega
    have hXL : X.length = L := by rw [hXl, hL]
    have HXl := Lib.hid hXL
    obtain ⟨Y, hY⟩ : ∃ Y, Y = X.take k := ⟨_, rfl⟩
    have HYl := Lib.hid (show Y.length = k by rw [hY, List.length_take, hXL]; omega)
    have HYe := Lib.hid hY
    obtain ⟨ob, hob⟩ : ∃ ob, ob = openBad key nonce ctx Y := ⟨_, rfl⟩
    obtain ⟨V, hV⟩ : ∃ V, V = openV key nonce ctx Y := ⟨_, rfl⟩
    have HOp := Lib.hid (show ∀ (W' : World) (g1 c1 : Nat), Below w.heap.size w W' → Rd b8 W' W'.heap.size (some ⟨g1, 0, none⟩) Y → k ≤ c1 → Calls Try.prog 37 #[.agg (key.map b8).toArray, .slice A n c, .slice C l cc, .slice (some ⟨g1, 0, none⟩) k c1] W' fun e w' => ∃ v, e = .returned (.tuple #[v, errV ob]) ∧ Own b8 w' W'.heap.size 5 v V ∧ Below W'.heap.size W' w' from fun W' g1 c1 hb h3 h1 => by
      have h := open_any W' key HK.out A C (some ⟨g1, 0, none⟩) n c l cc k c1 _ _ _ nonce ctx Y (HR.out.below hb) hb.size HN.out hnc (HC.out.below hb) hb.size HL.out h3 (Nat.le_refl _) HYl.out h1 (by simp only [maxLen]; omega)
      rw [arrV_mk, ← hob, ← hV] at h
      exact h)
    have HOq := Lib.hid (show ∀ (W' : World) (g1 c1 : Nat), Below w.heap.size w W' → Rd b8 W' W'.heap.size (some ⟨g1, 0, none⟩) Y → k ≤ c1 → Calls Try.prog 38 #[.agg (key.map b8).toArray, .slice A n c, .slice C l cc, .slice (some ⟨g1, 0, none⟩) k c1] W' fun e w' => ∃ v, e = .returned (.tuple #[v, .int .i64 (ob : Int)]) ∧ Own b8 w' W'.heap.size 5 v V ∧ Below W'.heap.size W' w' from fun W' g1 c1 hb h3 h1 => by
      have h := refOpen_any W' key HK.out A C (some ⟨g1, 0, none⟩) n c l cc k c1 _ _ _ nonce ctx Y (HR.out.below hb) hb.size HN.out hnc (HC.out.below hb) hb.size HL.out h3 (Nat.le_refl _) HYl.out h1 (by simp only [maxLen]; omega)
      rw [arrV_mk, ← hob, ← hV] at h
      exact h)
    obtain ⟨Z, hZ⟩ : ∃ Z, Z = key.map b8 := ⟨_, rfl⟩
    have hZl : Z.length = 32 := by rw [hZ, List.length_map, HK.out]
    have hu := Try.underlying38
    have hi32 : (Try.prog.info? 38).map (·.size) = some Z.length := by rw [hZl]; exact infoKeyS
    rw [← hZ] at HOp HOq
    have HZ := Lib.hid hZ
    have HKU := Lib.hid hKU
    have HKW := Lib.hid (show wrap64 (U.tmod (L : Int)) = (k : Int) by rw [hKU]; exact IntWalk.wrap64_in _ (by omega))
    clear hk hn hm hl hr hrc ht hsl hXl hob hV hY hXL hKU hU0 hL hZ hZl
    go_enter Try.func14, Try.ntmps14
    go_wp2_with fail
    generalize World.alloc w _ = W0 at HS hb0 hz0 ⊢
    have HB0 := Lib.hid hb0
    clear hb0
    refine (alive04_any _).mono ?_
    rintro e wa ⟨rfl, hba⟩
    have hsa := hba.size
    have HSa := Lib.hid (HS.out.below hba (by omega))
    have HBa := Lib.hid (HB0.out.trans (hba.mono (by omega)))
    have hwa : w.heap.size < wa.heap.size := by omega
    have cn := HSa.out.nonceC HK.out
    have cx := HSa.out.ctxC HK.out
    have ct := HSa.out.textC HK.out
    clear hba HS HB0
    go_wp2_with (refine wpList_load_mid rfl 38 (.tmp 24) rfl w.heap.size 0 rfl (key.map b8) _ (HSa.out.keyC HK.out) Try.underlying38 rfl (by rw [List.length_map, HK.out]; exact infoKeyS) ?_)
    refine (HP.out wa HBa.out).mono ?_
    rintro e w1 ⟨v1, rfl, ho1, hb1⟩
    obtain ⟨g1, c1, rfl, hg1, hgl, hc1⟩ := ho1.form' HXl.out (by omega)
    have hz1 : wa.heap.size ≤ w1.heap.size := hb1.size
    have HS1 := Lib.hid (HSa.out.below hb1 hwa)
    have HB1 := Lib.hid (HBa.out.trans (hb1.mono (by omega)) : Below w.heap.size w w1)
    have HR1 := Lib.hid (show Rd b8 w1 w1.heap.size (some ⟨g1, 0, none⟩) Y from by rw [HYe.out]; exact ho1.rd.take k)
    clear cn cx ct ho1 hb1 HP HSa HBa
    go_wp2_with fail
    rw [HKW.out, HKU.out]
    have hkc : k ≤ c1 := by omega
    clear hU HKU HKW
    have HKeep := Lib.hid (show ∀ W', Below w1.heap.size w1 W' → W'.cell? ⟨w.heap.size, 32, none⟩ = some (.slice A n c) ∧ W'.cell? ⟨w.heap.size, 33, none⟩ = some (.slice C l cc) ∧ W'.rangeAt w.heap.size 0 Z from fun W' hb => ⟨(HS1.out.below hb (by omega)).nonceC HK.out, (HS1.out.below hb (by omega)).ctxC HK.out, by rw [HZ.out]; exact (HS1.out.below hb (by omega)).keyC HK.out⟩)
    have hkk1 := HKeep.out _ (Below.refl _ w1).drew
    go_region_held3 (fun w' => w'.cell? ⟨w.heap.size, 32, none⟩ = some (.slice A n c) ∧ w'.cell? ⟨w.heap.size, 33, none⟩ = some (.slice C l cc) ∧ w'.rangeAt w.heap.size 0 Z)
      (first
        | exact HKeep.out _ HX2.out
        | exact hkk1
        | go_keep)
      ((go_simp; go_at_call 37; refine (HOp.out _ g1 c1 (HB1.out.drew) (HR1.out.drew) hkc).mono ?_; rintro e w2 ⟨v2, rfl, ho2, hb2⟩; have HX2 := Lib.hid (show Below w1.heap.size w1 w2 from (Below.refl _ w1).drew.trans hb2)))

    obtain ⟨A2, c2, rfl, hr2, -, -, -⟩ := ho2.shape' (n := V.length) rfl
    have hz2 : w1.heap.size ≤ w2.heap.size := HX2.out.size
    have HB2 := Lib.hid (HB1.out.trans (HX2.out.mono HB1.out.size))
    have HS2 := Lib.hid (HS1.out.below HX2.out (by omega))
    have HR2 := Lib.hid ((HR1.out.below HX2.out).more hz2)
    have HV2 := Lib.hid hr2
    have hw2 : w.heap.size < w2.heap.size := by omega
    clear ho2 hb2 hr2 HS1 HKeep hkk1 HB1 HR1 HX2
    have HKeep := Lib.hid (show ∀ W', Below w2.heap.size w2 W' → W'.cell? ⟨w.heap.size, 32, none⟩ = some (.slice A n c) ∧ W'.cell? ⟨w.heap.size, 33, none⟩ = some (.slice C l cc) ∧ W'.rangeAt w.heap.size 0 Z from fun W' hb => ⟨(HS2.out.below hb hw2).nonceC HK.out, (HS2.out.below hb hw2).ctxC HK.out, by rw [HZ.out]; exact (HS2.out.below hb hw2).keyC HK.out⟩)
    go_wp2_with fail
    have hkk2 := HKeep.out _ (Below.refl _ w2).drew
    go_region_held3 (fun w' => w'.cell? ⟨w.heap.size, 32, none⟩ = some (.slice A n c) ∧ w'.cell? ⟨w.heap.size, 33, none⟩ = some (.slice C l cc) ∧ w'.rangeAt w.heap.size 0 Z)
      (first
        | exact HKeep.out _ HX3.out
        | exact hkk2
        | go_keep)
      ((go_simp; go_at_call 38; refine (HOq.out _ g1 c1 (HB2.out.drew) (HR2.out.drew) hkc).mono ?_; rintro e w3 ⟨v3, rfl, ho3, hb3⟩; have HX3 := Lib.hid (show Below w2.heap.size w2 w3 from (Below.refl _ w2).drew.trans hb3)))

    obtain ⟨A3, c3, rfl, hr3, -, -, -⟩ := ho3.shape' (n := V.length) rfl
    have HB3 := Lib.hid (HB2.out.trans (HX3.out.mono HB2.out.size))
    have HV23 := Lib.hid (HV2.out.below HX3.out)
    have HV3 := Lib.hid hr3
    clear ho3 hb3 hr3 HKeep hkk2 HB2 HR2 HX3 HV2
    go_wp2_with fail
    refine (same_any c2 c3 HV23.out HV3.out rfl rfl).mono ?_
    rintro e w' ⟨rfl, rfl⟩
    rw [beq_self_eq_true]
    go_wp2_with fail
    refine (num_any ob _).mono ?_
    rintro e w' ⟨rfl, rfl⟩
    go_wp2_with fail
    go_ret
    exact ⟨rfl, HB3.out⟩
  · clear hk hn hm hl hr hrc ht hsl
    go_enter Try.func14, Try.ntmps14
    go_wp2_with fail
    generalize World.alloc w _ = W0 at HS hb0 hz0 ⊢
    have HB0 := Lib.hid hb0
    clear hb0
    refine (alive04_any _).mono ?_
    rintro e wa ⟨rfl, hba⟩
    have hsa := hba.size
    have HSa := Lib.hid (HS.out.below hba (by omega))
    have HBa := Lib.hid (HB0.out.trans (hba.mono (by omega)))
    have hwa : w.heap.size < wa.heap.size := by omega
    have cn := HSa.out.nonceC HK.out
    have cx := HSa.out.ctxC HK.out
    have ct := HSa.out.textC HK.out
    clear hba HS HB0
    go_wp2_with (refine wpList_load_mid rfl 38 (.tmp 24) rfl w.heap.size 0 rfl (key.map b8) _ (HSa.out.keyC HK.out) Try.underlying38 rfl (by rw [List.length_map, HK.out]; exact infoKeyS) ?_)
    refine (HP.out wa HBa.out).mono ?_
    rintro e w1 ⟨v1, rfl, ho1, hb1⟩
    have HB1 := Lib.hid (HBa.out.trans (hb1.mono (by omega)) : Below w.heap.size w w1)
    clear ho1 hb1 HP
    go_wp2_with fail
    go_ret
    exact ⟨rfl, HB1.out⟩
end Go.Proofs.Ytgcpjmmiciehmaa
