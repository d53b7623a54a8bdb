/- AeadSpoilt, the walk: with one byte changed a sealed text isn't opened, unless the document opens it too. -/
import Derived.Test.YtgcpjmmiciehmaaAlive04
import Derived.Test.YtgcpjmmiciehmaaOpenR
import Derived.Test.YtgcpjmmiciehmaaOpenSeal
namespace Go.Proofs.Ytgcpjmmiciehmaa
open Go.RowKit
set_option linter.unusedVariables false
set_option linter.unusedSimpArgs false

theorem umod_lts (U : Int) (L : Nat) (hU : 0 ≤ U) (hL : 0 < L) : ∃ K : Nat, U.tmod (L : Int) = (K : Int) ∧ K < L := by
  rw [Int.tmod_eq_emod_of_nonneg hU]
  have h0 := Int.emod_nonneg U (b := (L : Int)) (by omega)
  have h1 := Int.emod_lt_of_pos U (b := (L : Int)) (by omega)
  exact ⟨(U % (L : Int)).toNat, by omega, by omega⟩
theorem SdBox.far4 {w : World} {g : Nat} {key : List (BitVec 8)} {A : Option Addr} {n c : Nat} {C : Option Addr} {l cc : Nat} {T : Option Addr} {m d : Nat} (h : SdBox w g key A n c C l cc T m d) {p : Addr} (hp : g ≠ p.block) (u : Value) : SdBox (w.setCell p u) g key A n c C l cc T m d := (Below.heap_setCell w p u g hp).trans h
set_option maxRecDepth 100000 in
set_option maxHeartbeats 1000000 in
theorem aeadSpoilt_walk (key : List (BitVec 8)) (A : Option Addr) (n c : Nat) (nonce : List (BitVec 8)) (C : Option Addr) (l cc : Nat) (ctx : List (BitVec 8)) (T : Option Addr) (m d : Nat) (text : List (BitVec 8)) (w : World) (hk : key.length = 32)
    (hr : Rd b8 w w.heap.size A nonce) (hn : nonce.length = n) (hnc : n ≤ c) (hc : c ≤ maxLen) (hrc : Rd b8 w w.heap.size C ctx) (hl : ctx.length = l) (hlc : l ≤ cc) (hcc : cc ≤ maxLen) (ht : Rd b8 w w.heap.size T text) (hm : text.length = m) (hmd : m ≤ d) (hd : d ≤ maxLen) (cut : Int) (wz : (Lit.int .i64 cut).wf = true) (by_ : BitVec 8) :
    Calls Try.prog 13 #[.agg (sealedC key A n c C l cc T m d).toArray, .int .i64 cut, .int .u8 (bv by_)] w fun e w' => e = .returned (.bool true) ∧ Below w.heap.size w w' := by
  have HK := Lib.hid hk
  have HN := Lib.hid hn
  have HL := Lib.hid hl
  have HM := Lib.hid hm
  have HR := Lib.hid hr
  have HC := Lib.hid hrc
  have HT := Lib.hid ht
  have HS := Lib.hid (SdBox.new w key A n c C l cc T m d)
  have hb0 : Below w.heap.size w (w.alloc (.cells (sealedC key A n c C l cc T m d).toArray 65)) := by (repeat' (first | assumption | exact Below.refl _ _ | refine Below.drew ?_ | refine Below.alloc ?_ ?_ _ | omega | (simp; done) | (simp; omega)))
  have hz0 : (w.alloc (.cells (sealedC key A n c C l cc T m d).toArray 65)).heap.size = w.heap.size + 1 := by simp
  have hbs : sealBad nonce.length ctx.length text.length = sealBad n l m := by rw [hn, hl, hm]
  have hsl := sealV_len key nonce ctx text
  rw [hbs] at hsl
  rw [hm] at hsl
  clear hbs wz
  by_cases k1 : (l : Int) > 500
  · clear hk hn hm hl hr hrc ht hsl
    go_enter Try.func13, Try.ntmps13
    go_wp2_with fail
    generalize World.alloc w _ = W0 at HS hb0 hz0 ⊢
    have HB0 := Lib.hid hb0
    clear hb0
    refine (alive04_any _).mono ?_
    rintro e wa ⟨rfl, hba⟩
    have hsa := hba.size
    have HSa := Lib.hid (HS.out.below hba (by omega))
    have HBa := Lib.hid (HB0.out.trans (hba.mono (by omega)))
    have hwa : w.heap.size < wa.heap.size := by omega
    have cn := HSa.out.nonceC HK.out
    have cx := HSa.out.ctxC HK.out
    have ct := HSa.out.textC HK.out
    clear hba HS HB0
    go_wp2_with fail
    go_ret
    exact ⟨rfl, HBa.out⟩
  by_cases k2 : (m : Int) > 500
  · clear hk hn hm hl hr hrc ht hsl
    go_enter Try.func13, Try.ntmps13
    go_wp2_with fail
    generalize World.alloc w _ = W0 at HS hb0 hz0 ⊢
    have HB0 := Lib.hid hb0
    clear hb0
    refine (alive04_any _).mono ?_
    rintro e wa ⟨rfl, hba⟩
    have hsa := hba.size
    have HSa := Lib.hid (HS.out.below hba (by omega))
    have HBa := Lib.hid (HB0.out.trans (hba.mono (by omega)))
    have hwa : w.heap.size < wa.heap.size := by omega
    have cn := HSa.out.nonceC HK.out
    have cx := HSa.out.ctxC HK.out
    have ct := HSa.out.textC HK.out
    clear hba HS HB0
    go_wp2_with fail
    go_ret
    exact ⟨rfl, HBa.out⟩
  have m1 : l ≤ 500 := by omega
  have m2 : m ≤ 500 := by omega
  obtain ⟨X, hX⟩ : ∃ X, X = sealV key nonce ctx text := ⟨_, rfl⟩
  obtain ⟨bad, hbad⟩ : ∃ bad, bad = sealBad n l m := ⟨_, rfl⟩
  have hb01 := sealBad_or n l m
  rw [← hbad] at hsl hb01
  rw [← hX] at hsl
  have HP := Lib.hid (show ∀ (W' : World), Below w.heap.size w W' → Calls Try.prog 36 #[.agg (key.map b8).toArray, .slice A n c, .slice C l cc, .slice T m d] W' fun e w' => ∃ v, e = .returned (.tuple #[v, .int .i64 (bad : Int)]) ∧ Own b8 w' W'.heap.size 5 v X ∧ Below W'.heap.size W' w' from fun W' hb => by
    have h := refSeal_any W' key HK.out A C T n c l cc m d _ _ _ nonce ctx text (HR.out.below hb) hb.size HN.out hnc (HC.out.below hb) hb.size HL.out (HT.out.below hb) hb.size HM.out
    rw [arrV_mk, ← hbad, ← hX] at h
    exact h)
  have hn12 : bad = 0 → n = 12 := fun h => (sealBad_zero (hbad.symm.trans h)).1
  clear hbad hX
  rcases hb01 with rfl | rfl
  · have hXl := hsl rfl
    obtain ⟨U, hU, hU0, hU1⟩ : ∃ U : Int, IntKind.u64.wrap cut = U ∧ 0 ≤ U ∧ U < 18446744073709551616 := ⟨_, rfl, by rw [ofint_u64]; unfold bv; omega, by rw [ofint_u64]; unfold bv; have := (BitVec.ofInt 64 cut).isLt; omega⟩
    obtain ⟨L, hL⟩ : ∃ L, L = m + 16 := ⟨_, rfl⟩
    obtain ⟨k, hKU, hKL⟩ : ∃ k : Nat, U.tmod (L : Int) = (k : Int) ∧ k < L := umod_lts U L hU0 (by omega)
    have hLb : L ≤ 516 := by omega
    have hXL : X.length = L := by rw [hXl, hL]
    have HXl := Lib.hid hXL
    obtain ⟨Y, hY⟩ : ∃ Y, Y = X.set k (X.getD k 0#8 ^^^ by_) := ⟨_, rfl⟩
    have HYl := Lib.hid (show Y.length = L by rw [hY, List.length_set, hXL])
    have HYe := Lib.hid hY
    obtain ⟨ob, hob⟩ : ∃ ob, ob = openBad key nonce ctx Y := ⟨_, rfl⟩
    obtain ⟨V, hV⟩ : ∃ V, V = openV key nonce ctx Y := ⟨_, rfl⟩
    have HOp := Lib.hid (show ∀ (W' : World) (g1 c1 : Nat), Below w.heap.size w W' → Rd b8 W' W'.heap.size (some ⟨g1, 0, none⟩) Y → L ≤ c1 → Calls Try.prog 37 #[.agg (key.map b8).toArray, .slice A n c, .slice C l cc, .slice (some ⟨g1, 0, none⟩) L c1] W' fun e w' => ∃ v, e = .returned (.tuple #[v, errV ob]) ∧ Own b8 w' W'.heap.size 5 v V ∧ Below W'.heap.size W' w' from fun W' g1 c1 hb h3 h1 => by
      have h := open_any W' key HK.out A C (some ⟨g1, 0, none⟩) n c l cc L c1 _ _ _ nonce ctx Y (HR.out.below hb) hb.size HN.out hnc (HC.out.below hb) hb.size HL.out h3 (Nat.le_refl _) HYl.out h1 (by simp only [maxLen]; omega)
      rw [arrV_mk, ← hob, ← hV] at h
      exact h)
    have HOq := Lib.hid (show ∀ (W' : World) (g1 c1 : Nat), Below w.heap.size w W' → Rd b8 W' W'.heap.size (some ⟨g1, 0, none⟩) Y → L ≤ c1 → Calls Try.prog 38 #[.agg (key.map b8).toArray, .slice A n c, .slice C l cc, .slice (some ⟨g1, 0, none⟩) L c1] W' fun e w' => ∃ v, e = .returned (.tuple #[v, .int .i64 (ob : Int)]) ∧ Own b8 w' W'.heap.size 5 v V ∧ Below W'.heap.size W' w' from fun W' g1 c1 hb h3 h1 => by
      have h := refOpen_any W' key HK.out A C (some ⟨g1, 0, none⟩) n c l cc L c1 _ _ _ nonce ctx Y (HR.out.below hb) hb.size HN.out hnc (HC.out.below hb) hb.size HL.out h3 (Nat.le_refl _) HYl.out h1 (by simp only [maxLen]; omega)
      rw [arrV_mk, ← hob, ← hV] at h
      exact h)
    have hob02 : ob = 0 ∨ (ob = 2 ∧ V = []) := by
      have h12 := hn12 rfl
      have hYl := HYl.out
      have hc : openBad key nonce ctx Y = 0 ∨ openBad key nonce ctx Y = 2 := by
        unfold openBad
        rw [if_neg (by rw [hn, hl, hYl]; omega)]
        split
        · exact .inr rfl
        · split
          · exact .inl rfl
          · exact .inr rfl
      rcases hc with h | h
      · exact .inl (hob.trans h)
      · refine .inr ⟨hob.trans h, ?_⟩
        rw [hV]; unfold openV; rw [if_neg (by rw [h]; decide)]
    have HOb := Lib.hid hob02
    clear hob02
    obtain ⟨Z, hZ⟩ : ∃ Z, Z = key.map b8 := ⟨_, rfl⟩
    have hZl : Z.length = 32 := by rw [hZ, List.length_map, HK.out]
    have hu := Try.underlying38
    have hi32 : (Try.prog.info? 38).map (·.size) = some Z.length := by rw [hZl]; exact infoKeyS
    rw [← hZ] at HOp HOq
    have HZ := Lib.hid hZ
    have HKU := Lib.hid hKU
    have HKW := Lib.hid (show wrap64 (U.tmod (L : Int)) = (k : Int) by rw [hKU]; exact IntWalk.wrap64_in _ (by omega))
    clear hk hn hm hl hr hrc ht hsl hXl hn12 hob hV hY hXL hKU hU0 hL hZ hZl
    go_enter Try.func13, Try.ntmps13
    go_wp2_with fail
    generalize World.alloc w _ = W0 at HS hb0 hz0 ⊢
    have HB0 := Lib.hid hb0
    clear hb0
    refine (alive04_any _).mono ?_
    rintro e wa ⟨rfl, hba⟩
    have hsa := hba.size
    have HSa := Lib.hid (HS.out.below hba (by omega))
    have HBa := Lib.hid (HB0.out.trans (hba.mono (by omega)))
    have hwa : w.heap.size < wa.heap.size := by omega
    have cn := HSa.out.nonceC HK.out
    have cx := HSa.out.ctxC HK.out
    have ct := HSa.out.textC HK.out
    clear hba HS HB0
    go_wp2_with (refine wpList_load_mid rfl 38 (.tmp 24) rfl w.heap.size 0 rfl (key.map b8) _ (HSa.out.keyC HK.out) Try.underlying38 rfl (by rw [List.length_map, HK.out]; exact infoKeyS) ?_)
    refine (HP.out wa HBa.out).mono ?_
    rintro e w1 ⟨v1, rfl, ho1, hb1⟩
    obtain ⟨g1, c1, rfl, hg1, hgl, hc1⟩ := ho1.form' HXl.out (by omega)
    have hz1 : wa.heap.size ≤ w1.heap.size := hb1.size
    have HS1 := Lib.hid (HSa.out.below hb1 hwa)
    have HB1 := Lib.hid (HBa.out.trans (hb1.mono (by omega)) : Below w.heap.size w w1)
    clear cn cx ct HP HSa HBa
    by_cases hz : by_ = 0#8
    · have hbz : bv by_ = 0 := by rw [hz]; rfl
      clear hz ho1 hb1 HKU HKW
      go_wp2_with fail
      go_ret
      exact ⟨rfl, HB1.out⟩
    · have hbz : ¬ (bv by_ = 0) := by intro e; exact hz (bv_inj (y := 0#8) e)
      obtain ⟨x, hx⟩ : ∃ x, x = X.getD k 0#8 := ⟨_, rfl⟩
      have hkX : k < X.length := by rw [HXl.out]; exact hKL
      have hc := (ho1.at_ hkX).1
      have hf := (ho1.at_ hkX).2
      have hxe : X[k] = x := by rw [hx]; simp [List.getD, hkX]
      rw [hxe] at hc
      simp only [b8] at hc
      have HO1 := Lib.hid (show Own b8 (w1.setCell ⟨g1, k, none⟩ (.int .u8 (bv (x ^^^ by_)))) wa.heap.size 5 (.slice (some ⟨g1, 0, none⟩) L c1) Y from by
        rw [HYe.out, ← hx]; exact (ho1.set_ k (x ^^^ by_)).1)
      have hwg : wa.heap.size ≤ g1 := hg1
      have hb1' : Below wa.heap.size wa (w1.setCell ⟨g1, k, none⟩ (.int .u8 (bv (x ^^^ by_)))) := hb1.setCell (p := ⟨g1, k, none⟩) hwg _
      have HS2 := Lib.hid (HS1.out.far4 (p := ⟨g1, k, none⟩) (by show w.heap.size ≠ g1; omega) (.int .u8 (bv (x ^^^ by_))))
      have HB2 := Lib.hid (HB1.out.setCell (p := ⟨g1, k, none⟩) (by show w.heap.size ≤ g1; omega) (.int .u8 (bv (x ^^^ by_))))
      have hKU := HKU.out
      have cn2 := HS2.out.nonceC HK.out
      have cx2 := HS2.out.ctxC HK.out
      have cn := HS1.out.nonceC HK.out
      have cx := HS1.out.ctxC HK.out
      have hne1 : ¬ (w.heap.size = g1) := by omega
      have hne2 : ¬ (g1 = w.heap.size) := by omega
      have hki : (0 : Int) ≤ (k : Int) := by omega
      have hkl : (k : Int) < (L : Int) := by omega
      clear hx hxe hkX ho1 hb1 hb1' hz HKU HKW
      go_wp2_with (refine wpList_load_mid rfl 38 (.tmp 54) rfl w.heap.size 0 rfl (key.map b8) _ (HS2.out.keyC HK.out) Try.underlying38 rfl (by rw [List.length_map, HK.out]; exact infoKeyS) ?_)
      have hoq := HOq.out _ g1 c1 HB2.out HO1.out.rd hc1
      rw [HZ.out] at hoq
      have HQ1 := Lib.hid hoq
      clear hoq hKU hc hf cn cx cn2 cx2
      refine HQ1.out.mono ?_
      rintro e w3 ⟨v3, rfl, ho3, hb3⟩
      obtain ⟨A3, c3, rfl, -, -, -, -⟩ := ho3.shape' (n := V.length) rfl
      have hsz2 : w1.heap.size = (w1.setCell ⟨g1, k, none⟩ (.int .u8 (bv (x ^^^ by_)))).heap.size := by simp
      have hz3 : w1.heap.size ≤ w3.heap.size := by rw [hsz2]; exact hb3.size
      have HS3 := Lib.hid (HS2.out.below hb3 (by rw [← hsz2]; omega))
      have HB3 := Lib.hid (HB2.out.trans (hb3.mono (by rw [← hsz2]; omega)) : Below w.heap.size w w3)
      have HO3 := Lib.hid (HO1.out.below hb3 (Nat.le_refl _))
      clear ho3 hb3 HQ1 HS2 HB2 HO1 HS1 HB1 hsz2
      have cn := HS3.out.nonceC HK.out
      have cx := HS3.out.ctxC HK.out
      go_wp2_with (refine wpList_load_mid rfl 38 (.tmp 65) rfl w.heap.size 0 rfl (key.map b8) _ (HS3.out.keyC HK.out) Try.underlying38 rfl (by rw [List.length_map, HK.out]; exact infoKeyS) ?_)
      have hop := HOp.out w3 g1 c1 HB3.out HO3.out.rd hc1
      rw [HZ.out] at hop
      have HP3 := Lib.hid hop
      clear hop
      refine HP3.out.mono ?_
      rintro e w4 ⟨v4, rfl, ho4, hb4⟩
      have hHO := HOb.out
      have HB4 := Lib.hid (HB3.out.trans (hb4.mono HB3.out.size))
      rcases hHO with rfl | ⟨rfl, rfl⟩
      · clear ho4 hb4 HP3 HOp HOq HOb
        rw [errV_zero]
        go_wp2_with fail
        go_ret
        exact ⟨rfl, HB4.out⟩
      · obtain ⟨A4, c4, rfl, -, -, -, -⟩ := ho4.shape' (n := 0) rfl
        have HIs := Lib.hid (show ∀ w : World, Calls Try.prog 39 #[.iface 70 (.int .i64 2), .int .i64 2] w fun e w' => e = .returned (.bool true) ∧ w = w' from fun w => is_any 2 2 w)
        rw [errV_pos (by decide : (2 : Nat) ≠ 0)]
        clear ho4 hb4 HP3 HOp HOq HOb
        go_wp2_with fail
        refine (HIs.out _).mono ?_
        rintro e w' ⟨rfl, rfl⟩
        go_wp2_with fail
        go_ret
        exact ⟨rfl, HB4.out⟩
  · clear hk hn hm hl hr hrc ht hsl hn12
    go_enter Try.func13, Try.ntmps13
    go_wp2_with fail
    generalize World.alloc w _ = W0 at HS hb0 hz0 ⊢
    have HB0 := Lib.hid hb0
    clear hb0
    refine (alive04_any _).mono ?_
    rintro e wa ⟨rfl, hba⟩
    have hsa := hba.size
    have HSa := Lib.hid (HS.out.below hba (by omega))
    have HBa := Lib.hid (HB0.out.trans (hba.mono (by omega)))
    have hwa : w.heap.size < wa.heap.size := by omega
    have cn := HSa.out.nonceC HK.out
    have cx := HSa.out.ctxC HK.out
    have ct := HSa.out.textC HK.out
    clear hba HS HB0
    go_wp2_with (refine wpList_load_mid rfl 38 (.tmp 24) rfl w.heap.size 0 rfl (key.map b8) _ (HSa.out.keyC HK.out) Try.underlying38 rfl (by rw [List.length_map, HK.out]; exact infoKeyS) ?_)
    refine (HP.out wa HBa.out).mono ?_
    rintro e w1 ⟨v1, rfl, ho1, hb1⟩
    have HB1 := Lib.hid (HBa.out.trans (hb1.mono (by omega)) : Below w.heap.size w w1)
    clear ho1 hb1 HP
    go_wp2_with fail
    go_ret
    exact ⟨rfl, HB1.out⟩
end Go.Proofs.Ytgcpjmmiciehmaa
