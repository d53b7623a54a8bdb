/- AeadBack, the walk: what is sealed is opened; what can't be sealed gives an error and nothing. -/
import Derived.Test.YtgcpjmmiciehmaaAlive04
import Derived.Test.YtgcpjmmiciehmaaOpenSeal
namespace Go.Proofs.Ytgcpjmmiciehmaa
open Go.RowKit
set_option linter.unusedVariables false
set_option linter.unusedSimpArgs false

set_option maxRecDepth 100000 in
set_option maxHeartbeats 1000000 in
theorem aeadBack_walk (key : List (BitVec 8)) (A : Option Addr) (n c : Nat) (nonce : List (BitVec 8)) (C : Option Addr) (l cc : Nat) (ctx : List (BitVec 8)) (T : Option Addr) (m d : Nat) (text : List (BitVec 8)) (w : World) (hk : key.length = 32)
    (hr : Rd b8 w w.heap.size A nonce) (hn : nonce.length = n) (hnc : n ≤ c) (hc : c ≤ maxLen) (hrc : Rd b8 w w.heap.size C ctx) (hl : ctx.length = l) (hlc : l ≤ cc) (hcc : cc ≤ maxLen) (ht : Rd b8 w w.heap.size T text) (hm : text.length = m) (hmd : m ≤ d) (hd : d ≤ maxLen) :
    Calls Try.prog 12 #[.agg (sealedC key A n c C l cc T m d).toArray] w fun e w' => e = .returned (.bool true) ∧ Below w.heap.size w w' := by
  have HK := Lib.hid hk
  have HN := Lib.hid hn
  have HL := Lib.hid hl
  have HM := Lib.hid hm
  have HR := Lib.hid hr
  have HC := Lib.hid hrc
  have HT := Lib.hid ht
  have HS := Lib.hid (SdBox.new w key A n c C l cc T m d)
  have hb0 : Below w.heap.size w (w.alloc (.cells (sealedC key A n c C l cc T m d).toArray 65)) := by (repeat' (first | assumption | exact Below.refl _ _ | refine Below.drew ?_ | refine Below.alloc ?_ ?_ _ | omega | (simp; done) | (simp; omega)))
  have hz0 : (w.alloc (.cells (sealedC key A n c C l cc T m d).toArray 65)).heap.size = w.heap.size + 1 := by simp
  have hbs : sealBad nonce.length ctx.length text.length = sealBad n l m := by rw [hn, hl, hm]
  have hos := open_seal key nonce ctx text
  have hsl := sealV_len key nonce ctx text
  have hsb := sealV_bad key nonce ctx text
  rw [hbs] at hos hsl hsb
  rw [hm] at hsl
  clear hbs
  by_cases k1 : (l : Int) > 5000
  · clear hk hn hm hl hr hrc ht hos hsl hsb
    go_enter Try.func12, Try.ntmps12
    go_wp2_with fail
    generalize World.alloc w _ = W0 at HS hb0 hz0 ⊢
    have HB0 := Lib.hid hb0
    clear hb0
    refine (alive04_any _).mono ?_
    rintro e wa ⟨rfl, hba⟩
    have hsa := hba.size
    have HSa := Lib.hid (HS.out.below hba (by omega))
    have HBa := Lib.hid (HB0.out.trans (hba.mono (by omega)))
    have hwa : w.heap.size < wa.heap.size := by omega
    have cn := HSa.out.nonceC HK.out
    have cx := HSa.out.ctxC HK.out
    have ct := HSa.out.textC HK.out
    clear hba HS HB0
    go_wp2_with fail
    go_ret
    exact ⟨rfl, HBa.out⟩
  by_cases k2 : (m : Int) > 5000
  · clear hk hn hm hl hr hrc ht hos hsl hsb
    go_enter Try.func12, Try.ntmps12
    go_wp2_with fail
    generalize World.alloc w _ = W0 at HS hb0 hz0 ⊢
    have HB0 := Lib.hid hb0
    clear hb0
    refine (alive04_any _).mono ?_
    rintro e wa ⟨rfl, hba⟩
    have hsa := hba.size
    have HSa := Lib.hid (HS.out.below hba (by omega))
    have HBa := Lib.hid (HB0.out.trans (hba.mono (by omega)))
    have hwa : w.heap.size < wa.heap.size := by omega
    have cn := HSa.out.nonceC HK.out
    have cx := HSa.out.ctxC HK.out
    have ct := HSa.out.textC HK.out
    clear hba HS HB0
    go_wp2_with fail
    go_ret
    exact ⟨rfl, HBa.out⟩
  have m1 : l ≤ 5000 := by omega
  have m2 : m ≤ 5000 := by omega
  obtain ⟨X, hX⟩ : ∃ X, X = sealV key nonce ctx text := ⟨_, rfl⟩
  obtain ⟨bad, hbad⟩ : ∃ bad, bad = sealBad n l m := ⟨_, rfl⟩
  have hb01 := sealBad_or n l m
  rw [← hbad] at hos hsl hsb hb01
  rw [← hX] at hos hsl hsb
  have HP := Lib.hid (show ∀ (W' : World), Below w.heap.size w W' → Calls Try.prog 35 #[.agg (key.map b8).toArray, .slice A n c, .slice C l cc, .slice T m d] W' fun e w' => ∃ v, e = .returned (.tuple #[v, errV bad]) ∧ Own b8 w' W'.heap.size 5 v X ∧ Below W'.heap.size W' w' from fun W' hb => by
    have h := seal_any W' key HK.out A C T n c l cc m d _ _ _ nonce ctx text (HR.out.below hb) hb.size HN.out hnc (HC.out.below hb) hb.size HL.out (HT.out.below hb) hb.size HM.out
    rw [arrV_mk, ← hbad, ← hX] at h
    exact h)
  clear hbad hX
  rcases hb01 with rfl | rfl
  · obtain ⟨ho1, ho2⟩ := hos rfl
    have hXl := hsl rfl
    have HXl := Lib.hid hXl
    have HOp := Lib.hid (show ∀ (W' : World) (A3 : Option Addr) (c3 L : Nat), Below w.heap.size w W' → Rd b8 W' W'.heap.size A3 X → X.length = L → L ≤ c3 → L ≤ 10000 → Calls Try.prog 37 #[.agg (key.map b8).toArray, .slice A n c, .slice C l cc, .slice A3 L c3] W' fun e w' => ∃ v, e = .returned (.tuple #[v, .nilIface]) ∧ Own b8 w' W'.heap.size 5 v text ∧ Below W'.heap.size W' w' from fun W' A3 c3 L hb h3 hL h1 h2 => by
      have h := open_any W' key HK.out A C A3 n c l cc L c3 _ _ _ nonce ctx X (HR.out.below hb) hb.size HN.out hnc (HC.out.below hb) hb.size HL.out h3 (Nat.le_refl _) hL h1 (by simp only [maxLen]; omega)
      rw [arrV_mk, ho1, ho2, errV_zero] at h
      exact h)
    rw [errV_zero] at HP
    clear hk hn hm hl hr hrc ht hos hsl hsb ho1 ho2 hXl
    go_enter Try.func12, Try.ntmps12
    go_wp2_with fail
    generalize World.alloc w _ = W0 at HS hb0 hz0 ⊢
    have HB0 := Lib.hid hb0
    clear hb0
    refine (alive04_any _).mono ?_
    rintro e wa ⟨rfl, hba⟩
    have hsa := hba.size
    have HSa := Lib.hid (HS.out.below hba (by omega))
    have HBa := Lib.hid (HB0.out.trans (hba.mono (by omega)))
    have hwa : w.heap.size < wa.heap.size := by omega
    have cn := HSa.out.nonceC HK.out
    have cx := HSa.out.ctxC HK.out
    have ct := HSa.out.textC HK.out
    clear hba HS HB0
    go_wp2_with (refine wpList_load_mid rfl 38 (.tmp 19) rfl w.heap.size 0 rfl (key.map b8) _ (HSa.out.keyC HK.out) Try.underlying38 rfl (by rw [List.length_map, HK.out]; exact infoKeyS) ?_)
    refine (HP.out wa HBa.out).mono ?_
    rintro e w1 ⟨v1, rfl, ho1, hb1⟩
    obtain ⟨L, hL⟩ : ∃ L, L = m + 16 := ⟨_, rfl⟩
    obtain ⟨A1, c1, rfl, hr1, -, hc1, -⟩ := ho1.shape' (n := L) (by rw [HXl.out, hL])
    have hz1 : wa.heap.size ≤ w1.heap.size := hb1.size
    have HS1 := Lib.hid (HSa.out.below hb1 hwa)
    have HB1 := Lib.hid (HBa.out.trans (hb1.mono (by omega)) : Below w.heap.size w w1)
    have HR1 := Lib.hid hr1
    have HLl := Lib.hid (show X.length = L by rw [HXl.out, hL])
    have hLi : (m : Int) + 16 = (L : Int) := by omega
    have hLb : L ≤ 5016 := by omega
    clear cn cx ct ho1 hb1 hr1 HP HSa HBa hL
    have cn := HS1.out.nonceC HK.out
    have cx := HS1.out.ctxC HK.out
    have ct := HS1.out.textC HK.out
    go_wp2_with (refine wpList_load_mid rfl 38 (.tmp 40) rfl w.heap.size 0 rfl (key.map b8) _ (HS1.out.keyC HK.out) Try.underlying38 rfl (by rw [List.length_map, HK.out]; exact infoKeyS) ?_)
    refine (HOp.out w1 A1 c1 L HB1.out HR1.out HLl.out hc1 (by omega)).mono ?_
    rintro e w2 ⟨v2, rfl, ho2, hb2⟩
    obtain ⟨A2, c2, rfl, hr2, -, hc2, -⟩ := ho2.shape' (n := m) HM.out
    have hz2 : w1.heap.size ≤ w2.heap.size := hb2.size
    have HS2 := Lib.hid (HS1.out.below hb2 (by omega))
    have HB2 := Lib.hid (HB1.out.trans (hb2.mono (by omega)) : Below w.heap.size w w2)
    have HR2 := Lib.hid hr2
    clear cn cx ct ho2 hb2 hr2 HOp HS1 HB1
    have ct := HS2.out.textC HK.out
    go_wp2_with fail
    refine (same_any c2 d HR2.out (HT.out.below HB2.out) HM.out HM.out).mono ?_
    rintro e w' ⟨rfl, rfl⟩
    rw [beq_self_eq_true]
    go_wp2_with fail
    go_ret
    exact ⟨rfl, HB2.out⟩
  · have HIs := Lib.hid (show ∀ w : World, Calls Try.prog 39 #[.iface 70 (.int .i64 1), .int .i64 1] w fun e w' => e = .returned (.bool true) ∧ w = w' from fun w => is_any 1 1 w)
    have hXn := hsb (by decide)
    have HXn := Lib.hid hXn
    clear hk hn hm hl hr hrc ht hos hsl hsb hXn
    go_enter Try.func12, Try.ntmps12
    go_wp2_with fail
    generalize World.alloc w _ = W0 at HS hb0 hz0 ⊢
    have HB0 := Lib.hid hb0
    clear hb0
    refine (alive04_any _).mono ?_
    rintro e wa ⟨rfl, hba⟩
    have hsa := hba.size
    have HSa := Lib.hid (HS.out.below hba (by omega))
    have HBa := Lib.hid (HB0.out.trans (hba.mono (by omega)))
    have hwa : w.heap.size < wa.heap.size := by omega
    have cn := HSa.out.nonceC HK.out
    have cx := HSa.out.ctxC HK.out
    have ct := HSa.out.textC HK.out
    clear hba HS HB0
    go_wp2_with (refine wpList_load_mid rfl 38 (.tmp 19) rfl w.heap.size 0 rfl (key.map b8) _ (HSa.out.keyC HK.out) Try.underlying38 rfl (by rw [List.length_map, HK.out]; exact infoKeyS) ?_)
    refine (HP.out wa HBa.out).mono ?_
    rintro e w1 ⟨v1, rfl, ho1, hb1⟩
    obtain ⟨A1, c1, rfl, -, -, -, -⟩ := ho1.shape' (n := 0) (by rw [HXn.out]; rfl)
    have HB1 := Lib.hid (HBa.out.trans (hb1.mono (by omega)) : Below w.heap.size w w1)
    clear ho1 hb1 HP
    rw [errV_pos (by decide : (1 : Nat) ≠ 0)]
    go_wp2_with fail
    refine (HIs.out _).mono ?_
    rintro e w' ⟨rfl, rfl⟩
    go_wp2_with fail
    go_ret
    exact ⟨rfl, HB1.out⟩
end Go.Proofs.Ytgcpjmmiciehmaa
