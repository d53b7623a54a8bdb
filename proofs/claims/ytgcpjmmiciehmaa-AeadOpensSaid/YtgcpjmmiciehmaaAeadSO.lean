/- AeadSeals, AeadOpens, the walks: the program and the document give the same bytes and the same error's number; the copies are kept, all lists lie apart. -/
import Derived.Test.YtgcpjmmiciehmaaAlive04
import Derived.Test.YtgcpjmmiciehmaaOpenR
import Derived.Test.YtgcpjmmiciehmaaCopy
import Derived.Test.YtgcpjmmiciehmaaApart
import Derived.Test.YtgcpjmmiciehmaaOpenSeal
namespace Go.Proofs.Ytgcpjmmiciehmaa
open Go.RowKit
set_option linter.unusedVariables false
set_option linter.unusedSimpArgs false

/-- lists in rows of their own -/
theorem lone_pw4 {vs : List Sl} (h : vs.Pairwise (fun x y => ∀ g, (sl x).ownBlock = some g → (sl y).ownBlock ≠ some g)) : Lone vs := by
  intro i j x y hx hy hij g hg
  rcases Nat.lt_or_gt_of_ne hij with hlt | hlt
  · exact (List.pairwise_iff_getElem.1 h i j (List.getElem?_eq_some_iff.1 hx).1 (List.getElem?_eq_some_iff.1 hy).1 hlt) g (by rw [(List.getElem?_eq_some_iff.1 hx).2]; exact hg) |> (fun h2 => by rwa [(List.getElem?_eq_some_iff.1 hy).2] at h2)
  · intro hg2
    exact (List.pairwise_iff_getElem.1 h j i (List.getElem?_eq_some_iff.1 hy).1 (List.getElem?_eq_some_iff.1 hx).1 hlt) g (by rw [(List.getElem?_eq_some_iff.1 hy).2]; exact hg2) (by rw [(List.getElem?_eq_some_iff.1 hx).2]; exact hg)
theorem sealV_le (key nonce ctx text : List (BitVec 8)) : (sealV key nonce ctx text).length ≤ 2000000 := by
  by_cases h : sealBad nonce.length ctx.length text.length = 0
  · have hz := sealBad_zero h
    rw [sealV_len _ _ _ _ h]; omega
  · rw [sealV_bad _ _ _ _ h]; simp
theorem openV_le (key nonce ctx text : List (BitVec 8)) : (openV key nonce ctx text).length ≤ 2000000 := by
  unfold openV
  split
  · rename_i h
    unfold openBad at h
    split at h
    · cases h
    · split at h
      · cases h
      · rename_i h1 h2
        have hn : nonce.length = 12 := by omega
        have hl : (text.take (text.length - 16)).length ≤ 1048592 := by rw [List.length_take]; omega
        rw [(mixV_len1 key nonce _ hn (by omega)).2]; omega
  · simp
set_option maxRecDepth 100000 in
set_option maxHeartbeats 1000000 in
theorem aeadSeals_walk (key : List (BitVec 8)) (A : Option Addr) (n c : Nat) (nonce : List (BitVec 8)) (C : Option Addr) (l cc : Nat) (ctx : List (BitVec 8)) (T : Option Addr) (m d : Nat) (text : List (BitVec 8)) (w : World) (hk : key.length = 32)
    (hr : Rd b8 w w.heap.size A nonce) (hn : nonce.length = n) (hnc : n ≤ c) (hc : c ≤ maxLen) (hrc : Rd b8 w w.heap.size C ctx) (hl : ctx.length = l) (hlc : l ≤ cc) (hcc : cc ≤ maxLen) (ht : Rd b8 w w.heap.size T text) (hm : text.length = m) (hmd : m ≤ d) (hd : d ≤ maxLen)
    (zn : n ≤ 140737488351232) (zl : l ≤ 140737488351232) (zm : m ≤ 140737488351232) :
    Calls Try.prog 10 #[.agg (sealedC key A n c C l cc T m d).toArray] w fun e w' => e = .returned (.bool true) ∧ Below w.heap.size w w' := by
  have HK := Lib.hid hk
  have HN := Lib.hid hn
  have HL := Lib.hid hl
  have HM := Lib.hid hm
  have HR := Lib.hid hr
  have HC := Lib.hid hrc
  have HT := Lib.hid ht
  have hmx : m ≤ maxLen := by omega
  have hlg := fun w' => large04_any key A n c C l cc T m d w' hk
  have HS := Lib.hid (SdBox.new w key A n c C l cc T m d)
  have hb0 : Below w.heap.size w (w.alloc (.cells (sealedC key A n c C l cc T m d).toArray 65)) := by (repeat' (first | assumption | exact Below.refl _ _ | refine Below.drew ?_ | refine Below.alloc ?_ ?_ _ | omega | (simp; done) | (simp; omega)))
  have hz0 : (w.alloc (.cells (sealedC key A n c C l cc T m d).toArray 65)).heap.size = w.heap.size + 1 := by simp
  obtain ⟨bad, hbad⟩ : ∃ bad, bad = sealBad n l m := ⟨_, rfl⟩
  obtain ⟨X, hX⟩ : ∃ X, X = sealV key nonce ctx text := ⟨_, rfl⟩
  have hXl : X.length ≤ 2000000 := by rw [hX]; exact sealV_le _ _ _ _
  have HP := Lib.hid (show ∀ (W' : World) (gn kn gc kc gt kt : Nat), Rd b8 W' W'.heap.size (some ⟨gn, 0, none⟩) nonce → Rd b8 W' W'.heap.size (some ⟨gc, 0, none⟩) ctx → Rd b8 W' W'.heap.size (some ⟨gt, 0, none⟩) text → n ≤ kn → m ≤ kt → Calls Try.prog 35 #[.agg (key.map b8).toArray, .slice (some ⟨gn, 0, none⟩) n kn, .slice (some ⟨gc, 0, none⟩) l kc, .slice (some ⟨gt, 0, none⟩) m kt] W' fun e w' => ∃ v, e = .returned (.tuple #[v, errV bad]) ∧ Own b8 w' W'.heap.size 5 v X ∧ Below W'.heap.size W' w' from fun W' gn kn gc kc gt kt r1 r2 r3 h1 h2 => by
    have h := seal_any W' key HK.out _ _ _ n kn l kc m kt _ _ _ nonce ctx text r1 (Nat.le_refl _) HN.out h1 r2 (Nat.le_refl _) HL.out r3 (Nat.le_refl _) HM.out 
    rw [arrV_mk, ← hbad, ← hX] at h
    exact h)
  have HQ := Lib.hid (show ∀ (W' : World), Below w.heap.size w W' → Calls Try.prog 36 #[.agg (key.map b8).toArray, .slice A n c, .slice C l cc, .slice T m d] W' fun e w' => ∃ v, e = .returned (.tuple #[v, .int .i64 (bad : Int)]) ∧ Own b8 w' W'.heap.size 5 v X ∧ Below W'.heap.size W' w' from fun W' hb => by
    have h := refSeal_any W' key HK.out A C T n c l cc m d _ _ _ nonce ctx text (HR.out.below hb) hb.size HN.out hnc (HC.out.below hb) hb.size HL.out (HT.out.below hb) hb.size HM.out 
    rw [arrV_mk, ← hbad, ← hX] at h
    exact h)
  by_cases hlarge : largeP n l m = true
  · rw [hlarge] at hlg
    have HLg := Lib.hid hlg
    clear hlg hlarge hk hn hm hl hr hrc ht HP HQ hX hbad hXl
    go_enter Try.func10, Try.ntmps10
    go_wp2_with fail
    generalize World.alloc w _ = W0 at HS hb0 hz0 ⊢
    have HB0 := Lib.hid hb0
    clear hb0
    refine (alive04_any _).mono ?_
    rintro e wa ⟨rfl, hba⟩
    have hsa := hba.size
    have HSa := Lib.hid (HS.out.below hba (by omega))
    have HBa := Lib.hid (HB0.out.trans (hba.mono (by omega)))
    clear hba HS HB0
    go_wp2_with (refine wpList_load_mid rfl 65 (.tmp 1) rfl w.heap.size 0 rfl (sealedC key A n c C l cc T m d) _ HSa.out.all Try.underlying65 rfl (by rw [sealedC_len HK.out]; exact infoSealed) ?_)
    refine (HLg.out wa).mono ?_
    rintro e w1 ⟨rfl, hb1⟩
    go_wp2_with fail
    go_ret
    exact ⟨rfl, HBa.out.trans (hb1.mono (by omega))⟩
  · rw [Bool.not_eq_true] at hlarge
    rw [hlarge] at hlg
    have HLg := Lib.hid hlg
    clear hlg hlarge hk hn hm hl hr hrc ht hX hbad
    go_enter Try.func10, Try.ntmps10
    go_wp2_with fail
    generalize World.alloc w _ = W0 at HS hb0 hz0 ⊢
    have HB0 := Lib.hid hb0
    clear hb0
    refine (alive04_any _).mono ?_
    rintro e wa ⟨rfl, hba⟩
    have hsa := hba.size
    have HSa := Lib.hid (HS.out.below hba (by omega))
    have HBa := Lib.hid (HB0.out.trans (hba.mono (by omega)))
    clear hba HS HB0
    go_wp2_with (refine wpList_load_mid rfl 65 (.tmp 1) rfl w.heap.size 0 rfl (sealedC key A n c C l cc T m d) _ HSa.out.all Try.underlying65 rfl (by rw [sealedC_len HK.out]; exact infoSealed) ?_)
    refine (HLg.out wa).mono ?_
    rintro e w1 ⟨rfl, hb1⟩
    have HBx := Lib.hid (HSa.out.below hb1 (by omega))
    have HB1 := Lib.hid (HBa.out.trans (hb1.mono (by omega)) : Below w.heap.size w w1)
    have hz1 := hb1.size
    have hw1 : w.heap.size < w1.heap.size := by omega
    have CN := Lib.hid (HBx.out.nonceC HK.out)
    have CC := Lib.hid (HBx.out.ctxC HK.out)
    have CT := Lib.hid (HBx.out.textC HK.out)
    clear hb1 HLg HBa HSa
    have HKeep := Lib.hid (show ∀ W', Below w1.heap.size w1 W' → W'.cell? ⟨w.heap.size, 32, none⟩ = some (.slice A n c) ∧ W'.cell? ⟨w.heap.size, 33, none⟩ = some (.slice C l cc) ∧ W'.cell? ⟨w.heap.size, 34, none⟩ = some (.slice T m d) from fun W' hb => ⟨(HBx.out.below hb hw1).nonceC HK.out, (HBx.out.below hb hw1).ctxC HK.out, (HBx.out.below hb hw1).textC HK.out⟩)
    have cn := CN.out
    have cx := CC.out
    have ct := CT.out
    have tok1 : True := trivial
    have tok2 : True := trivial
    have tok3 : True := trivial
    go_wp2_with fail
    go_region_held3 (fun w' => w'.cell? ⟨w.heap.size, 32, none⟩ = some (.slice A n c) ∧ w'.cell? ⟨w.heap.size, 33, none⟩ = some (.slice C l cc) ∧ w'.cell? ⟨w.heap.size, 34, none⟩ = some (.slice T m d))
      (first
        | exact HKeep.out _ HX4.out
        | exact HKeep.out _ HX3.out
        | exact HKeep.out _ HX2.out
        | go_keep)
      (first
        | (go_simp; have _t := tok1; clear _t tok1; refine (copy_any c (HR.out.below HB1.out).drew (by show w.heap.size ≤ w1.heap.size; omega) HN.out zn).mono ?_; rintro e w2 ⟨v2, rfl, hc2, hb2⟩; have HX2 := Lib.hid (show Below w1.heap.size w1 w2 from (Below.refl _ w1).drew.trans hb2); have hz2 := HX2.out.size)
        | (go_simp; have _t := tok2; clear _t tok2; refine (copy_any cc (HC.out.below (HB1.out.trans (HX2.out.mono (by omega)))) (by omega) HL.out zl).mono ?_; rintro e w3 ⟨v3, rfl, hc3, hb3⟩; have HX3 := Lib.hid (show Below w1.heap.size w1 w3 from HX2.out.trans (hb3.mono hz2)); have hz3 : w2.heap.size ≤ w3.heap.size := hb3.size)
        | (go_simp; have _t := tok3; clear _t tok3; refine (copy_any d (HT.out.below (HB1.out.trans (HX3.out.mono (by omega)))) (by omega) HM.out zm).mono ?_; rintro e w4 ⟨v4, rfl, hc4, hb4⟩; have HX4 := Lib.hid (show Below w1.heap.size w1 w4 from HX3.out.trans (hb4.mono (by omega))); have hz4 : w3.heap.size ≤ w4.heap.size := hb4.size))
    obtain ⟨gn, kn, rfl, hgn, hgnl, hkn, -⟩ := hc2.shape' HN.out
    obtain ⟨gc, kc, rfl, hgc, hgcl, hkc, -⟩ := hc3.shape' HL.out
    obtain ⟨gt, kt, rfl, hgt, hgtl, hkt, -⟩ := hc4.shape' HM.out
    have hgn' : w1.heap.size ≤ gn := hgn
    have HB4 := Lib.hid (HB1.out.trans (HX4.out.mono (by omega)) : Below w.heap.size w w4)
    have HBx4 := Lib.hid (HBx.out.below HX4.out hw1)
    have Hn4 := Lib.hid (((hc2.less (B' := w.heap.size) (by show w.heap.size ≤ w1.heap.size; omega)).below hb3 (Nat.le_refl _)).below hb4 (Nat.le_refl _))
    have Hc4 := Lib.hid ((hc3.less (B' := w.heap.size) (by omega)).below hb4 (Nat.le_refl _))
    have Ht4 := Lib.hid (hc4.less (B' := w.heap.size) (by omega))
    clear CN CC CT hc2 hc3 hc4 hb2 hb3 hb4 hgn HX2 HX3 cn cx ct
    go_wp2_with (refine wpList_load_mid rfl 38 (.tmp 24) rfl w.heap.size 0 rfl (key.map b8) _ (HBx4.out.keyC HK.out) Try.underlying38 rfl (by rw [List.length_map, HK.out]; exact infoKeyS) ?_)
    refine (HP.out w4 gn kn gc kc gt kt Hn4.out.own.rd Hc4.out.own.rd Ht4.out.own.rd (by omega) (by omega)).mono ?_
    rintro e w5 ⟨v5, rfl, ho5, hb5⟩
    obtain ⟨X5, c5, rfl, hr5, -, -, -⟩ := ho5.shape' (n := X.length) rfl
    have hz5 : w4.heap.size ≤ w5.heap.size := hb5.size
    have HBx5 := Lib.hid (HBx4.out.below hb5 (by omega))
    have HB5 := Lib.hid (HB4.out.trans (hb5.mono (by omega)) : Below w.heap.size w w5)
    have Hn5 := Lib.hid (Hn4.out.below hb5 (Nat.le_refl _))
    have Hc5 := Lib.hid (Hc4.out.below hb5 (Nat.le_refl _))
    have Ht5 := Lib.hid (Ht4.out.below hb5 (Nat.le_refl _))
    have Ho5 := Lib.hid ho5
    have cn := HBx5.out.nonceC HK.out
    have cx := HBx5.out.ctxC HK.out
    have ct := HBx5.out.textC HK.out
    clear ho5 hb5 hr5 HP HBx4 HB4 Hn4 Hc4 Ht4 HX4
    go_wp2_with (refine wpList_load_mid rfl 38 (.tmp 33) rfl w.heap.size 0 rfl (key.map b8) _ (HBx5.out.keyC HK.out) Try.underlying38 rfl (by rw [List.length_map, HK.out]; exact infoKeyS) ?_)
    refine (HQ.out w5 HB5.out).mono ?_
    rintro e w6 ⟨v6, rfl, ho6, hb6⟩
    obtain ⟨X6, c6, rfl, hr6, -, -, -⟩ := ho6.shape' (n := X.length) rfl
    have hz6 : w5.heap.size ≤ w6.heap.size := hb6.size
    have HBx6 := Lib.hid (HBx5.out.below hb6 (by omega))
    have HB6 := Lib.hid (HB5.out.trans (hb6.mono (by omega)) : Below w.heap.size w w6)
    have Hn6 := Lib.hid (Hn5.out.below hb6 (Nat.le_refl _))
    have Hc6 := Lib.hid (Hc5.out.below hb6 (Nat.le_refl _))
    have Ht6 := Lib.hid (Ht5.out.below hb6 (Nat.le_refl _))
    have Hlt5 := Lib.hid Ho5.out.lt
    have HO6 := Lib.hid (Ho5.out.below hb6 (Nat.le_refl _))
    have HR6 := Lib.hid hr6
    clear cn cx ct ho6 hb6 hr6 HQ HBx5 HB5 Hn5 Hc5 Ht5 Ho5
    have cn := HBx6.out.nonceC HK.out
    have cx := HBx6.out.ctxC HK.out
    have ct := HBx6.out.textC HK.out
    go_wp2_with fail
    refine (same_any c5 c6 HO6.out.rd HR6.out rfl rfl).mono ?_
    rintro e w' ⟨rfl, rfl⟩
    rw [beq_self_eq_true]
    go_wp2_with fail
    refine (num_any bad _).mono ?_
    rintro e w' ⟨rfl, rfl⟩
    go_wp2_with fail
    refine (kept_any c Hn6.out (HR.out.below HB6.out) HN.out rfl zn).mono ?_
    rintro e w' ⟨rfl, rfl⟩
    go_wp2_with fail
    refine (kept_any cc Hc6.out (HC.out.below HB6.out) HL.out rfl zl).mono ?_
    rintro e w' ⟨rfl, rfl⟩
    go_wp2_with fail
    refine (kept_any d Ht6.out (HT.out.below HB6.out) HM.out rfl zm).mono ?_
    rintro e w' ⟨rfl, rfl⟩
    go_wp2_with fail
    refine (apart_any [(X5, X.length, c5), (some ⟨gn, 0, none⟩, n, kn), (some ⟨gc, 0, none⟩, l, kc), (some ⟨gt, 0, none⟩, m, kt)] (fun i => [X.length, n, l, m].getD i 0) _ _ _ _ w.heap.size rfl
      (Own.lit sl w6 _ _ [(X5, X.length, c5), (some ⟨gn, 0, none⟩, n, kn), (some ⟨gc, 0, none⟩, l, kc), (some ⟨gt, 0, none⟩, m, kt)] (by omega) (by simp [maxLen])) (fun i x hx => ?_) (lone_pw4 ?_) (by simp; omega) (by simp) ?_).mono ?_
    · match i, hx with
      | 0, hx => cases hx; exact ⟨_, (HO6.out.less (by omega)).alloc _, rfl⟩
      | 1, hx => cases hx; exact ⟨_, Hn6.out.own.alloc _, HN.out⟩
      | 2, hx => cases hx; exact ⟨_, Hc6.out.own.alloc _, HL.out⟩
      | 3, hx => cases hx; exact ⟨_, Ht6.out.own.alloc _, HM.out⟩
      | i + 4, hx => simp at hx
    · simp only [List.pairwise_cons, List.mem_cons, List.not_mem_nil, or_false, forall_eq_or_imp, forall_eq, List.Pairwise.nil, and_true, false_implies, implies_true]
      refine ⟨⟨fun g hg => ?_, fun g hg => ?_, fun g hg => ?_⟩, ⟨fun g hg => ?_, fun g hg => ?_⟩, fun g hg => ?_⟩
      · have := Hlt5.out g hg
        simp only [sl, Value.ownBlock, Option.some.injEq, ne_eq]; omega
      · have := Hlt5.out g hg
        simp only [sl, Value.ownBlock, Option.some.injEq, ne_eq]; omega
      · have := Hlt5.out g hg
        simp only [sl, Value.ownBlock, Option.some.injEq, ne_eq]; omega
      all_goals (simp only [sl, Value.ownBlock, Option.some.injEq, ne_eq] at hg ⊢; omega)
    · intro i
      match i with
      | 0 => simp; omega
      | 1 => simp; omega
      | 2 => simp; omega
      | 3 => simp; omega
      | i + 4 => simp
    rintro e w7 ⟨rfl, hb7⟩
    go_wp2
    go_ret
    exact ⟨rfl, Below.trans (HB6.out.alloc (by omega) _) hb7⟩
set_option maxRecDepth 100000 in
set_option maxHeartbeats 1000000 in
theorem aeadOpens_walk (key : List (BitVec 8)) (A : Option Addr) (n c : Nat) (nonce : List (BitVec 8)) (C : Option Addr) (l cc : Nat) (ctx : List (BitVec 8)) (T : Option Addr) (m d : Nat) (text : List (BitVec 8)) (w : World) (hk : key.length = 32)
    (hr : Rd b8 w w.heap.size A nonce) (hn : nonce.length = n) (hnc : n ≤ c) (hc : c ≤ maxLen) (hrc : Rd b8 w w.heap.size C ctx) (hl : ctx.length = l) (hlc : l ≤ cc) (hcc : cc ≤ maxLen) (ht : Rd b8 w w.heap.size T text) (hm : text.length = m) (hmd : m ≤ d) (hd : d ≤ maxLen)
    (zn : n ≤ 140737488351232) (zl : l ≤ 140737488351232) (zm : m ≤ 140737488351232) :
    Calls Try.prog 11 #[.agg (sealedC key A n c C l cc T m d).toArray] w fun e w' => e = .returned (.bool true) ∧ Below w.heap.size w w' := by
  have HK := Lib.hid hk
  have HN := Lib.hid hn
  have HL := Lib.hid hl
  have HM := Lib.hid hm
  have HR := Lib.hid hr
  have HC := Lib.hid hrc
  have HT := Lib.hid ht
  have hmx : m ≤ maxLen := by omega
  have hlg := fun w' => large04_any key A n c C l cc T m d w' hk
  have HS := Lib.hid (SdBox.new w key A n c C l cc T m d)
  have hb0 : Below w.heap.size w (w.alloc (.cells (sealedC key A n c C l cc T m d).toArray 65)) := by (repeat' (first | assumption | exact Below.refl _ _ | refine Below.drew ?_ | refine Below.alloc ?_ ?_ _ | omega | (simp; done) | (simp; omega)))
  have hz0 : (w.alloc (.cells (sealedC key A n c C l cc T m d).toArray 65)).heap.size = w.heap.size + 1 := by simp
  obtain ⟨bad, hbad⟩ : ∃ bad, bad = openBad key nonce ctx text := ⟨_, rfl⟩
  obtain ⟨X, hX⟩ : ∃ X, X = openV key nonce ctx text := ⟨_, rfl⟩
  have hXl : X.length ≤ 2000000 := by rw [hX]; exact openV_le _ _ _ _
  have HP := Lib.hid (show ∀ (W' : World) (gn kn gc kc gt kt : Nat), Rd b8 W' W'.heap.size (some ⟨gn, 0, none⟩) nonce → Rd b8 W' W'.heap.size (some ⟨gc, 0, none⟩) ctx → Rd b8 W' W'.heap.size (some ⟨gt, 0, none⟩) text → n ≤ kn → m ≤ kt → Calls Try.prog 37 #[.agg (key.map b8).toArray, .slice (some ⟨gn, 0, none⟩) n kn, .slice (some ⟨gc, 0, none⟩) l kc, .slice (some ⟨gt, 0, none⟩) m kt] W' fun e w' => ∃ v, e = .returned (.tuple #[v, errV bad]) ∧ Own b8 w' W'.heap.size 5 v X ∧ Below W'.heap.size W' w' from fun W' gn kn gc kc gt kt r1 r2 r3 h1 h2 => by
    have h := open_any W' key HK.out _ _ _ n kn l kc m kt _ _ _ nonce ctx text r1 (Nat.le_refl _) HN.out h1 r2 (Nat.le_refl _) HL.out r3 (Nat.le_refl _) HM.out h2 hmx
    rw [arrV_mk, ← hbad, ← hX] at h
    exact h)
  have HQ := Lib.hid (show ∀ (W' : World), Below w.heap.size w W' → Calls Try.prog 38 #[.agg (key.map b8).toArray, .slice A n c, .slice C l cc, .slice T m d] W' fun e w' => ∃ v, e = .returned (.tuple #[v, .int .i64 (bad : Int)]) ∧ Own b8 w' W'.heap.size 5 v X ∧ Below W'.heap.size W' w' from fun W' hb => by
    have h := refOpen_any W' key HK.out A C T n c l cc m d _ _ _ nonce ctx text (HR.out.below hb) hb.size HN.out hnc (HC.out.below hb) hb.size HL.out (HT.out.below hb) hb.size HM.out hmd hmx
    rw [arrV_mk, ← hbad, ← hX] at h
    exact h)
  by_cases hlarge : largeP n l m = true
  · rw [hlarge] at hlg
    have HLg := Lib.hid hlg
    clear hlg hlarge hk hn hm hl hr hrc ht HP HQ hX hbad hXl
    go_enter Try.func11, Try.ntmps11
    go_wp2_with fail
    generalize World.alloc w _ = W0 at HS hb0 hz0 ⊢
    have HB0 := Lib.hid hb0
    clear hb0
    refine (alive04_any _).mono ?_
    rintro e wa ⟨rfl, hba⟩
    have hsa := hba.size
    have HSa := Lib.hid (HS.out.below hba (by omega))
    have HBa := Lib.hid (HB0.out.trans (hba.mono (by omega)))
    clear hba HS HB0
    go_wp2_with (refine wpList_load_mid rfl 65 (.tmp 1) rfl w.heap.size 0 rfl (sealedC key A n c C l cc T m d) _ HSa.out.all Try.underlying65 rfl (by rw [sealedC_len HK.out]; exact infoSealed) ?_)
    refine (HLg.out wa).mono ?_
    rintro e w1 ⟨rfl, hb1⟩
    go_wp2_with fail
    go_ret
    exact ⟨rfl, HBa.out.trans (hb1.mono (by omega))⟩
  · rw [Bool.not_eq_true] at hlarge
    rw [hlarge] at hlg
    have HLg := Lib.hid hlg
    clear hlg hlarge hk hn hm hl hr hrc ht hX hbad
    go_enter Try.func11, Try.ntmps11
    go_wp2_with fail
    generalize World.alloc w _ = W0 at HS hb0 hz0 ⊢
    have HB0 := Lib.hid hb0
    clear hb0
    refine (alive04_any _).mono ?_
    rintro e wa ⟨rfl, hba⟩
    have hsa := hba.size
    have HSa := Lib.hid (HS.out.below hba (by omega))
    have HBa := Lib.hid (HB0.out.trans (hba.mono (by omega)))
    clear hba HS HB0
    go_wp2_with (refine wpList_load_mid rfl 65 (.tmp 1) rfl w.heap.size 0 rfl (sealedC key A n c C l cc T m d) _ HSa.out.all Try.underlying65 rfl (by rw [sealedC_len HK.out]; exact infoSealed) ?_)
    refine (HLg.out wa).mono ?_
    rintro e w1 ⟨rfl, hb1⟩
    have HBx := Lib.hid (HSa.out.below hb1 (by omega))
    have HB1 := Lib.hid (HBa.out.trans (hb1.mono (by omega)) : Below w.heap.size w w1)
    have hz1 := hb1.size
    have hw1 : w.heap.size < w1.heap.size := by omega
    have CN := Lib.hid (HBx.out.nonceC HK.out)
    have CC := Lib.hid (HBx.out.ctxC HK.out)
    have CT := Lib.hid (HBx.out.textC HK.out)
    clear hb1 HLg HBa HSa
    have HKeep := Lib.hid (show ∀ W', Below w1.heap.size w1 W' → W'.cell? ⟨w.heap.size, 32, none⟩ = some (.slice A n c) ∧ W'.cell? ⟨w.heap.size, 33, none⟩ = some (.slice C l cc) ∧ W'.cell? ⟨w.heap.size, 34, none⟩ = some (.slice T m d) from fun W' hb => ⟨(HBx.out.below hb hw1).nonceC HK.out, (HBx.out.below hb hw1).ctxC HK.out, (HBx.out.below hb hw1).textC HK.out⟩)
    have cn := CN.out
    have cx := CC.out
    have ct := CT.out
    have tok1 : True := trivial
    have tok2 : True := trivial
    have tok3 : True := trivial
    go_wp2_with fail
    go_region_held3 (fun w' => w'.cell? ⟨w.heap.size, 32, none⟩ = some (.slice A n c) ∧ w'.cell? ⟨w.heap.size, 33, none⟩ = some (.slice C l cc) ∧ w'.cell? ⟨w.heap.size, 34, none⟩ = some (.slice T m d))
      (first
        | exact HKeep.out _ HX4.out
        | exact HKeep.out _ HX3.out
        | exact HKeep.out _ HX2.out
        | go_keep)
      (first
        | (go_simp; have _t := tok1; clear _t tok1; refine (copy_any c (HR.out.below HB1.out).drew (by show w.heap.size ≤ w1.heap.size; omega) HN.out zn).mono ?_; rintro e w2 ⟨v2, rfl, hc2, hb2⟩; have HX2 := Lib.hid (show Below w1.heap.size w1 w2 from (Below.refl _ w1).drew.trans hb2); have hz2 := HX2.out.size)
        | (go_simp; have _t := tok2; clear _t tok2; refine (copy_any cc (HC.out.below (HB1.out.trans (HX2.out.mono (by omega)))) (by omega) HL.out zl).mono ?_; rintro e w3 ⟨v3, rfl, hc3, hb3⟩; have HX3 := Lib.hid (show Below w1.heap.size w1 w3 from HX2.out.trans (hb3.mono hz2)); have hz3 : w2.heap.size ≤ w3.heap.size := hb3.size)
        | (go_simp; have _t := tok3; clear _t tok3; refine (copy_any d (HT.out.below (HB1.out.trans (HX3.out.mono (by omega)))) (by omega) HM.out zm).mono ?_; rintro e w4 ⟨v4, rfl, hc4, hb4⟩; have HX4 := Lib.hid (show Below w1.heap.size w1 w4 from HX3.out.trans (hb4.mono (by omega))); have hz4 : w3.heap.size ≤ w4.heap.size := hb4.size))
    obtain ⟨gn, kn, rfl, hgn, hgnl, hkn, -⟩ := hc2.shape' HN.out
    obtain ⟨gc, kc, rfl, hgc, hgcl, hkc, -⟩ := hc3.shape' HL.out
    obtain ⟨gt, kt, rfl, hgt, hgtl, hkt, -⟩ := hc4.shape' HM.out
    have hgn' : w1.heap.size ≤ gn := hgn
    have HB4 := Lib.hid (HB1.out.trans (HX4.out.mono (by omega)) : Below w.heap.size w w4)
    have HBx4 := Lib.hid (HBx.out.below HX4.out hw1)
    have Hn4 := Lib.hid (((hc2.less (B' := w.heap.size) (by show w.heap.size ≤ w1.heap.size; omega)).below hb3 (Nat.le_refl _)).below hb4 (Nat.le_refl _))
    have Hc4 := Lib.hid ((hc3.less (B' := w.heap.size) (by omega)).below hb4 (Nat.le_refl _))
    have Ht4 := Lib.hid (hc4.less (B' := w.heap.size) (by omega))
    clear CN CC CT hc2 hc3 hc4 hb2 hb3 hb4 hgn HX2 HX3 cn cx ct
    go_wp2_with (refine wpList_load_mid rfl 38 (.tmp 24) rfl w.heap.size 0 rfl (key.map b8) _ (HBx4.out.keyC HK.out) Try.underlying38 rfl (by rw [List.length_map, HK.out]; exact infoKeyS) ?_)
    refine (HP.out w4 gn kn gc kc gt kt Hn4.out.own.rd Hc4.out.own.rd Ht4.out.own.rd (by omega) (by omega)).mono ?_
    rintro e w5 ⟨v5, rfl, ho5, hb5⟩
    obtain ⟨X5, c5, rfl, hr5, -, -, -⟩ := ho5.shape' (n := X.length) rfl
    have hz5 : w4.heap.size ≤ w5.heap.size := hb5.size
    have HBx5 := Lib.hid (HBx4.out.below hb5 (by omega))
    have HB5 := Lib.hid (HB4.out.trans (hb5.mono (by omega)) : Below w.heap.size w w5)
    have Hn5 := Lib.hid (Hn4.out.below hb5 (Nat.le_refl _))
    have Hc5 := Lib.hid (Hc4.out.below hb5 (Nat.le_refl _))
    have Ht5 := Lib.hid (Ht4.out.below hb5 (Nat.le_refl _))
    have Ho5 := Lib.hid ho5
    have cn := HBx5.out.nonceC HK.out
    have cx := HBx5.out.ctxC HK.out
    have ct := HBx5.out.textC HK.out
    clear ho5 hb5 hr5 HP HBx4 HB4 Hn4 Hc4 Ht4 HX4
    go_wp2_with (refine wpList_load_mid rfl 38 (.tmp 33) rfl w.heap.size 0 rfl (key.map b8) _ (HBx5.out.keyC HK.out) Try.underlying38 rfl (by rw [List.length_map, HK.out]; exact infoKeyS) ?_)
    refine (HQ.out w5 HB5.out).mono ?_
    rintro e w6 ⟨v6, rfl, ho6, hb6⟩
    obtain ⟨X6, c6, rfl, hr6, -, -, -⟩ := ho6.shape' (n := X.length) rfl
    have hz6 : w5.heap.size ≤ w6.heap.size := hb6.size
    have HBx6 := Lib.hid (HBx5.out.below hb6 (by omega))
    have HB6 := Lib.hid (HB5.out.trans (hb6.mono (by omega)) : Below w.heap.size w w6)
    have Hn6 := Lib.hid (Hn5.out.below hb6 (Nat.le_refl _))
    have Hc6 := Lib.hid (Hc5.out.below hb6 (Nat.le_refl _))
    have Ht6 := Lib.hid (Ht5.out.below hb6 (Nat.le_refl _))
    have Hlt5 := Lib.hid Ho5.out.lt
    have HO6 := Lib.hid (Ho5.out.below hb6 (Nat.le_refl _))
    have HR6 := Lib.hid hr6
    clear cn cx ct ho6 hb6 hr6 HQ HBx5 HB5 Hn5 Hc5 Ht5 Ho5
    have cn := HBx6.out.nonceC HK.out
    have cx := HBx6.out.ctxC HK.out
    have ct := HBx6.out.textC HK.out
    go_wp2_with fail
    refine (same_any c5 c6 HO6.out.rd HR6.out rfl rfl).mono ?_
    rintro e w' ⟨rfl, rfl⟩
    rw [beq_self_eq_true]
    go_wp2_with fail
    refine (num_any bad _).mono ?_
    rintro e w' ⟨rfl, rfl⟩
    go_wp2_with fail
    refine (kept_any c Hn6.out (HR.out.below HB6.out) HN.out rfl zn).mono ?_
    rintro e w' ⟨rfl, rfl⟩
    go_wp2_with fail
    refine (kept_any cc Hc6.out (HC.out.below HB6.out) HL.out rfl zl).mono ?_
    rintro e w' ⟨rfl, rfl⟩
    go_wp2_with fail
    refine (kept_any d Ht6.out (HT.out.below HB6.out) HM.out rfl zm).mono ?_
    rintro e w' ⟨rfl, rfl⟩
    go_wp2_with fail
    refine (apart_any [(X5, X.length, c5), (some ⟨gn, 0, none⟩, n, kn), (some ⟨gc, 0, none⟩, l, kc), (some ⟨gt, 0, none⟩, m, kt)] (fun i => [X.length, n, l, m].getD i 0) _ _ _ _ w.heap.size rfl
      (Own.lit sl w6 _ _ [(X5, X.length, c5), (some ⟨gn, 0, none⟩, n, kn), (some ⟨gc, 0, none⟩, l, kc), (some ⟨gt, 0, none⟩, m, kt)] (by omega) (by simp [maxLen])) (fun i x hx => ?_) (lone_pw4 ?_) (by simp; omega) (by simp) ?_).mono ?_
    · match i, hx with
      | 0, hx => cases hx; exact ⟨_, (HO6.out.less (by omega)).alloc _, rfl⟩
      | 1, hx => cases hx; exact ⟨_, Hn6.out.own.alloc _, HN.out⟩
      | 2, hx => cases hx; exact ⟨_, Hc6.out.own.alloc _, HL.out⟩
      | 3, hx => cases hx; exact ⟨_, Ht6.out.own.alloc _, HM.out⟩
      | i + 4, hx => simp at hx
    · simp only [List.pairwise_cons, List.mem_cons, List.not_mem_nil, or_false, forall_eq_or_imp, forall_eq, List.Pairwise.nil, and_true, false_implies, implies_true]
      refine ⟨⟨fun g hg => ?_, fun g hg => ?_, fun g hg => ?_⟩, ⟨fun g hg => ?_, fun g hg => ?_⟩, fun g hg => ?_⟩
      · have := Hlt5.out g hg
        simp only [sl, Value.ownBlock, Option.some.injEq, ne_eq]; omega
      · have := Hlt5.out g hg
        simp only [sl, Value.ownBlock, Option.some.injEq, ne_eq]; omega
      · have := Hlt5.out g hg
        simp only [sl, Value.ownBlock, Option.some.injEq, ne_eq]; omega
      all_goals (simp only [sl, Value.ownBlock, Option.some.injEq, ne_eq] at hg ⊢; omega)
    · intro i
      match i with
      | 0 => simp; omega
      | 1 => simp; omega
      | 2 => simp; omega
      | 3 => simp; omega
      | i + 4 => simp
    rintro e w7 ⟨rfl, hb7⟩
    go_wp2
    go_ret
    exact ⟨rfl, Below.trans (HB6.out.alloc (by omega) _) hb7⟩
end Go.Proofs.Ytgcpjmmiciehmaa
