/- ChachaMixes, the walk: the program's Mix and the document's give the same bytes and the same error's number; the copies are kept, all lists lie apart. -/
import Derived.Test.YtgcpjmmiciehmaaMix
import Derived.Test.YtgcpjmmiciehmaaStream
import Derived.Test.YtgcpjmmiciehmaaCopy
import Derived.Test.YtgcpjmmiciehmaaApart
import Derived.Test.YtgcpjmmiciehmaaErr
import Derived.Deep.RegionHeld3
namespace Go.Proofs.Ytgcpjmmiciehmaa
open Go.RowKit
set_option linter.unusedVariables false
set_option linter.unusedSimpArgs false

/-- lists in rows of their own -/
theorem lone_pw {vs : List Sl} (h : vs.Pairwise (fun x y => ∀ g, (sl x).ownBlock = some g → (sl y).ownBlock ≠ some g)) : Lone vs := by
  intro i j x y hx hy hij g hg
  rcases Nat.lt_or_gt_of_ne hij with hlt | hlt
  · exact (List.pairwise_iff_getElem.1 h i j (List.getElem?_eq_some_iff.1 hx).1 (List.getElem?_eq_some_iff.1 hy).1 hlt) g (by rw [(List.getElem?_eq_some_iff.1 hx).2]; exact hg) |> (fun h2 => by rwa [(List.getElem?_eq_some_iff.1 hy).2] at h2)
  · intro hg2
    exact (List.pairwise_iff_getElem.1 h j i (List.getElem?_eq_some_iff.1 hy).1 (List.getElem?_eq_some_iff.1 hx).1 hlt) g (by rw [(List.getElem?_eq_some_iff.1 hy).2]; exact hg2) (by rw [(List.getElem?_eq_some_iff.1 hx).2]; exact hg)
theorem mixV_len' (key nonce : List (BitVec 8)) (number : Int) (text : List (BitVec 8)) : (mixV key nonce number text).length ≤ text.length := by
  unfold mixV; split
  · rw [mixTo_len]; exact Nat.le_refl _
  · simp
set_option maxRecDepth 100000 in
set_option maxHeartbeats 4000000 in
theorem mixes_walk (key : List (BitVec 8)) (A : Option Addr) (n c : Nat) (nonce : List (BitVec 8)) (number : Int) (T : Option Addr) (m d : Nat) (text : List (BitVec 8)) (w : World) (hk : key.length = 32)
    (hr : Rd b8 w w.heap.size A nonce) (hn : nonce.length = n) (hnc : n ≤ c) (hc : c ≤ maxLen) (wf : (Lit.int .i64 number).wf = true) (ht : Rd b8 w w.heap.size T text) (hm : text.length = m) (hmd : m ≤ d) (hd : d ≤ maxLen) :
    Calls Try.prog 6 #[.agg (streamC key A n c number T m d).toArray] w fun e w' => e = .returned (.bool true) ∧ Below w.heap.size w w' := by
  have hq := bounds_i64 wf
  have HK := Lib.hid hk
  have HN := Lib.hid hn
  have HM := Lib.hid hm
  have HR := Lib.hid hr
  have HT := Lib.hid ht
  have hlg := fun w' => large03_any key A n c number T m d w' hk
  have HS := Lib.hid (SBox.new w key A n c number T m d)
  have hb0 : Below w.heap.size w (w.alloc (.cells (streamC key A n c number T m d).toArray 40)) := by (repeat' (first | assumption | exact Below.refl _ _ | refine Below.drew ?_ | refine Below.alloc ?_ ?_ _ | omega | (simp; done) | (simp; omega)))
  have hz0 : (w.alloc (.cells (streamC key A n c number T m d).toArray 40)).heap.size = w.heap.size + 1 := by simp
  by_cases hlarge : (decide ((1000 : Int) < n) || decide ((1000 : Int) < m)) = true
  · rw [hlarge] at hlg
    have HL := Lib.hid hlg
    clear hlg hlarge hk hn hm hr ht hq wf
    go_enter Try.func6, Try.ntmps6
    go_wp2_with fail
    generalize World.alloc w _ = W0 at HS hb0 hz0 ⊢
    have HB0 := Lib.hid hb0
    clear hb0
    refine (alive03_any _).mono ?_
    rintro e w0 ⟨rfl, rfl⟩
    go_wp2_with (refine wpList_load_mid rfl 40 (.tmp 1) rfl w.heap.size 0 rfl (streamC key A n c number T m d) _ HS.out.all Try.underlying40 rfl (by rw [streamC_len HK.out]; exact infoStream) ?_)
    refine (HL.out W0).mono ?_
    rintro e w1 ⟨rfl, hb1⟩
    go_wp2_with fail
    go_ret
    exact ⟨rfl, HB0.out.trans (hb1.mono (by omega))⟩
  · rw [Bool.not_eq_true] at hlarge
    rw [hlarge] at hlg
    have hn1 : n ≤ 1000 := by simp at hlarge; omega
    have hm1 : m ≤ 1000 := by simp at hlarge; omega
    have HL := Lib.hid hlg
    clear hlg hlarge hk hn hm hr ht wf
    go_enter Try.func6, Try.ntmps6
    go_wp2_with fail
    generalize World.alloc w _ = W0 at HS hb0 hz0 ⊢
    have HB0 := Lib.hid hb0
    clear hb0
    refine (alive03_any _).mono ?_
    rintro e w0 ⟨rfl, rfl⟩
    go_wp2_with (refine wpList_load_mid rfl 40 (.tmp 1) rfl w.heap.size 0 rfl (streamC key A n c number T m d) _ HS.out.all Try.underlying40 rfl (by rw [streamC_len HK.out]; exact infoStream) ?_)
    refine (HL.out W0).mono ?_
    rintro e w1 ⟨rfl, hb1⟩
    have HBx := Lib.hid (HS.out.below hb1 (by omega))
    have HB1 := Lib.hid (HB0.out.trans (hb1.mono (by omega)) : Below w.heap.size w w1)
    have hz1 := hb1.size
    have CN := Lib.hid (HBx.out.nonceC HK.out)
    have CT := Lib.hid (HBx.out.textC HK.out)
    clear hb1 HL HB0 HS
    have cn := CN.out
    have ct := CT.out
    have tok1 : True := trivial
    have tok2 : True := trivial
    go_wp2_with fail
    go_region_held3 (fun w' => w'.cell? ⟨w.heap.size, 32, none⟩ = some (.slice A n c) ∧ w'.cell? ⟨w.heap.size, 34, none⟩ = some (.slice T m d))
      (first
        | exact ⟨(hb3.cell (by show w.heap.size < w2.heap.size; omega)).trans ((hb2.cell (by show w.heap.size < w1.heap.size; omega)).trans CN.out), (hb3.cell (by show w.heap.size < w2.heap.size; omega)).trans ((hb2.cell (by show w.heap.size < w1.heap.size; omega)).trans CT.out)⟩
        | exact ⟨(hb2.cell (by show w.heap.size < w1.heap.size; omega)).trans CN.out, (hb2.cell (by show w.heap.size < w1.heap.size; omega)).trans CT.out⟩
        | go_keep)
      (first
        | (go_simp; have _t := tok1; clear tok1; refine (copy_any d (HT.out.below HB1.out).drew (by show w.heap.size ≤ w1.heap.size; omega) HM.out (by omega)).mono ?_; rintro e w2 ⟨v2, rfl, hc2, hb2⟩; have hz2 : w1.heap.size ≤ w2.heap.size := hb2.size)
        | (go_simp; have _t := tok2; clear tok2; refine (copy_any c ((HR.out.below HB1.out).drew.below (hb2.mono (by show w.heap.size ≤ w1.heap.size; omega))) (by show w.heap.size ≤ w2.heap.size; have := hb2.size; simp at this; omega) HN.out (by omega)).mono ?_; rintro e w3 ⟨v3, rfl, hc3, hb3⟩; have hz3 : w2.heap.size ≤ w3.heap.size := hb3.size))
    obtain ⟨g2, c2, rfl, hg2a, hg2b, hc2c, -⟩ := hc2.shape' HM.out
    obtain ⟨g3, c3, rfl, hg3a, hg3b, hc3c, -⟩ := hc3.shape' HN.out
    have hz2' : w.heap.size < w2.heap.size := by omega
    have hb12 : Below w1.heap.size w1 w2 := (Below.refl _ w1).drew.trans hb2
    have hb13 : Below w1.heap.size w1 w3 := hb12.trans (hb3.mono hz2)
    have HB3 := Lib.hid (HB1.out.trans (hb13.mono (by omega)) : Below w.heap.size w w3)
    have HBx3 := Lib.hid (HBx.out.below hb13 (by omega))
    have hg2a' : w1.heap.size ≤ g2 := hg2a
    have Hc2 := Lib.hid ((hc2.less (B' := w.heap.size) (by show w.heap.size ≤ w1.heap.size; omega)).below hb3 (Nat.le_refl _))
    have Hc3 := Lib.hid (hc3.less (B' := w.heap.size) (by omega))
    have cn := HBx3.out.nonceC HK.out
    have ct := HBx3.out.textC HK.out
    have cq := HBx3.out.numC HK.out
    clear CN CT hc2 hc3 hb2 hb3 hb12 hb13 hg2a
    obtain ⟨bad, hbad⟩ : ∃ bad, bad = mixBad n m number := ⟨_, rfl⟩
    obtain ⟨X, hX⟩ : ∃ X, X = mixV key nonce number text := ⟨_, rfl⟩
    have hXl : X.length ≤ m := by rw [hX, ← HM.out]; exact mixV_len' _ _ _ _
    have hmix := mix_any key (some ⟨g3, 0, none⟩) n c3 w3.heap.size nonce number (some ⟨g2, 0, none⟩) m c2 w3.heap.size text w3 HK.out Hc3.out.own.rd (Nat.le_refl _) HN.out (by omega) Hc2.out.own.rd (Nat.le_refl _) HM.out (by omega) hq.1 (by omega)
    rw [arrV_mk, ← hbad, ← hX] at hmix
    have HMix := Lib.hid hmix
    clear hmix
    go_wp2_with (refine wpList_load_mid rfl 38 (.tmp 20) rfl w.heap.size 0 rfl (key.map b8) _ (HBx3.out.keyC HK.out) Try.underlying38 rfl (by rw [List.length_map, HK.out]; exact infoKeyS) ?_)
    refine HMix.out.mono ?_
    rintro e w4 ⟨v4, rfl, ho4, hb4⟩
    obtain ⟨X4, c4, rfl, hr4, -, -, -⟩ := ho4.shape' (n := X.length) rfl
    have hz4 : w3.heap.size ≤ w4.heap.size := hb4.size
    have HBx4 := Lib.hid (HBx3.out.below hb4 (by omega))
    have HB4 := Lib.hid (HB3.out.trans (hb4.mono (by omega)) : Below w.heap.size w w4)
    have href := refMix_any key A n c w.heap.size nonce number T m d w.heap.size text w4 HK.out (HR.out.below HB4.out) (by omega) HN.out hnc (HT.out.below HB4.out) (by omega) HM.out (by omega)
    rw [arrV_mk, ← hbad, ← hX] at href
    have HRef := Lib.hid href
    have Hc2' := Lib.hid (Hc2.out.below hb4 (Nat.le_refl _))
    have Hc3' := Lib.hid (Hc3.out.below hb4 (Nat.le_refl _))
    have Ho4 := Lib.hid ho4
    have cn := HBx4.out.nonceC HK.out
    have ct := HBx4.out.textC HK.out
    have cq := HBx4.out.numC HK.out
    clear href hb4 hr4 ho4 HMix Hc2 Hc3 HBx3 HB3 hbad hX
    go_wp2_with (refine wpList_load_mid rfl 38 (.tmp 30) rfl w.heap.size 0 rfl (key.map b8) _ (HBx4.out.keyC HK.out) Try.underlying38 rfl (by rw [List.length_map, HK.out]; exact infoKeyS) ?_)
    refine HRef.out.mono ?_
    rintro e w5 ⟨v5, rfl, ho5, hb5⟩
    obtain ⟨X5, c5, rfl, hr5, -, -, -⟩ := ho5.shape' (n := X.length) rfl
    have hz5 : w4.heap.size ≤ w5.heap.size := hb5.size
    have HBx5 := Lib.hid (HBx4.out.below hb5 (by omega))
    have HB5 := Lib.hid (HB4.out.trans (hb5.mono (by omega)) : Below w.heap.size w w5)
    have Hc2 := Lib.hid (Hc2'.out.below hb5 (Nat.le_refl _))
    have Hc3 := Lib.hid (Hc3'.out.below hb5 (Nat.le_refl _))
    have Hlt4 := Lib.hid Ho4.out.lt
    have HO4 := Lib.hid (Ho4.out.below hb5 (Nat.le_refl _))
    have HR5 := Lib.hid hr5
    have cn := HBx5.out.nonceC HK.out
    have ct := HBx5.out.textC HK.out
    clear ho5 hb5 hr5 HRef Hc2' Hc3' HBx4 HB4 Ho4
    go_wp2_with fail
    refine (same_any c4 c5 HO4.out.rd HR5.out rfl rfl).mono ?_
    rintro e w6 ⟨rfl, rfl⟩
    rw [beq_self_eq_true]
    go_wp2_with fail
    refine (num_any bad _).mono ?_
    rintro e w6 ⟨rfl, rfl⟩
    go_wp2_with fail
    refine (kept_any d Hc2.out (HT.out.below HB5.out) HM.out rfl (by omega)).mono ?_
    rintro e w6 ⟨rfl, rfl⟩
    go_wp2_with fail
    refine (kept_any c Hc3.out (HR.out.below HB5.out) HN.out rfl (by omega)).mono ?_
    rintro e w6 ⟨rfl, rfl⟩
    go_wp2_with fail
    refine (apart_any [(X4, X.length, c4), (some ⟨g2, 0, none⟩, m, c2), (some ⟨g3, 0, none⟩, n, c3)] (fun i => [X.length, m, n].getD i 0) _ _ _ _ w.heap.size rfl
      (Own.lit sl w5 _ _ [(X4, X.length, c4), (some ⟨g2, 0, none⟩, m, c2), (some ⟨g3, 0, none⟩, n, c3)] (by omega) (by simp [maxLen])) (fun i x hx => ?_) (lone_pw ?_) (by simp; omega) (by simp) ?_).mono ?_
    · match i, hx with
      | 0, hx => cases hx; exact ⟨_, (HO4.out.less (by omega)).alloc _, rfl⟩
      | 1, hx => cases hx; exact ⟨_, Hc2.out.own.alloc _, HM.out⟩
      | 2, hx => cases hx; exact ⟨_, Hc3.out.own.alloc _, HN.out⟩
      | i + 3, hx => simp at hx
    · simp only [List.pairwise_cons, List.mem_cons, List.not_mem_nil, or_false, forall_eq_or_imp, forall_eq, List.Pairwise.nil, and_true, false_implies, implies_true]
      refine ⟨⟨fun g hg => ?_, fun g hg => ?_⟩, fun g hg => ?_⟩
      · have := Hlt4.out g hg
        simp only [sl, Value.ownBlock, Option.some.injEq, ne_eq]; omega
      · have := Hlt4.out g hg
        simp only [sl, Value.ownBlock, Option.some.injEq, ne_eq]; omega
      · simp only [sl, Value.ownBlock, Option.some.injEq, ne_eq] at hg ⊢; omega
    · intro i
      match i with
      | 0 => simp; omega
      | 1 => simp; omega
      | 2 => simp; omega
      | i + 3 => simp
    rintro e w6 ⟨rfl, hb6⟩
    go_wp2
    go_ret
    exact ⟨rfl, Below.trans (HB5.out.alloc (by omega) _) hb6⟩
end Go.Proofs.Ytgcpjmmiciehmaa
