/- the walk of KdfTag. -/
import Derived.Test.YtgeighnfgniamaaRefTag
import Derived.Test.YtgeighnfgniamaaAlive02
import Derived.Test.YtgeighnfgniamaaCopy
namespace Go.Proofs.Ytgeighnfgniamaa
open Go.RowKit
set_option linter.unusedVariables false
set_option linter.unusedSimpArgs false

theorem arr_one (S : List (BitVec 8)) : ∀ v ∈ S.map b8, v.oneCell' = true := by
  intro v hv; obtain ⟨u, -, rfl⟩ := List.mem_map.1 hv; exact b8_one u
theorem eql_cells (w : World) (Z : List Value) (S : List (BitVec 8)) (hZ : Z = S.map b8) (hl : S.length = 32) : (binOp .eql 26 (.agg Z.toArray) (.agg Z.toArray)).run Try.prog w = .ok (.bool true) w := by
  subst hZ; rw [eql_sum w S S hl hl]; simp
set_option maxRecDepth 100000 in
set_option maxHeartbeats 4000000 in
theorem kdfTag_walk (A1 : Option Addr) (n1 c1 : Nat) (xs : List (BitVec 8)) {W : World} (hr1 : Rd b8 W W.heap.size A1 xs) (hn1 : xs.length = n1) (hc1 : n1 ≤ c1) (hm1 : c1 ≤ maxLen)
    (A2 : Option Addr) (n2 c2 : Nat) (ys : List (BitVec 8)) (hr2 : Rd b8 W W.heap.size A2 ys) (hn2 : ys.length = n2) (hc2 : n2 ≤ c2) (hm2 : c2 ≤ maxLen)
    (A3 : Option Addr) (n3 c3 : Nat) (zs : List (BitVec 8)) (hr3 : Rd b8 W W.heap.size A3 zs) (hn3 : zs.length = n3) (hc3 : n3 ≤ c3) (hm3 : c3 ≤ maxLen) :
    Calls Try.prog 5 #[.slice A1 n1 c1, .slice A2 n2 c2, .slice A3 n3 c3] W fun e w' => e = .returned (.bool true) ∧ Below W.heap.size W w' := by
  obtain ⟨i0, hi0, hz0, hz1, hz2⟩ := info_parts infoU8
  have H1 := Lib.hid hn1
  have H2 := Lib.hid hn2
  have H3 := Lib.hid hn3
  have R1 := Lib.hid hr1
  have R2 := Lib.hid hr2
  have R3 := Lib.hid hr3
  clear hn1 hn2 hn3 hr1 hr2 hr3 hc1 hm1 hc2 hm2 hc3 hm3
  by_cases k1 : (n1 : Int) > 1000
  · go_enter Try.func5, Try.ntmps5
    go_wp2_with (go_at_call 14; refine (alive02_any _).mono ?_; rintro e w1 ⟨rfl, hb1⟩)
    go_ret
    exact ⟨rfl, hb1⟩
  by_cases k2 : (n2 : Int) > 1000
  · go_enter Try.func5, Try.ntmps5
    go_wp2_with (go_at_call 14; refine (alive02_any _).mono ?_; rintro e w1 ⟨rfl, hb1⟩)
    go_ret
    exact ⟨rfl, hb1⟩
  by_cases k3 : (n3 : Int) > 1000
  · go_enter Try.func5, Try.ntmps5
    go_wp2_with (go_at_call 14; refine (alive02_any _).mono ?_; rintro e w1 ⟨rfl, hb1⟩)
    go_ret
    exact ⟨rfl, hb1⟩
  have m1 : n1 ≤ 1000 := by omega
  have m2 : n2 ≤ 1000 := by omega
  have m3 : n3 ≤ 1000 := by omega
  obtain ⟨Z, hZ⟩ : ∃ Z, Z = (tagV xs (ys ++ zs)).map b8 := ⟨_, rfl⟩
  obtain ⟨Y, hY⟩ : ∃ Y, Y = (tagV xs ys).map b8 := ⟨_, rfl⟩
  have hZl : Z.length = 32 := by rw [hZ, List.length_map, tagV_len]
  have hYl : Y.length = 32 := by rw [hY, List.length_map, tagV_len]
  obtain ⟨N, hN⟩ : ∃ N, N = n2 + n3 := ⟨_, rfl⟩
  have hNb : N ≤ 2000 := by omega
  have hNl : N = (ys ++ zs).length := by rw [List.length_append, H2.out, H3.out]; exact hN
  have hez : ∀ w, (binOp .eql 26 (.agg Z.toArray) (.agg Z.toArray)).run Try.prog w = .ok (.bool true) w := fun w => eql_cells w Z _ hZ (tagV_len _ _)
  have hey : ∀ w, (binOp .eql 26 (.agg Y.toArray) (.agg Y.toArray)).run Try.prog w = .ok (.bool true) w := fun w => eql_cells w Y _ hY (tagV_len _ _)
  have hT : ∀ (W' : World) (g2 k2 g3 k3 g4 k4 : Nat), Rd b8 W' W'.heap.size (some ⟨g2, 0, none⟩) xs → Rd b8 W' W'.heap.size (some ⟨g3, 0, none⟩) ys → Rd b8 W' W'.heap.size (some ⟨g4, 0, none⟩) zs → Calls Try.prog 16 #[.slice (some ⟨g2, 0, none⟩) n1 k2, .slice (some ⟨W'.heap.size, 0, none⟩) 2 2] (W'.alloc (.cells #[.slice (some ⟨g3, 0, none⟩) n2 k3, .slice (some ⟨g4, 0, none⟩) n3 k4] 22)) fun e w' => e = .returned (.agg Z.toArray) ∧ Below W'.heap.size W' w' := fun W' g2 k2 g3 k3 g4 k4 r1 r2 r3 => by
    have := tag_two W' W'.heap.size n1 k2 W'.heap.size n2 k3 n3 k4 _ _ _ xs ys zs r1 (Nat.le_refl _) H1.out.symm (by rw [H1.out]; omega) r2 r3 (Nat.le_refl _) H2.out.symm H3.out.symm (by rw [H2.out, H3.out]; omega)
    rwa [arrV_mk, ← hZ] at this
  have hQ1 : ∀ (W' : World) (A' : Option Addr) (c' : Nat), Below W.heap.size W W' → Rd b8 W' W'.heap.size A' (ys ++ zs) → Calls Try.prog 18 #[.slice A1 n1 c1, .slice A' N c'] W' fun e w' => e = .returned (.agg Z.toArray) ∧ Below W'.heap.size W' w' := fun W' A' c' hb r => by
    have := refTag_any W' W.heap.size c1 n1 W'.heap.size c' N A1 A' xs (ys ++ zs) (R1.out.below hb) hb.size H1.out.symm (by omega) r (Nat.le_refl _) hNl (by omega)
    rwa [arrV_mk, ← hZ] at this
  have hX : ∀ (W' : World) (g2 k2 g3 k3 : Nat), Rd b8 W' W'.heap.size (some ⟨g2, 0, none⟩) xs → Rd b8 W' W'.heap.size (some ⟨g3, 0, none⟩) ys → Calls Try.prog 19 #[.slice (some ⟨g2, 0, none⟩) n1 k2, .slice (some ⟨g3, 0, none⟩) n2 k3] W' fun e w' => e = .returned (.agg Y.toArray) ∧ Below W'.heap.size W' w' := fun W' g2 k2 g3 k3 r1 r2 => by
    have := extract_any W' W'.heap.size n1 k2 W'.heap.size n2 k3 _ _ xs ys r1 (Nat.le_refl _) H1.out.symm (by rw [H1.out]; omega) r2 (Nat.le_refl _) H2.out.symm (by rw [H2.out]; omega)
    rwa [arrV_mk, ← hY] at this
  have hQ2 : ∀ (W' : World), Below W.heap.size W W' → Calls Try.prog 18 #[.slice A1 n1 c1, .slice A2 n2 c2] W' fun e w' => e = .returned (.agg Y.toArray) ∧ Below W'.heap.size W' w' := fun W' hb => by
    have := refTag_any W' W.heap.size c1 n1 W.heap.size c2 n2 A1 A2 xs ys (R1.out.below hb) hb.size H1.out.symm (by omega) (R2.out.below hb) hb.size H2.out.symm (by omega)
    rwa [arrV_mk, ← hY] at this
  have HT := Lib.hid hT
  have HQ1 := Lib.hid hQ1
  have HX := Lib.hid hX
  have HQ2 := Lib.hid hQ2
  have HZ := Lib.hid hZ
  have HY := Lib.hid hY
  have HN := Lib.hid hN
  have HNl := Lib.hid hNl
  have HZl := Lib.hid hZl
  have HYl := Lib.hid hYl
  clear hT hQ1 hX hQ2 hZ hY hN hNl hZl hYl
  go_enter Try.func5, Try.ntmps5
  go_wp2_with fail
  refine (alive02_any _).mono ?_
  rintro e w1 ⟨rfl, hb1⟩
  have hz1' := hb1.size
  have HB1 := Lib.hid hb1
  clear hb1
  go_wp2_with fail
  refine (copy_any c1 (R1.out.below HB1.out) HB1.out.size H1.out (by omega)).mono ?_
  rintro e w2 ⟨v2, rfl, hc2, hb2⟩
  obtain ⟨g2, k2, rfl, hg2, hg2l, -, -⟩ := hc2.shape' H1.out
  have hsz2 := hb2.size
  have HC1_2 := Lib.hid hc2
  have HB2 := Lib.hid (HB1.out.trans (hb2.mono HB1.out.size))
  clear hc2 hb2
  go_wp2_with fail
  refine (copy_any c2 (R2.out.below HB2.out) HB2.out.size H2.out (by omega)).mono ?_
  rintro e w3 ⟨v3, rfl, hc3, hb3⟩
  obtain ⟨g3, k3, rfl, hg3, hg3l, -, -⟩ := hc3.shape' H2.out
  have hsz3 := hb3.size
  have HC2_3 := Lib.hid hc3
  have HC1_3 := Lib.hid (HC1_2.out.below hb3 (Nat.le_refl _))
  have HB3 := Lib.hid (HB2.out.trans (hb3.mono HB2.out.size))
  clear hc3 hb3 HC1_2
  go_wp2_with fail
  refine (copy_any c3 (R3.out.below HB3.out) HB3.out.size H3.out (by omega)).mono ?_
  rintro e w4 ⟨v4, rfl, hc4, hb4⟩
  obtain ⟨g4, k4, rfl, hg4, hg4l, -, -⟩ := hc4.shape' H3.out
  have hsz4 := hb4.size
  have HC3_4 := Lib.hid hc4
  have HC1_4 := Lib.hid (HC1_3.out.below hb4 (Nat.le_refl _))
  have HC2_4 := Lib.hid (HC2_3.out.below hb4 (Nat.le_refl _))
  have HB4 := Lib.hid (HB3.out.trans (hb4.mono HB3.out.size))
  clear hc4 hb4 HC1_3 HC2_3
  go_wp2_with fail
  refine (HT.out w4 g2 k2 g3 k3 g4 k4 HC1_4.out.own.rd HC2_4.out.own.rd HC3_4.out.own.rd).mono ?_
  rintro e w5 ⟨rfl, hb5⟩
  have hsz5 := hb5.size
  have HC1 := Lib.hid (HC1_4.out.below hb5 (Nat.le_refl _))
  have HC2 := Lib.hid (HC2_4.out.below hb5 (Nat.le_refl _))
  have HC3 := Lib.hid (HC3_4.out.below hb5 (Nat.le_refl _))
  have HB5 := Lib.hid (HB4.out.trans (hb5.mono HB4.out.size))
  have HT5 := Lib.hid (Arr.new b8 w5 26 (List.replicate 32 0#8))
  clear hb5 HC1_4 HC2_4 HC3_4 HT
  go_wp2_with (refine wpList_store_arr rfl 26 (.tmp 10) (.tmp 36) rfl w5.heap.size rfl (tagV xs (ys ++ zs)) (by rw [← HZ.out]; rfl) _ _ HT5.out (by rw [tagV_len]; rfl) (by rw [size32, tagV_len]) b8_one' ?_; intro w6 hx6 hg6)
  have hsz6 : w5.heap.size < w6.heap.size := hx6.lt
  have hb56 : Below w5.heap.size w5 w6 := (((Below.refl w5.heap.size w5).alloc (Nat.le_refl _) (.cells ((List.replicate 32 0#8).map b8).toArray 26)).grown hg6 (by simp) (fun k e => by cases e; exact Nat.le_refl _))
  have HD1 := Lib.hid (HC1.out.below hb56 (Nat.le_refl _))
  have HD2 := Lib.hid (HC2.out.below hb56 (Nat.le_refl _))
  have HD3 := Lib.hid (HC3.out.below hb56 (Nat.le_refl _))
  have HB6 := Lib.hid (HB5.out.trans (hb56.mono HB5.out.size))
  have HK := Lib.hid (show ∀ W', Below w6.heap.size w6 W' → W'.rangeAt w5.heap.size 0 Z from fun W' hb => by rw [HZ.out]; exact (hx6.below hb hsz6).whole)
  have HX6 := Lib.hid (show Below w6.heap.size w6 (w6.drew.alloc (.cells #[] 5)) from ((Below.refl w6.heap.size w6).drew.alloc (Nat.le_refl _) (.cells #[] 5)))
  have HE6 := Lib.hid (show Own b8 (w6.drew.alloc (.cells #[] 5)) w6.heap.size 5 (.slice (some ⟨w6.heap.size, 0, none⟩) 0 0) [] from own_empty w6.drew)
  have hk6 := HK.out _ (Below.refl w6.heap.size w6).drew
  have hu := Try.underlying26
  have hi32 : (Try.prog.info? 26).map (·.size) = some Z.length := by rw [HZl.out]; exact size32
  have hWs := HB6.out.size
  clear hx6 hg6 hb56 HC1 HC2 HC3 HT5 HB5
  have tok1 : True := trivial
  have tok2 : True := trivial
  have tok3 : True := trivial
  go_frame
  go_region_held3 (fun w' => w'.rangeAt w5.heap.size 0 Z)
    (first
      | exact HK.out _ HX11.out
      | exact HK.out _ HX10.out
      | exact HK.out _ HX9.out
      | exact HK.out _ HX8.out
      | exact HK.out _ HX7.out
      | exact HK.out _ HX6.out
      | assumption)
    (first
      | (refine step_append_rd rfl (.tmp 39) (.tmp 40) 22 rfl b8_one w6.heap.size 5 i0 _ 1 Try.underlying22 hi0 hz0 hz1 hz2 rfl _ _ rfl HE6.out W.heap.size A2 n2 c2 ys rfl H2.out.symm (R2.out.below (HB6.out.trans (HX6.out.mono HB6.out.size))) (by have := H2.out; simp [maxLen]; omega) (by have := H2.out; simp; omega) (by simp) ?_; intro v7 w7 hown7 hg7 hbb7; obtain ⟨A7, k7, rfl, -, -, -, -⟩ := hown7.shape' (n := n2) (by simp [H2.out]); have HO7 := Lib.hid (hown7.cast (List.nil_append _)); have HX7 := Lib.hid (hbb7 _ _ (Nat.le_refl _) HX6.out); have hs7 := HX7.out.size; clear hown7 hg7 hbb7)
      | (refine step_append_rd rfl (.tmp 41) (.tmp 42) 22 rfl b8_one w6.heap.size 5 i0 _ 1 Try.underlying22 hi0 hz0 hz1 hz2 rfl _ _ rfl HO7.out W.heap.size A3 n3 c3 zs rfl H3.out.symm (R3.out.below (HB6.out.trans (HX7.out.mono HB6.out.size))) (by have := H2.out; have := H3.out; simp [maxLen]; omega) (by have := H2.out; have := H3.out; simp; omega) hs7 ?_; intro v8 w8 hown8 hg8 hbb8; obtain ⟨A8, k8, rfl, -, -, -, -⟩ := hown8.shape' (n := N) HNl.out.symm; have HO8 := Lib.hid hown8; have HX8 := Lib.hid (hbb8 _ _ (Nat.le_refl _) HX7.out); clear hown8 hg8 hbb8)
      | (go_simp; go_at_call 18; refine (HQ2.out w10 (HB6.out.trans (HX10.out.mono HB6.out.size))).mono ?_; rintro e w11 ⟨rfl, hb11⟩; have HX11 := Lib.hid (HX10.out.trans (hb11.mono HX10.out.size)); clear hb11)
      | (go_simp; go_at_call 18; refine (HQ1.out w8 A8 k8 (HB6.out.trans (HX8.out.mono HB6.out.size)) HO8.out.rd).mono ?_; rintro e w9 ⟨rfl, hb9⟩; have HX9 := Lib.hid (HX8.out.trans (hb9.mono HX8.out.size)); clear hb9)
      | (go_simp; go_at_call 19; refine (HX.out w9 g2 k2 g3 k3 (HD1.out.below HX9.out (by omega)).own.rd (HD2.out.below HX9.out (by omega)).own.rd).mono ?_; rintro e w10 ⟨rfl, hb10⟩; have HX10 := Lib.hid (HX9.out.trans (hb10.mono HX9.out.size)); clear hb10)
      | (go_simp; go_at_call 20; have _t := tok1; clear tok1; refine (kept_any c1 (HD1.out.below HX11.out (by omega)) (R1.out.below (HB6.out.trans (HX11.out.mono HB6.out.size))) H1.out rfl (by omega)).mono ?_; rintro e w' ⟨rfl, rfl⟩)
      | (go_simp; go_at_call 20; have _t := tok2; clear tok2; refine (kept_any c2 (HD2.out.below HX11.out (by omega)) (R2.out.below (HB6.out.trans (HX11.out.mono HB6.out.size))) H2.out rfl (by omega)).mono ?_; rintro e w' ⟨rfl, rfl⟩)
      | (go_simp; go_at_call 20; have _t := tok3; clear tok3; refine (kept_any c3 (HD3.out.below HX11.out (by omega)) (R3.out.below (HB6.out.trans (HX11.out.mono HB6.out.size))) H3.out rfl (by omega)).mono ?_; rintro e w' ⟨rfl, rfl⟩))
  go_wp2_with fail
  go_ret
  exact ⟨rfl, HB6.out.trans (HX11.out.mono HB6.out.size)⟩
end Go.Proofs.Ytgeighnfgniamaa
