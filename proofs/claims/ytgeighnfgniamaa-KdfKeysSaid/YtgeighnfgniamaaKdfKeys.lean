/- the walk of KdfKeys. -/
import Derived.Test.YtgeighnfgniamaaKeysD
namespace Go.Proofs.Ytgeighnfgniamaa
open Go.RowKit
set_option linter.unusedVariables false
set_option linter.unusedSimpArgs false

/- the walk, long key -/
set_option maxRecDepth 100000 in
set_option maxHeartbeats 4000000 in
theorem kdfKeys_long (A1 : Option Addr) (n1 c1 : Nat) (xs : List (BitVec 8)) {W : World} (hr1 : Rd b8 W W.heap.size A1 xs) (hn1 : xs.length = n1) (hc1 : n1 ≤ c1) (hm1 : c1 ≤ maxLen)
    (A2 : Option Addr) (n2 c2 : Nat) (ys : List (BitVec 8)) (hr2 : Rd b8 W W.heap.size A2 ys) (hn2 : ys.length = n2) (hc2 : n2 ≤ c2) (hm2 : c2 ≤ maxLen) (hk : 64 < n1) :
    Calls Try.prog 4 #[.slice A1 n1 c1, .slice A2 n2 c2] W fun e w' => e = .returned (.bool true) ∧ Below W.heap.size W w' := by
  obtain ⟨i0, hi0, hz0, hz1, hz2⟩ := info_parts infoU8
  have H1 := Lib.hid hn1
  have H2 := Lib.hid hn2
  have R1 := Lib.hid hr1
  have R2 := Lib.hid hr2
  clear hn1 hn2 hr1 hr2 hc1 hm1 hc2 hm2
  by_cases k1 : (n1 : Int) > 1000
  · go_enter Try.func4, Try.ntmps4
    go_wp2_with (go_at_call 14; refine (alive02_any _).mono ?_; rintro e w1 ⟨rfl, hb1⟩)
    go_ret
    exact ⟨rfl, hb1⟩
  by_cases k2 : (n2 : Int) > 1000
  · go_enter Try.func4, Try.ntmps4
    go_wp2_with (go_at_call 14; refine (alive02_any _).mono ?_; rintro e w1 ⟨rfl, hb1⟩)
    go_ret
    exact ⟨rfl, hb1⟩
  have m1 : n1 ≤ 1000 := by omega
  have m2 : n2 ≤ 1000 := by omega
  obtain ⟨Z, hZ⟩ : ∃ Z, Z = (tagV xs ys).map b8 := ⟨_, rfl⟩
  obtain ⟨S, hS⟩ : ∃ S, S = sum32 xs := ⟨_, rfl⟩
  have hez : ∀ w, (binOp .eql 26 (.agg Z.toArray) (.agg Z.toArray)).run Try.prog w = .ok (.bool true) w := fun w => eql_cells w Z _ hZ (tagV_len _ _)
  have HS := Lib.hid hS
  have HSl := Lib.hid (show S.length = 32 by rw [hS]; exact sum32_len _)
  have hT1 : ∀ (W' : World) (g : Nat), Below W.heap.size W W' → PA W' g (.slice A2 n2 c2) → Calls Try.prog 16 #[.slice A1 n1 c1, .slice (some ⟨g, 0, none⟩) 1 1] W' fun e w' => e = .returned (.agg Z.toArray) ∧ Below W'.heap.size W' w' := fun W' g hb hp => by
    have := tag_any W' W.heap.size n1 c1 A1 xs (R1.out.below hb) hb.size H1.out.symm (by rw [H1.out]; omega) W.heap.size g 0 1 1 _ (pts_pa hp (R2.out.below hb) H2.out.symm) hb.size rfl (by omega) ys (by simp) (by rw [H2.out]; omega)
    rwa [arrV_mk, ← hZ] at this
  have hZ2 : Z = (tagV (sum32 xs) ys).map b8 := by rw [hZ, tagV_long (by rw [H1.out]; exact hk)]
  have hT2 : ∀ (W' : World) (g B : Nat) (r : Nat), Below W.heap.size W W' → Rd b8 W' B (some ⟨r, 0, none⟩) S → B ≤ W'.heap.size → PA W' g (.slice A2 n2 c2) → Calls Try.prog 16 #[.slice (some ⟨r, 0, none⟩) 32 32, .slice (some ⟨g, 0, none⟩) 1 1] W' fun e w' => e = .returned (.agg Z.toArray) ∧ Below W'.heap.size W' w' := fun W' g B r hb hr hB hp => by
    have := tag_any W' B 32 32 (some ⟨r, 0, none⟩) S hr hB HSl.out.symm (by rw [HSl.out]; omega) W.heap.size g 0 1 1 _ (pts_pa hp (R2.out.below hb) H2.out.symm) hb.size rfl (by omega) ys (by simp) (by rw [H2.out]; omega)
    rwa [arrV_mk, HS.out, ← hZ2] at this
  have HT1 := Lib.hid hT1
  have HT2 := Lib.hid hT2
  have hlen : (n1 : Int) > 64 := by omega
  clear hT1 hT2 hZ hS hZ2
  go_enter Try.func4, Try.ntmps4
  go_wp2_with fail
  refine (alive02_any _).mono ?_
  rintro e w1 ⟨rfl, hb1⟩
  have hs1 := hb1.size
  have hs := short_one w1 W.heap.size n1 c1 A1 xs (R1.out.below hb1) hs1 H1.out.symm (by rw [H1.out]; omega)
  rw [arrV_mk, ← HS.out] at hs
  have HSh := Lib.hid hs
  have HB1 := Lib.hid hb1
  clear hb1 hs
  go_wp2_with fail
  refine HSh.out.mono ?_
  rintro e w5 ⟨rfl, hb5⟩
  have hsz5 := hb5.size
  have HB5 := Lib.hid (HB1.out.trans (hb5.mono HB1.out.size))
  have HT5 := Lib.hid (Arr.new b8 w5 26 (List.replicate 32 0#8))
  clear hb5 HSh
  go_wp2_with (refine wpList_store_arr rfl 26 (.tmp 5) (.tmp 18) rfl w5.heap.size rfl S rfl _ _ HT5.out (by rw [HSl.out]; rfl) (by rw [size32, HSl.out]) b8_one' ?_; intro w6 hx6 hg6)
  have hsz6 : w5.heap.size < w6.heap.size := hx6.lt
  have hb56 : Below w5.heap.size w5 w6 := (((Below.refl w5.heap.size w5).alloc (Nat.le_refl _) (.cells ((List.replicate 32 0#8).map b8).toArray 26)).grown hg6 (by simp) (fun k e => by cases e; exact Nat.le_refl _))
  have HB6 := Lib.hid (HB5.out.trans (hb56.mono HB5.out.size))
  have HX6 := Lib.hid ((Below.refl w6.heap.size w6).drew)
  have hWs := HB6.out.size
  have HK := Lib.hid (show ∀ W', Below w6.heap.size w6 W' → Rd b8 W' (w5.heap.size + 1) (some ⟨w5.heap.size, 0, none⟩) S from fun W' hb => (hx6.below hb hsz6).rd 0)
  clear hx6 hg6 hb56 HT5 HB5
  have hU1 : ∀ (W' : World) (g : Nat), Below w6.heap.size w6 W' → PA W' g (.slice A2 n2 c2) → Calls Try.prog 16 #[.slice A1 n1 c1, .slice (some ⟨g, 0, none⟩) 1 1] W' fun e w' => e = .returned (.agg Z.toArray) ∧ Below W'.heap.size W' w' ∧ Below w6.heap.size w6 w' := fun W' g hb hp => by
    refine (HT1.out W' g (HB6.out.trans (hb.mono HB6.out.size)) hp).mono ?_
    rintro e w' ⟨h1, h2⟩
    exact ⟨h1, h2, hb.trans (h2.mono hb.size)⟩
  have hU2 : ∀ (W' : World) (g : Nat), Below w6.heap.size w6 W' → PA W' g (.slice A2 n2 c2) → Calls Try.prog 16 #[.slice (some ⟨w5.heap.size, 0, none⟩) 32 32, .slice (some ⟨g, 0, none⟩) 1 1] W' fun e w' => e = .returned (.agg Z.toArray) ∧ Below W'.heap.size W' w' ∧ Below w6.heap.size w6 w' := fun W' g hb hp => by
    refine (HT2.out W' g (w5.heap.size + 1) w5.heap.size (HB6.out.trans (hb.mono HB6.out.size)) (HK.out W' hb) (by have := hb.size; omega) hp).mono ?_
    rintro e w' ⟨h1, h2⟩
    exact ⟨h1, h2, hb.trans (h2.mono hb.size)⟩
  have HU1 := Lib.hid hU1
  have HU2 := Lib.hid hU2
  clear hU1 hU2 HT1 HT2 HK
  have tok1 : True := trivial
  go_region_held3 (fun _ => True) (trivial)
    (first
      | (go_simp; go_at_call 16; have _t := tok1; clear _t tok1; (refine (HU1.out _ _ ?_ ?_).mono ?_; (focus (repeat (first | exact HXd.out | exact HXc.out | exact HXb.out | exact HXa.out | exact Below.refl _ _ | refine bel_al ?_ | refine bel_dr ?_))); (focus (repeat (first | exact pa_new rfl | (refine pa_new ?_; (first | rfl | (simp; done))) | refine pa_bel HLa.out ?_ | refine HGc.out _ _ ?_ | refine HGb.out _ _ ?_ | refine pa_al ?_ | refine pa_dr ?_))); rintro e wa ⟨rfl, hba, hxa⟩; have HLa := Lib.hid hba; have HXa := Lib.hid hxa; clear hba hxa))
      | (go_simp; go_at_call 16; have _t := HXa; clear _t; (refine (HU2.out _ _ ?_ ?_).mono ?_; (focus (repeat (first | exact HXd.out | exact HXc.out | exact HXb.out | exact HXa.out | exact Below.refl _ _ | refine bel_al ?_ | refine bel_dr ?_))); (focus (repeat (first | exact pa_new rfl | (refine pa_new ?_; (first | rfl | (simp; done))) | refine pa_bel HLa.out ?_ | refine HGc.out _ _ ?_ | refine HGb.out _ _ ?_ | refine pa_al ?_ | refine pa_dr ?_))); rintro e wd ⟨rfl, hbd, hxd⟩; have HXd := Lib.hid hxd; clear hbd hxd)))
  all_goals
    go_wp2_with fail
    go_ret
    exact ⟨rfl, (HB6.out.trans (Below.mono HXd.out HB6.out.size))⟩
/- the walk, short key -/
set_option maxRecDepth 100000 in
set_option maxHeartbeats 4000000 in
theorem kdfKeys_short (A1 : Option Addr) (n1 c1 : Nat) (xs : List (BitVec 8)) {W : World} (hr1 : Rd b8 W W.heap.size A1 xs) (hn1 : xs.length = n1) (hc1 : n1 ≤ c1) (hm1 : c1 ≤ maxLen)
    (A2 : Option Addr) (n2 c2 : Nat) (ys : List (BitVec 8)) (hr2 : Rd b8 W W.heap.size A2 ys) (hn2 : ys.length = n2) (hc2 : n2 ≤ c2) (hm2 : c2 ≤ maxLen) (hk : n1 ≤ 64) :
    Calls Try.prog 4 #[.slice A1 n1 c1, .slice A2 n2 c2] W fun e w' => e = .returned (.bool true) ∧ Below W.heap.size W w' := by
  obtain ⟨i0, hi0, hz0, hz1, hz2⟩ := info_parts infoU8
  have H1 := Lib.hid hn1
  have H2 := Lib.hid hn2
  have R1 := Lib.hid hr1
  have R2 := Lib.hid hr2
  clear hn1 hn2 hr1 hr2 hc1 hm1 hc2 hm2
  by_cases k1 : (n1 : Int) > 1000
  · go_enter Try.func4, Try.ntmps4
    go_wp2_with (go_at_call 14; refine (alive02_any _).mono ?_; rintro e w1 ⟨rfl, hb1⟩)
    go_ret
    exact ⟨rfl, hb1⟩
  by_cases k2 : (n2 : Int) > 1000
  · go_enter Try.func4, Try.ntmps4
    go_wp2_with (go_at_call 14; refine (alive02_any _).mono ?_; rintro e w1 ⟨rfl, hb1⟩)
    go_ret
    exact ⟨rfl, hb1⟩
  have m1 : n1 ≤ 1000 := by omega
  have m2 : n2 ≤ 1000 := by omega
  obtain ⟨Z, hZ⟩ : ∃ Z, Z = (tagV xs ys).map b8 := ⟨_, rfl⟩
  obtain ⟨S, hS⟩ : ∃ S, S = sum32 xs := ⟨_, rfl⟩
  have hez : ∀ w, (binOp .eql 26 (.agg Z.toArray) (.agg Z.toArray)).run Try.prog w = .ok (.bool true) w := fun w => eql_cells w Z _ hZ (tagV_len _ _)
  have HS := Lib.hid hS
  have HSl := Lib.hid (show S.length = 32 by rw [hS]; exact sum32_len _)
  have hT1 : ∀ (W' : World) (g : Nat), Below W.heap.size W W' → PA W' g (.slice A2 n2 c2) → Calls Try.prog 16 #[.slice A1 n1 c1, .slice (some ⟨g, 0, none⟩) 1 1] W' fun e w' => e = .returned (.agg Z.toArray) ∧ Below W'.heap.size W' w' := fun W' g hb hp => by
    have := tag_any W' W.heap.size n1 c1 A1 xs (R1.out.below hb) hb.size H1.out.symm (by rw [H1.out]; omega) W.heap.size g 0 1 1 _ (pts_pa hp (R2.out.below hb) H2.out.symm) hb.size rfl (by omega) ys (by simp) (by rw [H2.out]; omega)
    rwa [arrV_mk, ← hZ] at this
  obtain ⟨K, hK⟩ : ∃ K, K = 64 - n1 := ⟨_, rfl⟩
  have hZ2 : Z = (tagV (xs ++ List.replicate K 0#8) ys).map b8 := by
    have h2 : xs.length = n1 := H1.out
    rw [hZ, ← tagV_short (xs := xs) (by omega), h2, hK]
  have hKl : (xs ++ List.replicate K 0#8).length = 64 := by have h2 : xs.length = n1 := H1.out; simp; omega
  have hT2 : ∀ (W' : World) (g : Nat) (A' : Option Addr) (c' : Nat), Below W.heap.size W W' → Rd b8 W' W'.heap.size A' (xs ++ List.replicate K 0#8) → PA W' g (.slice A2 n2 c2) → Calls Try.prog 16 #[.slice A' 64 c', .slice (some ⟨g, 0, none⟩) 1 1] W' fun e w' => e = .returned (.agg Z.toArray) ∧ Below W'.heap.size W' w' := fun W' g A' c' hb hr hp => by
    have := tag_any W' W'.heap.size 64 c' A' _ hr (Nat.le_refl _) hKl.symm (by rw [hKl]; omega) W.heap.size g 0 1 1 _ (pts_pa hp (R2.out.below hb) H2.out.symm) hb.size rfl (by omega) ys (by simp) (by rw [H2.out]; omega)
    rwa [arrV_mk, ← hZ2] at this
  have HT1 := Lib.hid hT1
  have HT2 := Lib.hid hT2
  have HKl := Lib.hid hKl
  have HKs := Lib.hid (show IntKind.i64.wrap (64 - (n1 : Int)) = (K : Int) by rw [IntWalk.i64_in _ (by omega)]; omega)
  have hKb : K ≤ 64 := by omega
  have hlen : ¬ ((n1 : Int) > 64) := by omega
  clear hT1 hT2 hZ hS hZ2 hKl hK
  go_enter Try.func4, Try.ntmps4
  go_wp2_with fail
  refine (alive02_any _).mono ?_
  rintro e w1 ⟨rfl, hb1⟩
  have hs1 := hb1.size
  have hs := short_one w1 W.heap.size n1 c1 A1 xs (R1.out.below hb1) hs1 H1.out.symm (by rw [H1.out]; omega)
  rw [arrV_mk, ← HS.out] at hs
  have HSh := Lib.hid hs
  have HB1 := Lib.hid hb1
  clear hb1 hs
  go_wp2_with fail
  refine HSh.out.mono ?_
  rintro e w5 ⟨rfl, hb5⟩
  have hsz5 := hb5.size
  have HB5 := Lib.hid (HB1.out.trans (hb5.mono HB1.out.size))
  have HT5 := Lib.hid (Arr.new b8 w5 26 (List.replicate 32 0#8))
  clear hb5 HSh
  go_wp2_with (refine wpList_store_arr rfl 26 (.tmp 5) (.tmp 18) rfl w5.heap.size rfl S rfl _ _ HT5.out (by rw [HSl.out]; rfl) (by rw [size32, HSl.out]) b8_one' ?_; intro w6 hx6 hg6)
  have hsz6 : w5.heap.size < w6.heap.size := hx6.lt
  have hb56 : Below w5.heap.size w5 w6 := (((Below.refl w5.heap.size w5).alloc (Nat.le_refl _) (.cells ((List.replicate 32 0#8).map b8).toArray 26)).grown hg6 (by simp) (fun k e => by cases e; exact Nat.le_refl _))
  have HB6 := Lib.hid (HB5.out.trans (hb56.mono HB5.out.size))
  have HX6 := Lib.hid ((Below.refl w6.heap.size w6).drew)
  have hWs := HB6.out.size
  clear hx6 hg6 hb56 HT5 HB5
  have hU1 : ∀ (W' : World) (g : Nat), Below w6.heap.size w6 W' → PA W' g (.slice A2 n2 c2) → Calls Try.prog 16 #[.slice A1 n1 c1, .slice (some ⟨g, 0, none⟩) 1 1] W' fun e w' => e = .returned (.agg Z.toArray) ∧ Below W'.heap.size W' w' ∧ Below w6.heap.size w6 w' := fun W' g hb hp => by
    refine (HT1.out W' g (HB6.out.trans (hb.mono HB6.out.size)) hp).mono ?_
    rintro e w' ⟨h1, h2⟩
    exact ⟨h1, h2, hb.trans (h2.mono hb.size)⟩
  have hU2 : ∀ (W' : World) (g : Nat) (A' : Option Addr) (c' : Nat), Below w6.heap.size w6 W' → Own b8 W' w6.heap.size 5 (.slice A' 64 c') (xs ++ List.replicate K 0#8) → PA W' g (.slice A2 n2 c2) → Calls Try.prog 16 #[.slice A' 64 c', .slice (some ⟨g, 0, none⟩) 1 1] W' fun e w' => e = .returned (.agg Z.toArray) ∧ Below W'.heap.size W' w' ∧ Below w6.heap.size w6 w' := fun W' g A' c' hb ho hp => by
    refine (HT2.out W' g A' c' (HB6.out.trans (hb.mono HB6.out.size)) ho.rd hp).mono ?_
    rintro e w' ⟨h1, h2⟩
    exact ⟨h1, h2, hb.trans (h2.mono hb.size)⟩
  have HR1 := Lib.hid (show ∀ W', Below w6.heap.size w6 W' → Rd b8 W' W.heap.size A1 xs from fun W' hb => R1.out.below (HB6.out.trans (hb.mono HB6.out.size)))
  have HU1 := Lib.hid hU1
  have HU2 := Lib.hid hU2
  clear hU1 hU2 HT1 HT2
  refine (HU1.out _ _ (bel_al (Below.refl _ _)) (pa_new rfl)).mono ?_
  rintro e wa ⟨rfl, hba, hxa⟩
  have hsa : w6.heap.size ≤ wa.heap.size := hxa.size
  have HXa := Lib.hid hxa
  have HEa := Lib.hid (show Own b8 (wa.alloc (.cells #[] 5)) w6.heap.size 5 (.slice (some ⟨wa.heap.size, 0, none⟩) 0 0) [] from oe_new rfl hsa)
  have hKs := HKs.out
  clear hba hxa
  go_wp2_with (first
    | (at_builtin; (refine wpList_append_rd rfl (.tmp 35) (.tmp 36) 22 rfl b8_one w6.heap.size 5 i0 _ 1 Try.underlying22 hi0 hz0 hz1 hz2 rfl _ _ rfl HEa.out W.heap.size A1 n1 c1 xs rfl H1.out.symm (HR1.out _ (bel_al HXa.out)) (by have := H1.out; simp [maxLen]; omega) (by have := H1.out; simp; omega) (by simp; omega) ?_; intro vb wb hob hgb hbb; obtain ⟨Ab, cb, rfl, -, -, -, -⟩ := hob.shape' (n := n1) (by simp [H1.out]); have HOb := Lib.hid (hob.cast (List.nil_append _)); have HXb := Lib.hid (hbb _ _ (Nat.le_refl _) (bel_al HXa.out)); have hsb : w6.heap.size ≤ wb.heap.size := HXb.out.size; clear hob hgb hbb))
    | (at_builtin; (refine wpList_zer rfl (.tmp 37) (.tmp 40) rfl w6.heap.size (.slice Ab n1 cb) xs rfl K rfl (by have := H1.out; omega) hsb HOb.out ?_; intro vc wc hoc hgc hbc; obtain ⟨Ac, cc, rfl, -, -, -, -⟩ := hoc.shape' (n := 64) HKl.out; have HOc := Lib.hid hoc; have HXc := Lib.hid (hbc _ _ (Nat.le_refl _) HXb.out); clear hoc hgc hbc)))
  refine (HU2.out _ _ Ac cc (bel_al HXc.out) (oe_al HOc.out) (pa_new rfl)).mono ?_
  rintro e wd ⟨rfl, hbd, hxd⟩
  clear hbd
  go_wp2_with fail
  go_ret
  exact ⟨rfl, HB6.out.trans (hxd.mono HB6.out.size)⟩
theorem kdfKeys_walk (A1 : Option Addr) (n1 c1 : Nat) (xs : List (BitVec 8)) {W : World} (hr1 : Rd b8 W W.heap.size A1 xs) (hn1 : xs.length = n1) (hc1 : n1 ≤ c1) (hm1 : c1 ≤ maxLen)
    (A2 : Option Addr) (n2 c2 : Nat) (ys : List (BitVec 8)) (hr2 : Rd b8 W W.heap.size A2 ys) (hn2 : ys.length = n2) (hc2 : n2 ≤ c2) (hm2 : c2 ≤ maxLen) :
    Calls Try.prog 4 #[.slice A1 n1 c1, .slice A2 n2 c2] W fun e w' => e = .returned (.bool true) ∧ Below W.heap.size W w' := by
  by_cases h : 64 < n1
  · exact kdfKeys_long A1 n1 c1 xs hr1 hn1 hc1 hm1 A2 n2 c2 ys hr2 hn2 hc2 hm2 h
  · exact kdfKeys_short A1 n1 c1 xs hr1 hn1 hc1 hm1 A2 n2 c2 ys hr2 hn2 hc2 hm2 (by omega)
end Go.Proofs.Ytgeighnfgniamaa
