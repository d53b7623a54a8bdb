/- CONTRACT: the reference's Open. -/
import Derived.Test.YtkoefhbmkmepaaaSealR
import Derived.Test.YtkoefhbmkmepaaaMarkW
import Derived.Deep.RegionHeld3
namespace Go.Proofs.Ytkoefhbmkmepaaa
open Go.RowKit
set_option linter.unusedVariables false
set_option linter.unusedSimpArgs false

set_option maxRecDepth 100000 in
set_option maxHeartbeats 4000000 in
theorem refOpen_any (w : World) (key : List (BitVec 8)) (hk : key.length = 32) (A C T : Option Addr) (n c l cc m d Bn Bc Bm : Nat) (nonce ctx text : List (BitVec 8))
    (hrn : Rd b8 w Bn A nonce) (hBn : Bn ≤ w.heap.size) (hn : nonce.length = n) (hnc : n ≤ c)
    (hrc : Rd b8 w Bc C ctx) (hBc : Bc ≤ w.heap.size) (hl : ctx.length = l)
    (hrm : Rd b8 w Bm T text) (hBm : Bm ≤ w.heap.size) (hm : text.length = m) (hmd : m ≤ d) (hmx : m ≤ maxLen) :
    Calls Try.prog 37 #[arrV b8 key, .slice A n c, .slice C l cc, .slice T m d] w fun e w' => ∃ v, e = .returned (.tuple #[v, .int .i64 (openBad key nonce ctx text : Int)]) ∧ Own b8 w' w.heap.size 5 v (openV key nonce ctx text) ∧ Below w.heap.size w w' := by
  have HK := Lib.hid hk
  have HN := Lib.hid hn
  have HL := Lib.hid hl
  have HM := Lib.hid hm
  have HRn := Lib.hid (hrn.more hBn)
  have HRc := Lib.hid (hrc.more hBc)
  have HRm := Lib.hid (hrm.more hBm)
  have hob : openBad key nonce ctx text = if n ≠ 12 ∨ 1048592 < l ∨ 1048592 < m then 1 else if m < 16 then 2 else if tagOf key nonce ctx (text.take (m - 16)) = text.drop (m - 16) then 0 else 2 := by unfold openBad; rw [hn, hl, hm]
  have HOv := Lib.hid (show openV key nonce ctx text = if openBad key nonce ctx text = 0 then mixV key nonce 1 (text.take (m - 16)) else [] by unfold openV; rw [hm])
  clear hk hn hl hm hrn hrc hrm hBn hBc hBm
  rw [arrV_mk]
  have HK1 := Lib.hid (Arr.new b8 w 39 key)
  have HB1 := Lib.hid (show Below w.heap.size w (w.alloc (.cells (key.map b8).toArray 39)) from (Below.refl _ w).alloc (Nat.le_refl _) _)
  simp only [maxLen] at hmx
  by_cases h1 : n = 12
  · subst h1
    by_cases h2 : l ≤ 1048592
    · by_cases h3 : m ≤ 1048592
      · have h2i : ¬ ((l : Int) > 1048592) := by omega
        have h3i : ¬ ((m : Int) > 1048592) := by omega
        rw [if_neg (by omega)] at hob
        by_cases h4 : m < 16
        · rw [if_pos h4] at hob
          have hov : openV key nonce ctx text = [] := by rw [HOv.out, hob]; exact if_neg (by decide)
          rw [hob, hov]
          have h4i : (m : Int) - 16 < 0 := by omega
          clear hob hov
          go_enter Try.func37, Try.ntmps37
          go_wp2_with fail
          go_ret2
          exact ⟨_, rfl, Own.nil_ _ _ _ _, HB1.out⟩
        · rw [if_neg h4] at hob
          obtain ⟨k, hkm⟩ : ∃ k, m = k + 16 := ⟨m - 16, by omega⟩
          have hmk0 : m - 16 = k := by omega
          rw [hmk0] at hob HOv
          obtain ⟨b, off, rfl, hbl, -⟩ := HRm.out.at_ (k := 0) (by rw [HM.out, hkm]; omega)
          obtain ⟨t1, ht1⟩ : ∃ t1, text.take k = t1 := ⟨_, rfl⟩
          obtain ⟨t2, ht2⟩ : ∃ t2, text.drop k = t2 := ⟨_, rfl⟩
          rw [ht1, ht2] at hob
          rw [ht1] at HOv
          have H1l := Lib.hid (show t1.length = k by rw [← ht1, List.length_take, HM.out, hkm]; omega)
          have H2l := Lib.hid (show t2.length = 16 by rw [← ht2, List.length_drop, HM.out, hkm]; omega)
          have H1r := Lib.hid (show Rd b8 w w.heap.size (some ⟨b, off, none⟩) t1 by rw [← ht1]; exact HRm.out.take k)
          have H2r := Lib.hid (show Rd b8 w w.heap.size (some ⟨b, off + k, none⟩) t2 by
            have h := HRm.out.drop k
            rw [ht2, Option.map_some] at h
            have eA : (Addr.mk b off none).add k = ⟨b, off + k, none⟩ := by by_cases h0 : k = 0 <;> simp [Addr.add, h0]
            rwa [eA] at h)
          clear ht1 ht2
          have HOb := Lib.hid hob
          have hsi : (m : Int) - 16 = (k : Int) := by omega
          have hmk : m - k = 16 := by omega
          have hkm' : k ≤ m := by omega
          have hkb : k ≤ 1048576 := by omega
          clear hmk0 hkm
          have hkd : ¬ (d = k) := by omega
          have hkd' : k ≤ d := by omega
          clear hob h4
          go_enter Try.func37, Try.ntmps37
          go_wp2_with fail
          have hz1 : w.heap.size < (w.alloc (.cells (key.map b8).toArray 39)).heap.size := by simp
          change Code.wp _ _ _ _ (w.alloc (.cells (key.map b8).toArray 39))
          generalize w.alloc (.cells (key.map b8).toArray 39) = w1 at HK1 HB1 hz1 ⊢
          obtain ⟨G, hG⟩ : ∃ G, tagOf key nonce ctx t1 = G := ⟨_, rfl⟩
          have HGl := Lib.hid (show G.length = 16 by rw [← hG]; exact tagOf_len _ _ _ _)
          obtain ⟨Y, hY⟩ : ∃ Y, Y = G.map b8 := ⟨_, rfl⟩
          have hYl : Y.length = 16 := by rw [hY, List.length_map, HGl.out]
          have hYi : (Try.prog.info? 76).map (·.size) = some Y.length := by rw [hYl]; exact size16r
          have hYo : ∀ v ∈ Y, v.oneCell' = true := by rw [hY]; intro v hv; obtain ⟨u, -, rfl⟩ := List.mem_map.1 hv; exact b8_one u
          have HY := Lib.hid hY
          have HYl := Lib.hid hYl
          clear hYl
          obtain ⟨Z, hZ⟩ : ∃ Z, Z = key.map b8 := ⟨_, rfl⟩
          have hZl : Z.length = 32 := by rw [hZ, List.length_map, HK.out]
          have HR1 := Lib.hid (show ∀ W', Below w1.heap.size w1 W' → W'.rangeAt w.heap.size 0 Z from fun W' hb => by
            rw [hZ]; exact (HK1.out.below hb hz1).whole)
          have hk1 := HR1.out _ (Below.refl _ w1).drew
          have hu := Try.underlying39
          have hi32 : (Try.prog.info? 39).map (·.size) = some Z.length := by rw [hZl]; exact size32k
          have HMk := Lib.hid (show ∀ W, Below w1.heap.size w1 W → Calls Try.prog 44 #[.agg Z.toArray, .slice A 12 c, .slice C l cc, .slice (some ⟨b, off, none⟩) k d] W fun e w' => e = .returned (.agg Y.toArray) ∧ Below W.heap.size W w' from fun W hb => by
            have hbw := HB1.out.trans (hb.mono HB1.out.size)
            have h := refAmark_any W key HK.out A C (some ⟨b, off, none⟩) 12 c l cc k d w.heap.size w.heap.size w.heap.size nonce ctx t1 (HRn.out.below hbw) hbw.size HN.out rfl hnc (HRc.out.below hbw) hbw.size HL.out (by omega) (H1r.out.below hbw) hbw.size H1l.out (by omega)
            rw [arrV_mk, ← hZ, hG, ← hY] at h
            exact h)
          have hml := mixV_len1 key nonce t1 HN.out (by rw [H1l.out]; omega)
          rw [H1l.out] at hml
          have HMx := Lib.hid (show ∀ W, Below w1.heap.size w1 W → Calls Try.prog 43 #[.agg Z.toArray, .slice A 12 c, .int .i64 1, .slice (some ⟨b, off, none⟩) k d] W fun e w' => ∃ v, e = .returned (.tuple #[v, .int .i64 0]) ∧ Own b8 w' W.heap.size 5 v (mixV key nonce 1 t1) ∧ Below W.heap.size W w' from fun W hb => by
            have hbw := HB1.out.trans (hb.mono HB1.out.size)
            have h := refMix_any key A 12 c w.heap.size nonce 1 (some ⟨b, off, none⟩) k d w.heap.size t1 W HK.out (HRn.out.below hbw) hbw.size HN.out hnc (H1r.out.below hbw) hbw.size H1l.out (by omega)
            rw [hml.1, arrV_mk, ← hZ] at h
            exact h)
          have HGe := Lib.hid hG
          have HXl := Lib.hid hml.2
          clear hG hZ hZl hml hY
          go_region_held3 (fun w' => w'.rangeAt w.heap.size 0 Z)
            (first
              | exact HR1.out _ (by (repeat (first | exact HX2.out | (refine bel_sc ?_ (by omega)) | exact Below.refl _ _ | refine bel_al ?_ | refine bel_dr ?_)))
              | go_keep)
            ((go_simp; go_at_call 44; refine (HMk.out _ (by (repeat (first | exact Below.refl _ _ | refine bel_al ?_ | refine bel_dr ?_)))).mono ?_; rintro e w2 ⟨rfl, hb2⟩; have HX2 := Lib.hid (show Below w1.heap.size w1 w2 from below_step (by (repeat (first | exact Below.refl _ _ | refine bel_al ?_ | refine bel_dr ?_))) hb2); have hs2 := HX2.out.size; (first | (refine (have HZ : Hid (PZ w2 w1.heap.size) := Lib.hid (pz_bel hb2 ?_); ?_); (focus (simp only [pz_newS, pz_alS, pz_drS, World.size_alloc] <;> fail))) | skip); (try have hth := pz_there HZ.out HYl.out); have hth9 : (w2.alloc (.cells #[.int .u8 0, .int .u8 0, .int .u8 0, .int .u8 0, .int .u8 0, .int .u8 0, .int .u8 0, .int .u8 0, .int .u8 0, .int .u8 0, .int .u8 0, .int .u8 0, .int .u8 0, .int .u8 0, .int .u8 0, .int .u8 0] 76)).there w2.heap.size 0 Y.length := pz_there (pz_new rfl rfl) HYl.out; clear hb2))
          all_goals
            first
            | (have HA3 := Lib.hid (pz_mark HZ.out HY.out HGl.out); have HX3 := Lib.hid (show Below w1.heap.size w1 (w2.setCells w1.heap.size 0 Y) from bel_sc HX2.out (Nat.le_refl _)); generalize w2.setCells w1.heap.size 0 Y = w3 at HA3 HX3 ⊢; obtain ⟨gm, hgm⟩ : ∃ gm, gm = w1.heap.size := ⟨_, rfl⟩; rw [← hgm] at HA3 ⊢)
            | (have HA3 := Lib.hid (pz_mark (pz_new rfl rfl : PZ (w2.alloc (.cells #[.int .u8 0, .int .u8 0, .int .u8 0, .int .u8 0, .int .u8 0, .int .u8 0, .int .u8 0, .int .u8 0, .int .u8 0, .int .u8 0, .int .u8 0, .int .u8 0, .int .u8 0, .int .u8 0, .int .u8 0, .int .u8 0] 76)) w2.heap.size) HY.out HGl.out); have HX3 := Lib.hid (show Below w1.heap.size w1 ((w2.alloc (.cells #[.int .u8 0, .int .u8 0, .int .u8 0, .int .u8 0, .int .u8 0, .int .u8 0, .int .u8 0, .int .u8 0, .int .u8 0, .int .u8 0, .int .u8 0, .int .u8 0, .int .u8 0, .int .u8 0, .int .u8 0, .int .u8 0] 76)).setCells w2.heap.size 0 Y) from bel_sc (bel_al HX2.out) hs2); generalize (w2.alloc (.cells #[.int .u8 0, .int .u8 0, .int .u8 0, .int .u8 0, .int .u8 0, .int .u8 0, .int .u8 0, .int .u8 0, .int .u8 0, .int .u8 0, .int .u8 0, .int .u8 0, .int .u8 0, .int .u8 0, .int .u8 0, .int .u8 0] 76)).setCells w2.heap.size 0 Y = w3 at HA3 HX3 ⊢; obtain ⟨gm, hgm⟩ : ∃ gm, gm = w2.heap.size := ⟨_, rfl⟩; rw [← hgm] at HA3 ⊢)
            have hgmz : w1.heap.size ≤ gm := by omega
            clear hgm
            have HB3 := Lib.hid (HB1.out.trans (HX3.out.mono HB1.out.size))
            have hr1 : ∀ q, (convert 47 9 (.slice (some ⟨gm, 0, none⟩) 16 16)).run Try.prog (w3.drewN q) = .ok (.string (str G)) (w3.drewN q) := fun q => by
              have h := run_str (P := Try.prog) (xs := G) (((HA3.out.rd 0) : Rd b8 w3 _ _ G).drewN q) 47 9 5 16 Try.underlying47 Try.underlying5 Try.underlying9
              rwa [HGl.out] at h
            have hr2 : ∀ q, (convert 47 9 (.slice (some ⟨b, off + k, none⟩) 16 (d - k))).run Try.prog (w3.drewN q) = .ok (.string (str t2)) (w3.drewN q) := fun q => by
              have h := run_str (P := Try.prog) ((H2r.out.below HB3.out).drewN q) 47 9 5 (d - k) Try.underlying47 Try.underlying5 Try.underlying9
              rwa [H2l.out] at h
            clear hth9 hk1 HMk HX2 hs2
            try clear hth HZ
            have hs3 := HX3.out.size
            by_cases heq : G = t2
            · have hsb : ((str G).toList == (str t2).toList) = true := by rw [str_beq']; simp [heq]
              have hob := HOb.out
              rw [HGe.out, if_pos heq] at hob
              have HOb2 := Lib.hid hob
              clear hob heq
              go_wp2_with fail
              go_quiet (fail)
              have HX4 := Lib.hid (below_drewN HX3.out nq)
              have HB4 := Lib.hid (below_drewN HB3.out nq)
              clear HX3 HB3 HA3 hr1 hr2 hsb
              generalize w3.drewN nq = w4 at HX4 HB4 ⊢
              go_wp2_with fail
              have hk4 := HR1.out _ HX4.out.drew
              go_region_held3 (fun w' => w'.rangeAt w.heap.size 0 Z)
                (first
                  | exact HR1.out _ (HX4.out.trans (HX5.out.mono HX4.out.size))
                  | go_keep)
                ((go_simp; go_at_call 43; refine (HMx.out _ HX4.out.drew).mono ?_; rintro e w5 ⟨v5, rfl, ho5, hb5⟩; have HX5 := Lib.hid (show Below w4.heap.size w4 w5 from below_step (by (repeat (first | exact Below.refl _ _ | refine bel_al ?_ | refine bel_dr ?_))) hb5); have HO5 := Lib.hid ho5; clear ho5 hb5))
              go_wp2_with fail
              go_ret2
              rw [HOb2.out, show openV key nonce ctx text = mixV key nonce 1 t1 by rw [HOv.out, HOb2.out]; exact if_pos rfl]
              exact ⟨_, rfl, HO5.out.less HB4.out.size, HB4.out.trans (HX5.out.mono HB4.out.size)⟩
            · have hsb : ((str G).toList == (str t2).toList) = false := by rw [str_beq']; simp [heq]
              have hob := HOb.out
              rw [HGe.out, if_neg heq] at hob
              have HOb2 := Lib.hid hob
              clear hob heq
              go_wp2_with fail
              go_quiet (fail)
              go_wp2_with fail
              go_ret2
              rw [HOb2.out, show openV key nonce ctx text = [] by rw [HOv.out, HOb2.out]; exact if_neg (by decide)]
              exact ⟨_, rfl, Own.nil_ _ _ _ _, below_drewN HB3.out nq⟩
      · have h2i : ¬ ((l : Int) > 1048592) := by omega
        have h3i : (m : Int) > 1048592 := by omega
        rw [if_pos (by omega)] at hob
        have hov : openV key nonce ctx text = [] := by rw [HOv.out, hob]; exact if_neg (by decide)
        rw [hob, hov]
        clear hob hov
        go_enter Try.func37, Try.ntmps37
        go_wp2_with fail
        go_ret2
        exact ⟨_, rfl, Own.nil_ _ _ _ _, HB1.out⟩
    · have h2i : (l : Int) > 1048592 := by omega
      rw [if_pos (by omega)] at hob
      have hov : openV key nonce ctx text = [] := by rw [HOv.out, hob]; exact if_neg (by decide)
      rw [hob, hov]
      clear hob hov
      go_enter Try.func37, Try.ntmps37
      go_wp2_with fail
      go_ret2
      exact ⟨_, rfl, Own.nil_ _ _ _ _, HB1.out⟩
  · have h1i : ¬ ((n : Int) = 12) := by omega
    rw [if_pos (by omega)] at hob
    have hov : openV key nonce ctx text = [] := by rw [HOv.out, hob]; exact if_neg (by decide)
    rw [hob, hov]
    clear hob hov
    go_enter Try.func37, Try.ntmps37
    go_wp2_with fail
    go_ret2
    exact ⟨_, rfl, Own.nil_ _ _ _ _, HB1.out⟩
end Go.Proofs.Ytkoefhbmkmepaaa
