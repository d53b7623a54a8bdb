/- CONTRACT: the reference's mark of a context and a mixed text. -/
import Derived.Test.YtkoefhbmkmepaaaAeadD
import Derived.Test.YtkoefhbmkmepaaaPolyQ
import Derived.Test.YtkoefhbmkmepaaaEight
import Derived.Test.YtkoefhbmkmepaaaPolyT
import Derived.Deep.RegionHeld3
namespace Go.Proofs.Ytkoefhbmkmepaaa
open Go.RowKit
set_option linter.unusedVariables false
set_option linter.unusedSimpArgs false

theorem own_empty (w : World) : Own b8 (w.alloc (.cells #[] 5)) w.heap.size 5 (.slice (some ⟨w.heap.size, 0, none⟩) 0 0) [] :=
  ⟨by simp, .inr ⟨w.heap.size, 0, #[], rfl, Nat.le_refl _, heap_alloc_new w _, by simp, by simp [maxLen], by simp, by simp⟩⟩
theorem bel_alR {w w' : World} {o : Obj} (h : Below w.heap.size w w') : Below w.heap.size w (w'.alloc o) := h.alloc h.size o
theorem bel_drR {w w' : World} (h : Below w.heap.size w w') : Below w.heap.size w w'.drew := h.drew
def lenVR : Value → Nat
  | .slice _ n _ => n
  | _ => 0
theorem fillN_step {n : Nat} (h : n % 16 ≠ 0) : fillN (n + 1) + 1 = fillN n := by unfold fillN; omega
theorem fillN_zero {n : Nat} (h : n % 16 = 0) : fillN n = 0 := by unfold fillN; omega
/-- the first so many bytes of a piece, as a key -/
def keyTo (BL : List (BitVec 8)) (k : Nat) : List (BitVec 8) := BL.take k ++ List.replicate (32 - k) 0#8
theorem keyTo_len (BL : List (BitVec 8)) (h : BL.length = 64) (k : Nat) (hk : k ≤ 32) : (keyTo BL k).length = 32 := by
  unfold keyTo; simp [h]; omega
theorem keyTo_set (BL : List (BitVec 8)) (h : BL.length = 64) (k : Nat) (hk : k < 32) : (keyTo BL k).set k (BL.getD k 0#8) = keyTo BL (k + 1) := by
  unfold keyTo
  obtain ⟨m, hm⟩ : ∃ m, 32 - k = m + 1 := ⟨31 - k, by omega⟩
  rw [hm, List.set_append_right _ _ (by simp; omega), show 32 - (k + 1) = m by omega, List.take_succ_eq_append_getElem (by omega)]
  have e : k - (BL.take k).length = 0 := by simp; omega
  rw [e, List.replicate_succ, List.set_cons_zero, List.append_assoc]
  simp [List.getD, show k < BL.length by omega]
theorem size64r : (Try.prog.info? 82).map (·.size) = some 64 := by kernel_rfl
theorem size32r : (Try.prog.info? 39).map (·.size) = some 32 := by kernel_rfl
set_option maxRecDepth 100000 in
set_option maxHeartbeats 4000000 in
theorem refAmark_any (w : World) (key : List (BitVec 8)) (hk : key.length = 32) (A C T : Option Addr) (n c l cc m d Bn Bc Bm : Nat) (nonce ctx mixed : List (BitVec 8))
    (hrn : Rd b8 w Bn A nonce) (hBn : Bn ≤ w.heap.size) (hn : nonce.length = n) (h12 : n = 12) (hnc : n ≤ c)
    (hrc : Rd b8 w Bc C ctx) (hBc : Bc ≤ w.heap.size) (hl : ctx.length = l) (hlb : l ≤ 1100000)
    (hrm : Rd b8 w Bm T mixed) (hBm : Bm ≤ w.heap.size) (hm : mixed.length = m) (hmb : m ≤ 1100000) :
    Calls Try.prog 44 #[arrV b8 key, .slice A n c, .slice C l cc, .slice T m d] w fun e w' => e = .returned (.agg ((tagOf key nonce ctx mixed).map b8).toArray) ∧ Below w.heap.size w w' := by
  subst h12
  obtain ⟨i0, hi0, hz0, hz1, hz2⟩ := info_parts infoU8
  have HK := Lib.hid hk
  have HN := Lib.hid hn
  have HL := Lib.hid hl
  have HM := Lib.hid hm
  have HRn := Lib.hid (hrn.more hBn)
  have HRc := Lib.hid (hrc.more hBc)
  have HRm := Lib.hid (hrm.more hBm)
  clear hk hn hl hm hrn hrc hrm hBn hBc hBm
  obtain ⟨O, hO⟩ : ∃ O, O = tagOf key nonce ctx mixed := ⟨_, rfl⟩
  have HML := Lib.hid (show O.length = 16 by rw [hO]; exact tagOf_len _ _ _ _)
  have HOe := Lib.hid hO
  rw [← hO]
  clear hO
  rw [arrV_mk]
  go_enter Try.func44, Try.ntmps44
  have HK1 := Lib.hid (Arr.alloc (Arr.new b8 w 39 key) (.cells ((List.replicate 16 0#8).map b8).toArray 76))
  go_wp2_with (refine wpList_load_arr rfl 39 (.tmp 4) rfl w.heap.size rfl _ key HK1.out _ Try.underlying39 rfl (by rw [HK.out]; exact size32r) ?_)
  have HO1 := Lib.hid (Arr.at_size b8 (w := w.alloc (.cells (key.map b8).toArray 39)) (k := w.heap.size + 1) 76 (List.replicate 16 0#8) (World.size_alloc ..))
  have HB1 := Lib.hid (show Below w.heap.size w ((w.alloc (.cells (key.map b8).toArray 39)).alloc (.cells ((List.replicate 16 0#8).map b8).toArray 76)) from ((Below.refl _ w).alloc (Nat.le_refl _) _).alloc (by simp) _)
  have hz1w : ((w.alloc (.cells (key.map b8).toArray 39)).alloc (.cells ((List.replicate 16 0#8).map b8).toArray 76)).heap.size = w.heap.size + 2 := by simp
  change Calls _ _ _ ((w.alloc (.cells (key.map b8).toArray 39)).alloc (.cells ((List.replicate 16 0#8).map b8).toArray 76)) _
  generalize (w.alloc (.cells (key.map b8).toArray 39)).alloc (.cells ((List.replicate 16 0#8).map b8).toArray 76) = w1 at HK1 HO1 HB1 hz1w ⊢
  have hws : w.heap.size + 2 ≤ w1.heap.size := by omega
  clear hz1w
  have hpc := refPiece_any key A 12 c w.heap.size nonce 0 w1 HK.out (HRn.out.below HB1.out) (by omega) HN.out hnc
  rw [show badP 12 0 = 0 from rfl, arrV_mk, arrV_mk] at hpc
  have HPc := Lib.hid hpc
  have HBl := Lib.hid (pieceV_len key nonce 0)
  have HZk := Lib.hid (show aeadKey key nonce = (pieceV key nonce 0).take 32 from by unfold aeadKey; exact (Eq.refl ((pieceV key nonce 0).take 32)))
  generalize pieceV key nonce 0 = BL at HPc HBl HZk
  clear hpc
  refine HPc.out.mono ?_
  rintro e w2 ⟨rfl, hb2⟩
  have hz2w := hb2.size
  have HB2 := Lib.hid (HB1.out.trans (hb2.mono (by omega)))
  have HO2 := Lib.hid (HO1.out.below hb2 (by omega))
  have HT2 := Lib.hid (Arr.new b8 w2 82 (List.replicate 64 0#8))
  clear hb2 HPc HB1 HO1 HK1
  go_wp2_with (refine wpList_store_arr rfl 82 (.tmp 9) (.tmp 18) rfl w2.heap.size rfl BL rfl _ _ HT2.out (by rw [HBl.out]; rfl) (by rw [HBl.out]; exact size64r) b8_one' ?_; intro w3 hx3 hg3; have HX3 := Lib.hid hx3; have HG3 := Lib.hid hg3; clear hx3 hg3)
  have hsz3 : w2.heap.size < w3.heap.size := HX3.out.lt
  have hb23 : Below w2.heap.size w2 w3 := (((Below.refl w2.heap.size w2).alloc (Nat.le_refl _) (.cells ((List.replicate 64 0#8).map b8).toArray 82)).grown HG3.out (by simp) (fun k e => by cases e; exact Nat.le_refl _))
  have HB4 := Lib.hid (show Below w.heap.size w (w3.alloc (.cells ((List.replicate 32 0#8).map b8).toArray 39)) from (HB2.out.trans (hb23.mono HB2.out.size)).alloc (by omega) _)
  have HX4 := Lib.hid (HX3.out.alloc (.cells ((List.replicate 32 0#8).map b8).toArray 39))
  have HO4 := Lib.hid ((HO2.out.below hb23 (by omega)).alloc (.cells ((List.replicate 32 0#8).map b8).toArray 39))
  have HT4 := Lib.hid (Arr.new b8 w3 39 (List.replicate 32 0#8))
  have hz4w : (w3.alloc (.cells ((List.replicate 32 0#8).map b8).toArray 39)).heap.size = w3.heap.size + 1 := by simp
  change Code.wp _ _ _ _ (w3.alloc (.cells ((List.replicate 32 0#8).map b8).toArray 39))
  generalize w3.alloc (.cells ((List.replicate 32 0#8).map b8).toArray 39) = w4 at HB4 HX4 HO4 HT4 hz4w ⊢
  clear HX3 HG3 hb23 HT2 HB2 HO2
  go_loopw [12] (fun iv wr => ∃ k : Nat, k ≤ 32 ∧ iv = .int .i64 (k : Int) ∧ Arr b8 wr w3.heap.size 39 (keyTo BL k) ∧ w4.grownBy wr (some w3.heap.size)) (fun iv _ => 32 - (intOf iv).toNat)
  case atStart => exact ⟨0, by omega, rfl, by unfold keyTo; exact HT4.out, World.grownBy.refl _ _⟩
  case round =>
    obtain ⟨k, hk32, rfl, ha, hg⟩ := hrel
    have HA := Lib.hid ha
    have HG := Lib.hid hg
    have hzr := hg.size
    have hxr := Arr.grown HX4.out hg (by intro e; have := Option.some.inj e; omega)
    by_cases hlt : k < 32
    · obtain ⟨x, hx⟩ : ∃ x, x = BL.getD k 0#8 := ⟨_, rfl⟩
      have c1 := hxr.cellD (k := k) (by rw [HBl.out]; omega) 0#8
      rw [← hx] at c1
      have c1' : wr.cell? ⟨w2.heap.size, k, none⟩ = some (.int .u8 (bv x)) := c1
      obtain ⟨y, hy⟩ : ∃ y, (keyTo BL k)[k]? = some y := ⟨_, List.getElem?_eq_getElem (by rw [keyTo_len BL HBl.out k hk32]; omega)⟩
      have c2 : wr.cell? ⟨w3.heap.size, k, none⟩ = some (.int .u8 (bv y)) := ha.at_ hy
      have f2 := ha.frozen k
      have hli : (k : Int) < 32 := by omega
      have HS := Lib.hid (show Arr b8 (wr.setCell ⟨w3.heap.size, k, none⟩ (.int .u8 (bv x))) w3.heap.size 39 (keyTo BL (k + 1)) by
        have h := ha.set_ k x
        rw [hx, keyTo_set BL HBl.out k hlt, ← hx] at h; exact h)
      clear hx hy ha hg hxr c1
      go_wp2_with fail
      exact ⟨⟨k + 1, by omega, by simp, HS.out, grownBy_trans HG.out (gb_set wr w3.heap.size k (.int .u8 (bv x))) (fun g e => .inl e)⟩, by simp [intOf]; omega⟩
    · obtain rfl : k = 32 := by omega
      rw [show (((32 : Nat)) : Int) = 32 from rfl]
      have HKf := Lib.hid (show Arr b8 wr w3.heap.size 39 (aeadKey key nonce) from ha.cast (by unfold keyTo; rw [HZk.out]; simp))
      have HOf := Lib.hid (HO4.out.grown hg (by intro e; have := Option.some.inj e; omega))
      have HBf := Lib.hid (HB4.out.grown hg HB4.out.size (fun k e => by have := Option.some.inj e; omega))
      have hzf : w3.heap.size + 1 ≤ wr.heap.size := by omega
      clear ha hg hxr HA HG hzr HX4 HO4 HB4 HT4 hz4w HZk HBl hlt hk32
      generalize wr = wf at HKf HOf HBf hzf ⊢
      have HE5 := Lib.hid (show Own b8 (wf.alloc (.cells #[] 5)) wf.heap.size 5 (.slice (some ⟨wf.heap.size, 0, none⟩) 0 0) [] from own_empty wf)
      go_wp2_with (at_builtin; go_loud (refine wpList_append_rd rfl (.tmp 29) (.tmp 30) 47 rfl b8_one wf.heap.size 5 i0 _ 1 Try.underlying47 hi0 hz0 hz1 hz2 rfl _ _ rfl HE5.out w.heap.size _ _ _ ctx rfl HL.out.symm ((HRc.out.below HBf.out).alloc HBf.out.size _) (by have := HL.out; first | (simp [maxLen]; done) | (simp [maxLen]; omega)) (by have := HL.out; first | (simp; done) | (simp; omega)) (by have := HBf.out.size; (first | omega | (simp; done) | (simp; omega) | (simp at *; omega))) ?_; intro v5 w5 hown5 hg5 hbb5))
      obtain ⟨A5, c5, rfl, -, -, -, -⟩ := hown5.shape' (n := l) (by simp [HL.out])
      have HO5 := Lib.hid (hown5.cast (List.nil_append ctx))
      have HBx5 := Lib.hid (show Below wf.heap.size wf w5 from hbb5 _ _ (Nat.le_refl _) ((Below.refl _ wf).alloc (Nat.le_refl _) _))
      have HF := Lib.hid (show fillN l = fillN ctx.length by rw [HL.out])
      clear hown5 hg5 hbb5 HE5
      go_loopw [13] (fun v wr => ∃ k n5 A5 c5, v = .slice A5 n5 c5 ∧ n5 = l + k ∧ k + fillN n5 = fillN l ∧ Own b8 wr wf.heap.size 5 v (ctx ++ List.replicate k 0#8) ∧ Below wf.heap.size wf wr) (fun v _ => fillN (lenVR v))
      case atStart => exact ⟨0, l, A5, c5, rfl, rfl, by omega, by simpa using HO5.out, HBx5.out⟩
      case round =>
        obtain ⟨k, n5, A5, c5, rfl, hn5, hk5, ho, hb⟩ := hrel
        have HO := Lib.hid ho
        have HB := Lib.hid hb
        have HN5 := Lib.hid hn5
        have HK5 := Lib.hid hk5
        have hkb : k ≤ 16 := by unfold fillN at hk5; omega
        have hnb : n5 ≤ 1200000 := by omega
        have hzb := hb.size
        have hlx : (ctx ++ List.replicate k 0#8).length = n5 := by rw [List.length_append, List.length_replicate, HL.out, hn5]
        have HLx := Lib.hid hlx
        clear ho hb hn5 hk5 hlx
        by_cases h16 : n5 % 16 = 0
        · have h16i : (n5 : Int) % 16 = 0 := by omega
          have hk0 : k = fillN l := by have := HK5.out; rw [fillN_zero h16] at this; omega
          obtain ⟨X, hX⟩ : ∃ X, X = ctx ++ List.replicate k 0#8 := ⟨_, rfl⟩
          rw [← hX] at HO HLx
          have HX := Lib.hid hX
          have HFm := Lib.hid (show fillN (n5 + m) = fillN m by unfold fillN; omega)
          have HK0 := Lib.hid hk0
          clear hX hk0 HK5 HN5 HO5 HBx5
          have hnf := HBf.out.size
          go_wp2_with (at_builtin; refine wpList_append_rd rfl (.tmp 39) (.tmp 40) 47 rfl b8_one wf.heap.size 5 i0 _ 1 Try.underlying47 hi0 hz0 hz1 hz2 rfl _ _ rfl HO.out w.heap.size _ _ _ mixed rfl HM.out.symm ((HRm.out.below HBf.out).below (HB.out.mono hnf)) (by have := HLx.out; have := HM.out; simp only [maxLen]; omega) (by have := HLx.out; have := HM.out; omega) (by omega) ?_; intro v6 w6 hown6 hg6 hbb6; obtain ⟨A6, c6, rfl, -, -, -, -⟩ := hown6.shape' (n := n5 + m) (by rw [List.length_append, HLx.out, HM.out]))
          have HO6 := Lib.hid hown6
          have HB6 := Lib.hid (show Below wf.heap.size wf w6 from hbb6 _ _ (Nat.le_refl _) HB.out)
          clear hown6 hg6 hbb6 HO HB
          obtain ⟨N2, hN2⟩ : ∃ N2, N2 = n5 + m := ⟨_, rfl⟩
          rw [← hN2] at HFm ⊢
          have hl2 : (X ++ mixed).length = N2 := by rw [List.length_append, HLx.out, HM.out, hN2]
          have hN2b : N2 ≤ 2400000 := by omega
          obtain ⟨X2, hX2⟩ : ∃ X2, X2 = X ++ mixed := ⟨_, rfl⟩
          rw [← hX2] at hl2 HO6
          rw [← hN2] at HO6
          have HX2 := Lib.hid hX2
          have HL2 := Lib.hid hl2
          clear hX2 hl2 hN2 HLx hnb hzb hkb h16 h16i
          go_loopw [13] (fun v wr => ∃ k n5 A5 c5, v = .slice A5 n5 c5 ∧ n5 = N2 + k ∧ k + fillN n5 = fillN N2 ∧ Own b8 wr wf.heap.size 5 v (X2 ++ List.replicate k 0#8) ∧ Below wf.heap.size wf wr) (fun v _ => fillN (lenVR v))
          case atStart => exact ⟨0, N2, A6, c6, rfl, rfl, by omega, by simpa using HO6.out, HB6.out⟩
          case round =>
            obtain ⟨k2, n7, A7, c7, rfl, hn7, hk7, ho, hb⟩ := hrel
            have HO := Lib.hid ho
            have HB := Lib.hid hb
            have HN7 := Lib.hid hn7
            have HK7 := Lib.hid hk7
            have hkb : k2 ≤ 16 := by unfold fillN at hk7; omega
            have hnb : n7 ≤ 2500000 := by omega
            have hzb := hb.size
            have hlx : (X2 ++ List.replicate k2 0#8).length = n7 := by rw [List.length_append, List.length_replicate, HL2.out, hn7]
            have HLx := Lib.hid hlx
            clear ho hb hn7 hk7 hlx
            by_cases h16 : n7 % 16 = 0
            · have h16i : (n7 : Int) % 16 = 0 := by omega
              have hk0 : k2 = fillN m := by have := HK7.out; rw [fillN_zero h16] at this; rw [← HFm.out]; omega
              obtain ⟨X3, hX3⟩ : ∃ X3, X3 = X2 ++ List.replicate k2 0#8 := ⟨_, rfl⟩
              rw [← hX3] at HO HLx
              have HX3 := Lib.hid hX3
              have HK2 := Lib.hid hk0
              clear hX3 hk0 HK7 HN7 HO6 HB6
              go_wp2_with fail
              refine (eight_any l (by omega) _).mono ?_
              rintro e w8 ⟨v8, rfl, ho8, hb8⟩
              have hl8 : (le8 (BitVec.ofNat 64 l)).length = 8 := le8_len _
              obtain ⟨A8, c8, rfl, hr8, -, -, -⟩ := ho8.shape' hl8
              have HO8 := Lib.hid (HO.out.below hb8 (Nat.le_refl _))
              have HB8 := Lib.hid (HB.out.trans (hb8.mono hzb))
              have HR8 := Lib.hid hr8
              have hz8 := hb8.size
              clear ho8 hb8 hr8 HO HB
              go_wp2_with (at_builtin; refine wpList_append_rd rfl (.tmp 49) (.tmp 52) 47 rfl b8_one wf.heap.size 5 i0 _ 1 Try.underlying47 hi0 hz0 hz1 hz2 rfl _ _ rfl HO8.out w8.heap.size _ 8 _ _ rfl hl8.symm HR8.out (by have := HLx.out; simp only [maxLen]; omega) (by have := HLx.out; omega) (by omega) ?_; intro v9 w9 hown9 hg9 hbb9; obtain ⟨A9, c9, rfl, -, -, -, -⟩ := hown9.shape' (n := n7 + 8) (by rw [List.length_append, HLx.out, hl8]))
              obtain ⟨X9, hX9⟩ : ∃ X9, X9 = X3 ++ le8 (BitVec.ofNat 64 l) := ⟨_, rfl⟩
              rw [← hX9] at hown9
              obtain ⟨N9, hN9⟩ : ∃ N9, N9 = n7 + 8 := ⟨_, rfl⟩
              rw [← hN9] at hown9 ⊢
              have hl9 : X9.length = N9 := by rw [hX9, List.length_append, HLx.out, hl8, hN9]
              have hN9b : N9 ≤ 2500008 := by omega
              have HO9 := Lib.hid hown9
              have HB9 := Lib.hid (show Below wf.heap.size wf w9 from hbb9 _ _ (Nat.le_refl _) HB8.out)
              have hz9 := HB9.out.size
              have HL9 := Lib.hid hl9
              obtain ⟨Z, hZ⟩ : ∃ Z, Z = (aeadKey key nonce).map b8 := ⟨_, rfl⟩
              have hZl : Z.length = 32 := by rw [hZ, List.length_map, aeadKey_len]
              have HR9 := Lib.hid (show ∀ W', Below wf.heap.size wf W' → W'.rangeAt w3.heap.size 0 Z from fun W' hb => by
                rw [hZ]; exact (HKf.out.below hb (by omega)).whole)
              have hk9 := HR9.out _ HB9.out.drew
              have hu := Try.underlying39
              have hi32 : (Try.prog.info? 39).map (·.size) = some Z.length := by rw [hZl]; exact size32r
              obtain ⟨Y, hY⟩ : ∃ Y, Y = O.map b8 := ⟨_, rfl⟩
              have hYl : Y.length = 16 := by rw [hY, List.length_map, HML.out]
              have hYi : (Try.prog.info? 76).map (·.size) = some Y.length := by rw [hYl]; exact size16r
              have hYo : ∀ v ∈ Y, v.oneCell' = true := by rw [hY]; intro v hv; obtain ⟨u, -, rfl⟩ := List.mem_map.1 hv; exact b8_one u
              have htx : X9 ++ le8 (BitVec.ofNat 64 m) = aeadText ctx mixed := by
                unfold aeadText; rw [hX9, HX3.out, HX2.out, HX.out, HK0.out, HK2.out, HL.out, HM.out]; simp [List.append_assoc]
              have HMk := Lib.hid (show ∀ (W : World) (A' : Option Addr) (c' : Nat), Rd b8 W W.heap.size A' (X9 ++ le8 (BitVec.ofNat 64 m)) → N9 + 8 ≤ c' → Calls Try.prog 52 #[.agg Z.toArray, .slice A' (N9 + 8) c'] W fun e w' => e = .returned (.agg Y.toArray) ∧ Below W.heap.size W w' from fun W A' c' hr hc => by
                have h := refMark_any W (aeadKey key nonce) (aeadKey_len _ _) W.heap.size (N9 + 8) c' A' _ hr (Nat.le_refl _) (by rw [List.length_append, hl9, le8_len]) hc (by omega)
                rw [← hZ, htx] at h
                refine h.mono ?_
                rintro e w' ⟨rfl, hb⟩
                refine ⟨?_, hb⟩
                rw [hY, HOe.out]
                exact (Eq.refl (Ending.returned (.agg ((markV (aeadKey key nonce) (aeadText ctx mixed)).map b8).toArray))))
              have HE := Lib.hid (show ∀ W : World, Calls Try.prog 51 #[.int .i64 (m : Int)] W fun e w' => ∃ v, e = .returned v ∧ Own b8 w' W.heap.size 5 v (le8 (BitVec.ofNat 64 m)) ∧ Below W.heap.size W w' from fun W => eight_any m (by omega) W)
              have HY := Lib.hid hY
              have HYl := Lib.hid hYl
              have HOf9 := Lib.hid (show ∀ W', Below wf.heap.size wf W' → W'.there (w.heap.size + 1) 0 Y.length from fun W' hb => Arr.there (HOf.out.below hb (by omega)) (by rw [hYl]; simp))
              have HSt := Lib.hid (show ∀ W', Below wf.heap.size wf W' → (W'.setCells (w.heap.size + 1) 0 Y).rangeAt w3.heap.size 0 Z ∧ Arr b8 (W'.setCells (w.heap.size + 1) 0 Y) (w.heap.size + 1) 76 O ∧ W'.grownBy (W'.setCells (w.heap.size + 1) 0 Y) (some (w.heap.size + 1)) from fun W' hb => by
                obtain ⟨h1, h2⟩ := arr_setCells (f := b8) O [] (List.replicate 16 0#8) W' (by rw [HML.out]; rfl) (HOf.out.below hb (by omega))
                rw [← hY] at h1 h2
                refine ⟨?_, h1, h2⟩
                rw [hZ]; exact ((HKf.out.below hb (by omega)).grown h2 (by intro e; have := Option.some.inj e; omega)).whole)
              clear hown9 hg9 hbb9 hX9 hN9 hl9 hZ hY hYl hZl htx HO8 HB8 HR8 HX3 HX2 HX HK0 HK2 HFm hl8
              go_region_held3 (fun w' => w'.rangeAt w3.heap.size 0 Z)
                (first
                  | exact (HSt.out _ HX12.out).1
                  | exact HR9.out _ HX12.out
                  | exact HR9.out _ HX11.out
                  | exact HR9.out _ HX10.out
                  | go_keep)
                (first
                  | (go_simp; go_at_call 51; refine (HE.out _).mono ?_; rintro e w10 ⟨v10, rfl, ho10, hb10⟩; obtain ⟨A10, c10, rfl, hr10, -, -, -⟩ := ho10.shape' (le8_len _); have HW10 := Lib.hid (show Below w9.heap.size w9 w10 from below_step (by (repeat (first | exact Below.refl _ _ | refine bel_alR ?_ | refine bel_drR ?_))) hb10); have HX10 := Lib.hid (HB9.out.trans (HW10.out.mono hz9)); have hz10 := HX10.out.size; have HR10 := Lib.hid hr10; have HO10 := Lib.hid (HO9.out.below HW10.out (Nat.le_refl _)); clear ho10 hb10 hr10)
                  | (refine step_append_rd rfl (.tmp 55) (.tmp 58) 47 rfl b8_one wf.heap.size 5 i0 _ 1 Try.underlying47 hi0 hz0 hz1 hz2 rfl _ X9 rfl HO10.out w10.heap.size A10 8 c10 (le8 (BitVec.ofNat 64 m)) rfl (le8_len _).symm HR10.out (by have := HL9.out; simp only [maxLen, le8_len]; omega) (by have := HL9.out; simp only [le8_len]; omega) (by omega) ?_; intro v11 w11 hown11 hg11 hbb11; obtain ⟨A11, c11, rfl, hr11, -, hc11, -⟩ := hown11.shape' (n := N9 + 8) (by rw [List.length_append, HL9.out, le8_len]); have HX11 := Lib.hid (hbb11 _ _ (Nat.le_refl _) HX10.out); have HR11 := Lib.hid hr11; clear hown11 hg11 hbb11 hr11)
                  | (go_simp; go_at_call 52; refine (HMk.out w11 A11 c11 HR11.out hc11).mono ?_; rintro e w12 ⟨rfl, hb12⟩; have HX12 := Lib.hid (HX11.out.trans (hb12.mono HX11.out.size)); have hth := HOf9.out _ HX12.out; clear hb12))
              have HF := Lib.hid (HSt.out _ HX12.out)
              have hsf := HX12.out.size
              go_wp2_with fail
              refine bodyPost_ret (v := .agg (O.map b8).toArray) (results_arr (g := w.heap.size + 1) rfl _ _ _ _ _ rfl HF.out.2.1 Try.underlying76 rfl (by rw [size16r, HML.out])) rfl ?_
              refine ⟨rfl, ?_⟩
              have hb12 := HBf.out.trans (HX12.out.mono HBf.out.size)
              exact hb12.grown HF.out.2.2 hb12.size (fun k e => by cases e; omega)
            · have h16i : ¬ ((n7 : Int) % 16 = 0) := by omega
              go_wp2_with (at_builtin; refine wpList_append_rd rfl (.tmp 46) (.tmp 47) 47 rfl b8_one wf.heap.size 5 i0 _ 1 Try.underlying47 hi0 hz0 hz1 hz2 rfl _ _ rfl (HO.out.alloc _) (wr.heap.size + 1) _ 1 1 [0#8] rfl rfl (Rd.new b8 wr 5 [0#8]) (by have := HLx.out; simp only [maxLen, List.length_cons, List.length_nil]; omega) (by have := HLx.out; simp only [List.length_cons, List.length_nil]; omega) (by (first | omega | (simp; done) | (simp; omega) | (simp at *; omega))) ?_; intro v6 w6 hown6 hg6 hbb6; obtain ⟨A6, c6, rfl, -, -, -, -⟩ := hown6.shape' (n := n7 + 1) (by rw [List.length_append, HLx.out]; rfl))
              refine ⟨⟨k2 + 1, n7 + 1, A6, c6, rfl, by rw [HN7.out]; omega, by have := fillN_step h16; have := HK7.out; omega, by rw [List.replicate_succ', ← List.append_assoc]; exact hown6, hbb6 _ _ (Nat.le_refl _) (HB.out.alloc (by omega) _)⟩, by have := fillN_step h16; simp only [lenVR]; omega⟩
        · have h16i : ¬ ((n5 : Int) % 16 = 0) := by omega
          go_wp2_with (at_builtin; refine wpList_append_rd rfl (.tmp 36) (.tmp 37) 47 rfl b8_one wf.heap.size 5 i0 _ 1 Try.underlying47 hi0 hz0 hz1 hz2 rfl _ _ rfl (HO.out.alloc _) (wr.heap.size + 1) _ 1 1 [0#8] rfl rfl (Rd.new b8 wr 5 [0#8]) (by have := HLx.out; simp only [maxLen, List.length_cons, List.length_nil]; omega) (by have := HLx.out; simp only [List.length_cons, List.length_nil]; omega) (by (first | omega | (simp; done) | (simp; omega) | (simp at *; omega))) ?_; intro v6 w6 hown6 hg6 hbb6; obtain ⟨A6, c6, rfl, -, -, -, -⟩ := hown6.shape' (n := n5 + 1) (by rw [List.length_append, HLx.out]; rfl))
          refine ⟨⟨k + 1, n5 + 1, A6, c6, rfl, by rw [HN5.out]; omega, by have := fillN_step h16; have := HK5.out; omega, by rw [List.replicate_succ', ← List.append_assoc]; exact hown6, hbb6 _ _ (Nat.le_refl _) (HB.out.alloc (by omega) _)⟩, by have := fillN_step h16; simp only [lenVR]; omega⟩
end Go.Proofs.Ytkoefhbmkmepaaa
