/- CONTRACT: the mark at the sum's end. -/
import Derived.Test.YtkoefhbmkmepaaaPolyA
import Derived.Test.YtkoefhbmkmepaaaSlc
namespace Go.Proofs.Ytkoefhbmkmepaaa
open Go.RowKit
set_option linter.unusedVariables false
set_option linter.unusedSimpArgs false
attribute [local go_sem] add64_zero add64_five add64_none add64_go

theorem size16e : (Try.prog.info? 76).map (·.size) = some 16 := by kernel_rfl
def lessN (h : BitVec 64 × BitVec 64 × BitVec 64) : Nat → BitVec 64 × BitVec 64 × BitVec 64
  | 0 => h
  | i + 1 => lessW (lessN h i)
set_option maxRecDepth 100000 in
set_option maxHeartbeats 4000000 in
theorem end_any (w : World) (b : Nat) (h0 h1 h2 r0 r1 : BitVec 64) (hs : SumA w b (h0, h1, h2) r0 r1) (key : List (BitVec 8)) (hk : key.length = 32) :
    Calls Try.prog 60 #[.pointer (some ⟨b, 0, none⟩), .agg (key.map b8).toArray] w fun e w' => e = .returned (.agg ((le8 (endW (h0, h1, h2) (low8 (key.drop 16)) (low8 (key.drop 24))).1 ++ le8 (endW (h0, h1, h2) (low8 (key.drop 16)) (low8 (key.drop 24))).2).map b8).toArray) ∧ Below w.heap.size w w' := by
  have HS := Lib.hid hs
  have hlt : b < w.heap.size := Arr.lt hs
  have HK := Lib.hid hk
  have s0 : w.cell? ⟨b, 0, none⟩ = some (.int .u64 (bv h0)) := Arr.at_ hs rfl
  have s1 : w.cell? ⟨b, 1, none⟩ = some (.int .u64 (bv h1)) := Arr.at_ hs rfl
  have s2 : w.cell? ⟨b, 2, none⟩ = some (.int .u64 (bv h2)) := Arr.at_ hs rfl
  clear hs hk
  go_enter Try.func60, Try.ntmps60
  go_wp2_with fail
  obtain ⟨H, hH0, hHs⟩ : ∃ H : Nat → BitVec 64 × BitVec 64 × BitVec 64, H 0 = (h0, h1, h2) ∧ ∀ i, H (i + 1) = lessW (H i) := ⟨lessN (h0, h1, h2), rfl, fun _ => rfl⟩
  have HHs := Lib.hid hHs
  have HK1 := Lib.hid (Arr.alloc (Arr.alloc (Arr.new b8 w 39 key) (.cells ((List.replicate 16 0#8).map b8).toArray 76)) (.cells ([h0, h1, h2].map u64v).toArray 100))
  have HO1 := Lib.hid (Arr.alloc (Arr.at_size b8 (w := w.alloc (.cells (key.map b8).toArray 39)) (k := w.heap.size + 1) 76 (List.replicate 16 0#8) (World.size_alloc ..)) (.cells ([h0, h1, h2].map u64v).toArray 100))
  have HH1 := Lib.hid (Arr.at_size u64v (w := (w.alloc (.cells (key.map b8).toArray 39)).alloc (.cells ((List.replicate 16 0#8).map b8).toArray 76)) (k := w.heap.size + 1 + 1) 100 [h0, h1, h2] (by rw [World.size_alloc, World.size_alloc]))
  have HB1 := Lib.hid (show Below w.heap.size w (((w.alloc (.cells (key.map b8).toArray 39)).alloc (.cells ((List.replicate 16 0#8).map b8).toArray 76)).alloc (.cells ([h0, h1, h2].map u64v).toArray 100)) from (((Below.refl _ w).alloc (Nat.le_refl _) _).alloc (by simp) _).alloc (by simp; omega) _)
  have hz1' : (((w.alloc (.cells (key.map b8).toArray 39)).alloc (.cells ((List.replicate 16 0#8).map b8).toArray 76)).alloc (.cells ([h0, h1, h2].map u64v).toArray 100)).heap.size = w.heap.size + 1 + 1 + 1 := by simp
  change Code.wp _ _ _ _ (((w.alloc (.cells (key.map b8).toArray 39)).alloc (.cells ((List.replicate 16 0#8).map b8).toArray 76)).alloc (.cells ([h0, h1, h2].map u64v).toArray 100))
  generalize ((w.alloc (.cells (key.map b8).toArray 39)).alloc (.cells ((List.replicate 16 0#8).map b8).toArray 76)).alloc (.cells ([h0, h1, h2].map u64v).toArray 100) = w1 at HK1 HO1 HH1 HB1 hz1' ⊢
  have hz1 : w1.heap.size = w.heap.size + 1 + 1 + 1 := by have := HH1.out.lt; exact hz1'
  go_loopw [18] (fun iv wr => ∃ i : Nat, i ≤ 2 ∧ iv = .int .i64 (i : Int) ∧ Arr u64v wr (w.heap.size + 1 + 1) 100 [(H i).1, (H i).2.1, (H i).2.2] ∧ w1.grownBy wr (some (w.heap.size + 1 + 1))) (fun iv _ => 2 - (intOf iv).toNat)
  case atStart => exact ⟨0, by omega, rfl, by rw [hH0]; exact HH1.out, World.grownBy.refl _ _⟩
  case round =>
    obtain ⟨i, hi2, rfl, ha, hg⟩ := hrel
    by_cases hlt2 : i < 2
    · obtain ⟨p0, p1, p2, hp⟩ : ∃ p0 p1 p2, H i = (p0, p1, p2) := ⟨_, _, _, rfl⟩
      have HNx := Lib.hid (show H (i + 1) = lessW (p0, p1, p2) by rw [HHs.out, hp])
      rw [hp] at ha
      have HA := Lib.hid ha
      have HG := Lib.hid hg
      have s0 : wr.cell? ⟨w.heap.size + 1 + 1, 0, none⟩ = some (.int .u64 (bv p0)) := ha.at_ rfl
      have s1 : wr.cell? ⟨w.heap.size + 1 + 1, 1, none⟩ = some (.int .u64 (bv p1)) := ha.at_ rfl
      have s2 : wr.cell? ⟨w.heap.size + 1 + 1, 2, none⟩ = some (.int .u64 (bv p2)) := ha.at_ rfl
      have k1 : (cy p0 5#64 0#64).toNat ≤ 1 := cy_le _ _ _ (by simp)
      have f0 := ha.frozen 0
      have f1 := ha.frozen 1
      have f2 := ha.frozen 2
      have hli : (i : Int) < 2 := by omega
      clear hp ha hg
      obtain ⟨T, hT⟩ : ∃ T, T = p2 + cy p1 0#64 (cy p0 5#64 0#64) := ⟨_, rfl⟩
      have HT := Lib.hid hT
      by_cases h4 : 4 ≤ T.toNat
      · have hge : (4 : Int) ≤ bv (p2 + cy p1 0#64 (cy p0 5#64 0#64)) := by rw [← hT]; unfold bv; omega
        clear hT
        go_wp2_with fail
        refine ⟨⟨i + 1, by omega, by simp, ?_, ?_⟩, by simp [intOf]; omega⟩
        · rw [HNx.out]
          have e : lessW (p0, p1, p2) = (ad p0 5#64 0#64, ad p1 0#64 (cy p0 5#64 0#64), T - 4#64) := by
            rw [HT.out] at h4 ⊢; exact if_pos h4
          rw [e, HT.out]
          exact ((HA.out.set_ 0 (ad p0 5#64 0#64)).set_ 1 (ad p1 0#64 (cy p0 5#64 0#64))).set_ 2 (p2 + cy p1 0#64 (cy p0 5#64 0#64) - 4#64)
        · exact grownBy_trans (grownBy_trans (grownBy_trans HG.out (gb_set _ _ _ _) (fun g e => .inl e)) (gb_set _ _ _ _) (fun g e => .inl e)) (gb_set _ _ _ _) (fun g e => .inl e)
      · have hge : bv (p2 + cy p1 0#64 (cy p0 5#64 0#64)) < (4 : Int) := by rw [← hT]; unfold bv; omega
        clear hT
        go_wp2_with fail
        refine ⟨⟨i + 1, by omega, by simp, ?_, HG.out⟩, by simp [intOf]; omega⟩
        rw [HNx.out]
        have e : lessW (p0, p1, p2) = (p0, p1, p2) := by
          rw [HT.out] at h4; exact if_neg h4
        rw [e]
        exact HA.out
    · obtain rfl : i = 2 := by omega
      obtain ⟨q0, q1, q2, hq⟩ : ∃ q0 q1 q2, H 2 = (q0, q1, q2) := ⟨_, _, _, rfl⟩
      have hq' : lessW (lessW (h0, h1, h2)) = (q0, q1, q2) := by rw [← hq, HHs.out, HHs.out, hH0]
      rw [hq] at ha
      obtain ⟨x0, hx0⟩ : ∃ x, x = low8 (key.drop 16) := ⟨_, rfl⟩
      obtain ⟨x1, hx1⟩ : ∃ x, x = low8 (key.drop 24) := ⟨_, rfl⟩
      obtain ⟨a, haE⟩ : ∃ a, a = ad q0 x0 0#64 := ⟨_, rfl⟩
      obtain ⟨b', hbE⟩ : ∃ b', b' = ad q1 x1 (cy q0 x0 0#64) := ⟨_, rfl⟩
      have HE := Lib.hid (show endW (h0, h1, h2) (low8 (key.drop 16)) (low8 (key.drop 24)) = (a, b') by unfold endW; rw [hq', ← hx0, ← hx1, haE, hbE]; exact (Eq.refl (ad q0 x0 0#64, ad q1 x1 (cy q0 x0 0#64))))
      have HBr := Lib.hid (show Below w.heap.size w wr from HB1.out.grown hg HB1.out.size (fun k e => by have := Option.some.inj e; omega))
      have HKr := Lib.hid (show Arr b8 wr w.heap.size 39 key from HK1.out.grown hg (by intro e; have := Option.some.inj e; omega))
      have HOr := Lib.hid (show Arr b8 wr (w.heap.size + 1) 76 (List.replicate 16 0#8) from HO1.out.grown hg (by intro e; have := Option.some.inj e; omega))
      have hzr : w.heap.size + 1 + 1 + 1 ≤ wr.heap.size := by have := hg.size; omega
      have s0 : wr.cell? ⟨w.heap.size + 1 + 1, 0, none⟩ = some (.int .u64 (bv q0)) := ha.at_ rfl
      have s1 : wr.cell? ⟨w.heap.size + 1 + 1, 1, none⟩ = some (.int .u64 (bv q1)) := ha.at_ rfl
      have HC0 := Lib.hid (show ∀ W : World, Arr b8 W w.heap.size 39 key → Calls Try.prog 57 #[.slice (some ⟨w.heap.size, 16, none⟩) 16 16] W fun e w' => e = .returned (.int .u64 (bv x0)) ∧ W = w' from fun W h => by rw [hx0]; exact low_any W _ _ _ _ _ (h.rd 16) (by rw [List.length_drop, HK.out]) (by omega))
      have HC1 := Lib.hid (show ∀ W : World, Arr b8 W w.heap.size 39 key → Calls Try.prog 57 #[.slice (some ⟨w.heap.size, 24, none⟩) 8 8] W fun e w' => e = .returned (.int .u64 (bv x1)) ∧ W = w' from fun W h => by rw [hx1]; exact low_any W _ _ _ _ _ (h.rd 24) (by rw [List.length_drop, HK.out]) (by omega))
      have k2 : (cy q0 x0 0#64).toNat ≤ 1 := cy_le _ _ _ (by simp)
      have HAe := Lib.hid haE
      have HBe := Lib.hid hbE
      clear hx0 hx1 haE hbE hq hq' ha hg HHs hHs hH0 HK1 HO1 HH1 HB1 hz1
      go_wp2_with fail
      go_quiet ((go_at_call 57; exact quiet_same (HC0.out _ (HKr.out.drewN _))))
      go_wp2_with fail
      have s1' : (wr.drewN nq).cell? ⟨w.heap.size + 1 + 1, 1, none⟩ = some (.int .u64 (bv q1)) := s1
      have HK2 := Lib.hid (HKr.out.drewN nq)
      have HO2 := Lib.hid (HOr.out.drewN nq)
      have HB2 := Lib.hid (below_drewN HBr.out nq)
      have hz2 : w.heap.size + 1 + 1 + 1 ≤ (wr.drewN nq).heap.size := hzr
      clear s0 s1 HKr HOr HBr hzr
      generalize wr.drewN nq = w2 at s1' HK2 HO2 HB2 hz2 ⊢
      go_quiet ((go_at_call 57; exact quiet_same (HC1.out _ (HK2.out.drewN _))))
      rw [← HBe.out, ← HAe.out]
      have HO3 := Lib.hid (HO2.out.drewN nq)
      have HB3 := Lib.hid (below_drewN HB2.out nq)
      have hz3 : w.heap.size + 1 + 1 + 1 ≤ (w2.drewN nq).heap.size := hz2
      clear s1' HK2 HO2 HB2 hz2 HC0 HC1 k2
      generalize w2.drewN nq = w3 at HO3 HB3 hz3 ⊢
      go_wp2_with fail
      have hl8 : ∀ n, (le8 n).length = 8 := fun n => by simp [le8]
      have tok1 : True := trivial
      have tok2 : True := trivial
      go_region_held3 (fun _ => True) (trivial)
        (first
          | (go_simp; go_at_call 40; have _t := tok1; clear tok1; refine (put_any _ _).mono ?_; rintro e w5 ⟨v5, rfl, ho5, hb5⟩; obtain ⟨A5, c5, rfl, hr5, -, -, -⟩ := ho5.shape' (hl8 _); have hz5 : w3.heap.size ≤ w5.heap.size := hb5.size; have HB5 := Lib.hid (show Below w3.heap.size w3 w5 from (Below.refl _ w3).drew.trans hb5); have HR5 := Lib.hid hr5; clear hb5 hr5 ho5)
          | (go_simp; go_at_call 40; have _t := tok2; clear tok2; refine (put_any _ _).mono ?_; rintro e w6 ⟨v6, rfl, ho6, hb6⟩; obtain ⟨A6, c6, rfl, hr6, -, -, -⟩ := ho6.shape' (hl8 _); have hz6 : w5.heap.size ≤ w6.heap.size := hb6.size; have HB6 := Lib.hid (show Below w3.heap.size w3 w6 from HB5.out.trans (hb6.mono hz5)); have HR6 := Lib.hid hr6; have HR56 := Lib.hid ((HR5.out.below hb6).more hz6); clear hb6 hr6 ho6)
          | (go_simp; go_at_call 32; refine (concat_two w6 w6.heap.size 8 c5 8 c6 A5 A6 (le8 a) (le8 b') HR56.out HR6.out (Nat.le_refl _) (hl8 _).symm (hl8 _).symm (by rw [hl8, hl8]; omega)).mono ?_; rintro e w7 ⟨v7, rfl, ho7, hb7⟩; obtain ⟨A7, c7, rfl, hr7, -, -, -⟩ := ho7.shape' (n := 16) (by rw [List.length_append, hl8, hl8]); have hz7 : w6.heap.size ≤ w7.heap.size := hb7.size; have HB7 := Lib.hid (show Below w3.heap.size w3 w7 from HB6.out.trans (hb7.mono (by omega))); have HR7 := Lib.hid hr7; have HO7 := Lib.hid (HO3.out.below HB7.out (by omega)); clear hb7 hr7 ho7)
          | (refine step_copy_splice rfl (.tmp 62) (.tmp 68) 47 47 rfl 5 Try.underlying47 sizeU8a (some ⟨w.heap.size + 1, 0, none⟩) A7 16 16 16 c7 rfl rfl (w.heap.size + 1) 0 ((List.replicate 16 0#8).map b8) 76 HO7.out ((le8 a ++ le8 b').map b8) (by rw [List.length_map, List.length_append, hl8, hl8]; rfl) (fun hp => ⟨rfl, by obtain ⟨b9, off', e', hb', hc'⟩ := HR7.out (by simpa using hp); exact ⟨_, e', HR7.out.cells e'⟩⟩) (by rw [List.length_map, List.length_map, List.length_replicate, List.length_append, hl8, hl8]; omega) (fun v hv => by obtain ⟨x, -, rfl⟩ := List.mem_map.1 hv; exact b8_one x) (w.heap.size + 1) w7 (Below.refl _ _) (Nat.le_refl _) ?_; intro w8 hx8 hb8))
      have e16 : splice ((List.replicate 16 0#8).map b8) 0 ((le8 a ++ le8 b').map b8) = (le8 a ++ le8 b').map b8 := by
        rw [splice_m, List.length_append, hl8, hl8]; simp
      have HO8 := Lib.hid (show Arr b8 w8 (w.heap.size + 1) 76 (le8 a ++ le8 b') from by have := hx8.out; rw [e16] at this; exact this)
      have HB8 := Lib.hid (show Below w.heap.size w w8 from (HB3.out.trans (HB7.out.mono (by omega))).trans (hb8.mono (by omega)))
      have hl16 : (le8 a ++ le8 b').length = 16 := by rw [List.length_append, hl8, hl8]
      clear hx8 hb8 e16 HO7 HR7 HB7
      obtain ⟨O, hO⟩ : ∃ O, O = le8 a ++ le8 b' := ⟨_, rfl⟩
      rw [← hO] at HO8 hl16
      have HML := Lib.hid hl16
      have HOe := Lib.hid hO
      clear hO hl16
      go_wp2_with (first
        | (refine wpList_load_arr rfl 76 (.tmp 4) rfl (w.heap.size + 1) rfl _ O HO8.out _ Try.underlying76 rfl (by rw [size16e, HML.out]) ?_)
        | (refine wpList_store_arr rfl 76 (.tmp 4) (.tmp 70) rfl (w.heap.size + 1) rfl O rfl _ _ HO8.out rfl (by rw [size16e, HML.out]) b8_one' ?_; intro w9 hp9 hg9; have HP9 := Lib.hid hp9; have HG9 := Lib.hid hg9; clear hp9 hg9))
      refine bodyPost_ret (v := .agg (O.map b8).toArray) (results_arr (g := w.heap.size + 1) rfl _ _ _ _ _ rfl HP9.out Try.underlying76 rfl (by rw [size16e, HML.out])) rfl ?_
      refine ⟨?_, HB8.out.grown HG9.out HB8.out.size (fun k e => by cases e; omega)⟩
      rw [HE.out, HOe.out]
end Go.Proofs.Ytkoefhbmkmepaaa
