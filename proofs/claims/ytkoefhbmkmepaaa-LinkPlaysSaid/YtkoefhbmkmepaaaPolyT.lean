/- CONTRACTS: the mark's sum: what it is multiplied by. -/
import Derived.Test.YtkoefhbmkmepaaaPolyL
import Derived.Test.YtkoefhbmkmepaaaArr
import Derived.Deep.RegionHeld3
namespace Go.Proofs.Ytkoefhbmkmepaaa
open Go.RowKit
set_option linter.unusedVariables false
set_option linter.unusedSimpArgs false
attribute [local go_sem] add64_zero add64_go

theorem gb_set (W : World) (b k : Nat) (v : Value) : W.grownBy (W.setCell ⟨b, k, none⟩ v) (some b) :=
  ⟨rfl, rfl, rfl, by simp, fun j _ hj => Below.heap_setCell _ _ _ j (fun e => hj (by rw [e]))⟩
theorem quiet_same {P : Program} {f : FuncId} {args : Array Value} {w : World} {n : Nat} {v : Value} (h : Calls P f args (w.drewN n) fun e w' => e = .returned v ∧ w.drewN n = w') : Calls P f args (w.drewN n) fun e w'' => e = .returned v ∧ ∃ m, w'' = w.drewN m :=
  Calls.quiet_of_same (h.mono fun _ _ h => ⟨h.1, h.2.symm⟩)
def u64v (x : BitVec 64) : Value := .int .u64 (bv x)
theorem u64v_one (x : BitVec 64) : (u64v x).oneCell' = true := rfl
set_option maxRecDepth 100000 in
set_option maxHeartbeats 1000000 in
theorem at1_any (w : World) (g : Nat) (m : W4) (x y : BitVec 64) (hm : Arr u64v w g 122 m.list) :
    Calls Try.prog 74 #[.int .i64 1, .int .u64 (bv x), .int .u64 (bv y), .pointer (some ⟨g, 0, none⟩)] w fun e w' => (∃ v, e = .returned v) ∧ Arr u64v w' g 122 (at1 m x y).list ∧ w.grownBy w' (some g) := by
  have c0 : w.cell? ⟨g, 0, none⟩ = some (.int .u64 (bv m.a)) := hm.at_ rfl
  have c1 : w.cell? ⟨g, 1, none⟩ = some (.int .u64 (bv m.b)) := hm.at_ rfl
  have c2 : w.cell? ⟨g, 2, none⟩ = some (.int .u64 (bv m.c)) := hm.at_ rfl
  have c3 : w.cell? ⟨g, 3, none⟩ = some (.int .u64 (bv m.d)) := hm.at_ rfl
  have f1 := hm.frozen 1
  have f2 := hm.frozen 2
  have f3 := hm.frozen 3
  have HM := Lib.hid hm
  have k1 : (cy m.b (ml x y) 0#64).toNat ≤ 1 := cy_le _ _ _ (by simp)
  clear hm
  go_enter Try.func74, Try.ntmps74
  go_wp2_with fail
  refine (mul64_any x y _).mono ?_
  rintro e w' ⟨rfl, rfl⟩
  go_wp2_with fail
  go_end0
  exact ⟨⟨_, rfl⟩, ((HM.out.set_ 1 (ad m.b (ml x y) 0#64)).set_ 2 (ad m.c (mh x y) (cy m.b (ml x y) 0#64))).set_ 3 (m.d + cy m.c (mh x y) (cy m.b (ml x y) 0#64)), grownBy_trans (grownBy_trans (gb_set _ _ _ _) (gb_set _ _ _ _) (fun _ e => .inl e)) (gb_set _ _ _ _) (fun _ e => .inl e)⟩
set_option maxRecDepth 100000 in
set_option maxHeartbeats 1000000 in
theorem at2_any (w : World) (g : Nat) (m : W4) (x y : BitVec 64) (hm : Arr u64v w g 122 m.list) :
    Calls Try.prog 74 #[.int .i64 2, .int .u64 (bv x), .int .u64 (bv y), .pointer (some ⟨g, 0, none⟩)] w fun e w' => (∃ v, e = .returned v) ∧ Arr u64v w' g 122 (at2 m x y).list ∧ w.grownBy w' (some g) := by
  have c0 : w.cell? ⟨g, 0, none⟩ = some (.int .u64 (bv m.a)) := hm.at_ rfl
  have c1 : w.cell? ⟨g, 1, none⟩ = some (.int .u64 (bv m.b)) := hm.at_ rfl
  have c2 : w.cell? ⟨g, 2, none⟩ = some (.int .u64 (bv m.c)) := hm.at_ rfl
  have c3 : w.cell? ⟨g, 3, none⟩ = some (.int .u64 (bv m.d)) := hm.at_ rfl
  have f1 := hm.frozen 1
  have f2 := hm.frozen 2
  have f3 := hm.frozen 3
  have HM := Lib.hid hm
  have k1 : (cy m.c (ml x y) 0#64).toNat ≤ 1 := cy_le _ _ _ (by simp)
  clear hm
  go_enter Try.func74, Try.ntmps74
  go_wp2_with fail
  refine (mul64_any x y _).mono ?_
  rintro e w' ⟨rfl, rfl⟩
  go_wp2_with fail
  go_end0
  exact ⟨⟨_, rfl⟩, (HM.out.set_ 2 (ad m.c (ml x y) 0#64)).set_ 3 (ad m.d (mh x y) (cy m.c (ml x y) 0#64)), grownBy_trans (gb_set _ _ _ _) (gb_set _ _ _ _) (fun _ e => .inl e)⟩
theorem size4w : (Try.prog.info? 122).map (·.size) = some 4 := by kernel_rfl
/-- the sum in its block -/
def SumA (w : World) (b : Nat) (h : BitVec 64 × BitVec 64 × BitVec 64) (r0 r1 : BitVec 64) : Prop := Arr u64v w b 102 [h.1, h.2.1, h.2.2, r0, r1]
set_option maxRecDepth 100000 in
set_option maxHeartbeats 1000000 in
theorem times_any (w : World) (b : Nat) (h0 h1 h2 r0 r1 : BitVec 64) (hs : SumA w b (h0, h1, h2) r0 r1) :
    Calls Try.prog 71 #[.pointer (some ⟨b, 0, none⟩)] w fun e w' => (∃ v, e = .returned v) ∧ SumA w' b (timesW (h0, h1, h2) r0 r1) r0 r1 ∧ w.grownBy w' (some b) := by
  unfold SumA at hs
  have HS := Lib.hid hs
  have c0 : w.cell? ⟨b, 0, none⟩ = some (.int .u64 (bv h0)) := hs.at_ rfl
  have c1 : w.cell? ⟨b, 1, none⟩ = some (.int .u64 (bv h1)) := hs.at_ rfl
  have c2 : w.cell? ⟨b, 2, none⟩ = some (.int .u64 (bv h2)) := hs.at_ rfl
  have c3 : w.cell? ⟨b, 3, none⟩ = some (.int .u64 (bv r0)) := hs.at_ rfl
  have c4 : w.cell? ⟨b, 4, none⟩ = some (.int .u64 (bv r1)) := hs.at_ rfl
  clear hs
  go_enter Try.func71, Try.ntmps71
  go_wp2_with fail
  go_quiet ((go_at_call 73; exact quiet_same (mul64_any _ _ _)))
  have hlt := HS.out.lt
  have HB1 := Lib.hid (below_drewN (Below.refl w.heap.size w) nq)
  have hz1 : (w.drewN nq).heap.size = w.heap.size := rfl
  generalize w.drewN nq = w1 at HB1 hz1 ⊢
  clear c0 c1 c2 c3 c4
  go_wp2_with fail
  have HM2 := Lib.hid (Arr.at_size u64v (w := w1) 122 (W4.mk (ml h0 r0) (mh h0 r0) 0 0).list hz1)
  have HB2 := Lib.hid (HB1.out.alloc (by omega) (.cells ((W4.mk (ml h0 r0) (mh h0 r0) 0 0).list.map u64v).toArray 122))
  have hz2 : (w1.alloc (.cells ((W4.mk (ml h0 r0) (mh h0 r0) 0 0).list.map u64v).toArray 122)).heap.size = w.heap.size + 1 := by rw [World.size_alloc, hz1]
  change Code.wp _ _ _ _ (w1.alloc (.cells ((W4.mk (ml h0 r0) (mh h0 r0) 0 0).list.map u64v).toArray 122))
  generalize w1.alloc (.cells ((W4.mk (ml h0 r0) (mh h0 r0) 0 0).list.map u64v).toArray 122) = w2 at HM2 HB2 hz2 ⊢
  have HS2 := Lib.hid (HS.out.below HB2.out hlt)
  clear HB1
  obtain ⟨M2, hM2⟩ : ∃ M, M = W4.mk (ml h0 r0) (mh h0 r0) 0 0 := ⟨_, rfl⟩
  rw [← hM2] at HM2
  have hws2 : w.heap.size < w2.heap.size := by omega
  clear hz2
  have c0 : w2.cell? ⟨b, 0, none⟩ = some (.int .u64 (bv h0)) := HS2.out.at_ rfl
  have c4 : w2.cell? ⟨b, 4, none⟩ = some (.int .u64 (bv r1)) := HS2.out.at_ rfl
  go_region_held3 (fun w' : World => w'.cell? ⟨b, 0, none⟩ = some (.int .u64 (bv h0)) ∧ w'.cell? ⟨b, 4, none⟩ = some (.int .u64 (bv r1)))
    (first
      | exact ⟨HS3.out.at_ rfl, HS3.out.at_ rfl⟩
      | go_keep)
    ((go_simp; refine (at1_any _ _ M2 h0 r1 HM2.out.drew).mono ?_; rintro e w3 ⟨⟨v3, rfl⟩, hm3, hg3⟩; have HM3 := Lib.hid hm3; have HS3 := Lib.hid (Arr.grown (w := w2.drew) HS2.out hg3 (by intro e; have := Option.some.inj e; omega)); have HB3 := Lib.hid (Below.grown HB2.out.drew hg3 (by show w.heap.size ≤ w2.heap.size; omega) (fun k e => by have := Option.some.inj e; omega)); have hws3 : w.heap.size < w3.heap.size := Nat.lt_of_lt_of_le hws2 hg3.size; clear hm3 hg3))
  obtain ⟨M3, hM3⟩ : ∃ M, M = at1 M2 h0 r1 := ⟨_, rfl⟩
  rw [← hM3] at HM3
  have HE3 := Lib.hid hM3
  clear c0 c4 HM2 HS2 HB2 hM3 hws2
  go_wp2_with fail
  have c0 : w3.cell? ⟨b, 1, none⟩ = some (.int .u64 (bv h1)) := HS3.out.at_ rfl
  have c4 : w3.cell? ⟨b, 3, none⟩ = some (.int .u64 (bv r0)) := HS3.out.at_ rfl
  go_region_held3 (fun w' : World => w'.cell? ⟨b, 1, none⟩ = some (.int .u64 (bv h1)) ∧ w'.cell? ⟨b, 3, none⟩ = some (.int .u64 (bv r0)))
    (first
      | exact ⟨HS4.out.at_ rfl, HS4.out.at_ rfl⟩
      | go_keep)
    ((go_simp; refine (at1_any _ _ M3 h1 r0 HM3.out.drew).mono ?_; rintro e w4 ⟨⟨v4, rfl⟩, hm4, hg4⟩; have HM4 := Lib.hid hm4; have HS4 := Lib.hid (Arr.grown (w := w3.drew) HS3.out hg4 (by intro e; have := Option.some.inj e; omega)); have HB4 := Lib.hid (Below.grown HB3.out.drew hg4 (by show w.heap.size ≤ w3.heap.size; omega) (fun k e => by have := Option.some.inj e; omega)); have hws4 : w.heap.size < w4.heap.size := Nat.lt_of_lt_of_le hws3 hg4.size; clear hm4 hg4))
  obtain ⟨M4, hM4⟩ : ∃ M, M = at1 M3 h1 r0 := ⟨_, rfl⟩
  rw [← hM4] at HM4
  have HE4 := Lib.hid hM4
  clear c0 c4 HM3 HS3 HB3 hM4 hws3
  go_wp2_with fail
  have c0 : w4.cell? ⟨b, 1, none⟩ = some (.int .u64 (bv h1)) := HS4.out.at_ rfl
  have c4 : w4.cell? ⟨b, 4, none⟩ = some (.int .u64 (bv r1)) := HS4.out.at_ rfl
  go_region_held3 (fun w' : World => w'.cell? ⟨b, 1, none⟩ = some (.int .u64 (bv h1)) ∧ w'.cell? ⟨b, 4, none⟩ = some (.int .u64 (bv r1)))
    (first
      | exact ⟨HS5.out.at_ rfl, HS5.out.at_ rfl⟩
      | go_keep)
    ((go_simp; refine (at2_any _ _ M4 h1 r1 HM4.out.drew).mono ?_; rintro e w5 ⟨⟨v5, rfl⟩, hm5, hg5⟩; have HM5 := Lib.hid hm5; have HS5 := Lib.hid (Arr.grown (w := w4.drew) HS4.out hg5 (by intro e; have := Option.some.inj e; omega)); have HB5 := Lib.hid (Below.grown HB4.out.drew hg5 (by show w.heap.size ≤ w4.heap.size; omega) (fun k e => by have := Option.some.inj e; omega)); have hws5 : w.heap.size < w5.heap.size := Nat.lt_of_lt_of_le hws4 hg5.size; clear hm5 hg5))
  obtain ⟨M5, hM5⟩ : ∃ M, M = at2 M4 h1 r1 := ⟨_, rfl⟩
  rw [← hM5] at HM5
  have HE5 := Lib.hid hM5
  clear c0 c4 HM4 HS4 HB4 hM5 hws4
  go_wp2_with fail
  have c0 : w5.cell? ⟨b, 2, none⟩ = some (.int .u64 (bv h2)) := HS5.out.at_ rfl
  have c4 : w5.cell? ⟨b, 3, none⟩ = some (.int .u64 (bv r0)) := HS5.out.at_ rfl
  go_region_held3 (fun w' : World => w'.cell? ⟨b, 2, none⟩ = some (.int .u64 (bv h2)) ∧ w'.cell? ⟨b, 3, none⟩ = some (.int .u64 (bv r0)))
    (first
      | exact ⟨HS6.out.at_ rfl, HS6.out.at_ rfl⟩
      | go_keep)
    ((go_simp; refine (at2_any _ _ M5 h2 r0 HM5.out.drew).mono ?_; rintro e w6 ⟨⟨v6, rfl⟩, hm6, hg6⟩; have HM6 := Lib.hid hm6; have HS6 := Lib.hid (Arr.grown (w := w5.drew) HS5.out hg6 (by intro e; have := Option.some.inj e; omega)); have HB6 := Lib.hid (Below.grown HB5.out.drew hg6 (by show w.heap.size ≤ w5.heap.size; omega) (fun k e => by have := Option.some.inj e; omega)); have hws6 : w.heap.size < w6.heap.size := Nat.lt_of_lt_of_le hws5 hg6.size; clear hm6 hg6))
  obtain ⟨M6, hM6⟩ : ∃ M, M = at2 M5 h2 r0 := ⟨_, rfl⟩
  rw [← hM6] at HM6
  have HE6 := Lib.hid hM6
  clear c0 c4 HM5 HS5 HB5 hM6 hws5
  go_wp2_with fail
  have c2 : w6.cell? ⟨b, 2, none⟩ = some (.int .u64 (bv h2)) := HS6.out.at_ rfl
  have c4 : w6.cell? ⟨b, 4, none⟩ = some (.int .u64 (bv r1)) := HS6.out.at_ rfl
  have cm : w6.cell? ⟨w.heap.size, 3, none⟩ = some (.int .u64 (bv M6.d)) := HM6.out.at_ rfl
  have fm := HM6.out.frozen 3
  go_region
  have HE7 := Lib.hid (show (prodW h0 h1 h2 r0 r1) = { M6 with d := M6.d + h2 * r1 } by rw [HE6.out, HE5.out, HE4.out, HE3.out, hM2]; rfl)
  obtain ⟨M7, hM7⟩ : ∃ M, M = prodW h0 h1 h2 r0 r1 := ⟨_, rfl⟩
  have HM7 := Lib.hid (show Arr u64v (w6.setCell ⟨w.heap.size, 3, none⟩ (.int .u64 (bv (M6.d + h2 * r1)))).drew w.heap.size 122 M7.list by rw [hM7, HE7.out]; exact (HM6.out.set_ 3 (M6.d + h2 * r1)).drew)
  have HS7 := Lib.hid (show Arr u64v (w6.setCell ⟨w.heap.size, 3, none⟩ (.int .u64 (bv (M6.d + h2 * r1)))).drew b 102 [h0, h1, h2, r0, r1] from (HS6.out.far (p := ⟨w.heap.size, 3, none⟩) (by show b ≠ w.heap.size; omega) _).drew)
  have HB7 := Lib.hid (show Below w.heap.size w (w6.setCell ⟨w.heap.size, 3, none⟩ (.int .u64 (bv (M6.d + h2 * r1)))).drew from (HB6.out.setCell (p := ⟨w.heap.size, 3, none⟩) (Nat.le_refl _) _).drew)
  have HE := Lib.hid hM7
  clear HM6 HS6 HB6 HE7 HE6 HE5 HE4 HE3 hM2 hM7 c2 c4 cm fm hws6
  generalize (w6.setCell ⟨w.heap.size, 3, none⟩ (.int .u64 (bv (M6.d + h2 * r1)))).drew = w7 at HM7 HS7 HB7 ⊢
  have hw7 := HM7.out.lt
  have hb7 := HS7.out.lt
  have hbn : b ≠ w.heap.size := by omega
  have m0 : w7.cell? ⟨w.heap.size, 0, none⟩ = some (.int .u64 (bv M7.a)) := HM7.out.at_ rfl
  have m1 : w7.cell? ⟨w.heap.size, 1, none⟩ = some (.int .u64 (bv M7.b)) := HM7.out.at_ rfl
  have m2 : w7.cell? ⟨w.heap.size, 2, none⟩ = some (.int .u64 (bv M7.c)) := HM7.out.at_ rfl
  have m3 : w7.cell? ⟨w.heap.size, 3, none⟩ = some (.int .u64 (bv M7.d)) := HM7.out.at_ rfl
  have s0 : w7.cell? ⟨b, 0, none⟩ = some (.int .u64 (bv h0)) := HS7.out.at_ rfl
  have s1 : w7.cell? ⟨b, 1, none⟩ = some (.int .u64 (bv h1)) := HS7.out.at_ rfl
  have s2 : w7.cell? ⟨b, 2, none⟩ = some (.int .u64 (bv h2)) := HS7.out.at_ rfl
  have f0 := HS7.out.frozen 0
  have f1 := HS7.out.frozen 1
  have f2 := HS7.out.frozen 2
  go_wp2_with fail
  obtain ⟨E, hE0, hE1⟩ : ∃ E : Nat → BitVec 64 × BitVec 64, E 0 = (M7.c &&& 18446744073709551612#64, M7.d) ∧ E 1 = (M7.c >>> 2 ||| M7.d <<< 62, M7.d >>> 2) := ⟨fun i => if i = 0 then (M7.c &&& 18446744073709551612#64, M7.d) else (M7.c >>> 2 ||| M7.d <<< 62, M7.d >>> 2), rfl, rfl⟩
  obtain ⟨H, hH0, hHs⟩ : ∃ H : Nat → BitVec 64 × BitVec 64 × BitVec 64, H 0 = (M7.a, M7.b, M7.c &&& 3#64) ∧ ∀ i, H (i + 1) = addW (H i) (E i).1 (E i).2 := ⟨fun i => Nat.rec (M7.a, M7.b, M7.c &&& 3#64) (fun i h => addW h (E i).1 (E i).2) i, rfl, fun _ => rfl⟩
  have HH2 := Lib.hid (show H 2 = redW M7 by rw [hHs, hHs, hH0, hE0, hE1]; rfl)
  have HH0 := Lib.hid hH0
  have HHs := Lib.hid hHs
  have HS8 := Lib.hid (show SumA (((w7.setCell ⟨b, 0, none⟩ (.int .u64 (bv M7.a))).setCell ⟨b, 1, none⟩ (.int .u64 (bv M7.b))).setCell ⟨b, 2, none⟩ (.int .u64 (bv (M7.c &&& 3#64)))) b (H 0) r0 r1 by rw [hH0]; exact ((HS7.out.set_ 0 M7.a).set_ 1 M7.b).set_ 2 (M7.c &&& 3#64))
  have HG8 := Lib.hid (show w.grownBy (((w7.setCell ⟨b, 0, none⟩ (.int .u64 (bv M7.a))).setCell ⟨b, 1, none⟩ (.int .u64 (bv M7.b))).setCell ⟨b, 2, none⟩ (.int .u64 (bv (M7.c &&& 3#64)))) (some b) from grownBy_trans (grownBy_trans (grownBy_trans ⟨HB7.out.os, HB7.out.tape, HB7.out.output, HB7.out.size, fun k hk _ => HB7.out.block k hk⟩ (gb_set _ _ _ _) (fun g e => .inl e)) (gb_set _ _ _ _) (fun g e => .inl e)) (gb_set _ _ _ _) (fun g e => .inl e))
  have hz8 : (((w7.setCell ⟨b, 0, none⟩ (.int .u64 (bv M7.a))).setCell ⟨b, 1, none⟩ (.int .u64 (bv M7.b))).setCell ⟨b, 2, none⟩ (.int .u64 (bv (M7.c &&& 3#64)))).heap.size = w7.heap.size := by simp
  clear HM7 HS7 HB7 m0 m1 m2 m3 s0 s1 s2 f0 f1 f2
  generalize ((w7.setCell ⟨b, 0, none⟩ (.int .u64 (bv M7.a))).setCell ⟨b, 1, none⟩ (.int .u64 (bv M7.b))).setCell ⟨b, 2, none⟩ (.int .u64 (bv (M7.c &&& 3#64))) = w8 at HS8 HG8 hz8 ⊢
  obtain ⟨X, hX⟩ : ∃ X, X = w7.heap.size + 1 + 1 := ⟨_, rfl⟩
  have HA0 := Lib.hid (Arr.at_size u64v (w := (w8.alloc (.cells ([M7.c &&& 18446744073709551612#64, M7.d].map u64v).toArray 124)).alloc (.cells ([M7.c >>> 2 ||| M7.d <<< 62, M7.d >>> 2].map u64v).toArray 124)) 124 [M7.c &&& 18446744073709551612#64, M7.d, M7.c >>> 2 ||| M7.d <<< 62, M7.d >>> 2] (show _ = X by rw [World.size_alloc, World.size_alloc, hz8, hX]))
  have HX := Lib.hid (show ∀ i, i < 2 → [M7.c &&& 18446744073709551612#64, M7.d, M7.c >>> 2 ||| M7.d <<< 62, M7.d >>> 2][i * 2]? = some (E i).1 ∧ [M7.c &&& 18446744073709551612#64, M7.d, M7.c >>> 2 ||| M7.d <<< 62, M7.d >>> 2][i * 2 + 1]? = some (E i).2 from fun i hi => by
    match i, hi with
    | 0, _ => rw [hE0]; exact ⟨rfl, rfl⟩
    | 1, _ => rw [hE1]; exact ⟨rfl, rfl⟩
    | i + 2, h => omega)
  have hbX : b < X := by omega
  have hwX : w.heap.size < X := by omega
  go_loopw [118] (fun iv wr => ∃ i : Nat, i ≤ 2 ∧ iv = .int .i64 (i : Int) ∧ SumA wr b (H i) r0 r1 ∧ Arr u64v wr X 124 [M7.c &&& 18446744073709551612#64, M7.d, M7.c >>> 2 ||| M7.d <<< 62, M7.d >>> 2] ∧ w.grownBy wr (some b)) (fun iv _ => 2 - (intOf iv).toNat)
  case atStart =>
    refine ⟨0, by omega, rfl, ((Arr.alloc HS8.out _).alloc _).alloc _, HA0.out, ?_⟩
    exact grownBy_trans (grownBy_trans (grownBy_trans HG8.out (World.grownBy_alloc _ _ none) (fun g e => by cases e)) (World.grownBy_alloc _ _ none) (fun g e => by cases e)) (World.grownBy_alloc _ _ none) (fun g e => by cases e)
  case round =>
    obtain ⟨i, hi2, rfl, hs, ha, hg⟩ := hrel
    by_cases hlt2 : i < 2
    · obtain ⟨hx1, hx2⟩ := HX.out i hlt2
      obtain ⟨x, hx⟩ : ∃ x, x = (E i).1 := ⟨_, rfl⟩
      obtain ⟨y, hy⟩ : ∃ y, y = (E i).2 := ⟨_, rfl⟩
      obtain ⟨p0, p1, p2, hp⟩ : ∃ p0 p1 p2, H i = (p0, p1, p2) := ⟨_, _, _, rfl⟩
      rw [← hx] at hx1
      rw [← hy] at hx2
      have cX : wr.cell? ⟨w7.heap.size + 1 + 1, i * 2, none⟩ = some (.int .u64 (bv x)) := by rw [← hX]; exact ha.at_ hx1
      have cY : wr.cell? ⟨w7.heap.size + 1 + 1, i * 2 + 1, none⟩ = some (.int .u64 (bv y)) := by rw [← hX]; exact ha.at_ hx2
      have HNx := Lib.hid (show H (i + 1) = addW (p0, p1, p2) x y by rw [HHs.out, hp, hx, hy])
      rw [hp] at hs
      have HSr := Lib.hid hs
      have HAr := Lib.hid ha
      have HGr := Lib.hid hg
      have hzr := hg.size
      have hXr := ha.lt
      have hbr : b < wr.heap.size := by omega
      have s0 : wr.cell? ⟨b, 0, none⟩ = some (.int .u64 (bv p0)) := hs.at_ rfl
      have s1 : wr.cell? ⟨b, 1, none⟩ = some (.int .u64 (bv p1)) := hs.at_ rfl
      have s2 : wr.cell? ⟨b, 2, none⟩ = some (.int .u64 (bv p2)) := hs.at_ rfl
      have f0 := hs.frozen 0
      have f1 := hs.frozen 1
      have f2 := hs.frozen 2
      have hli : (i : Int) < 2 := by omega
      have k1 : (cy p0 x 0#64).toNat ≤ 1 := cy_le _ _ _ (by simp)
      clear hx1 hx2 hx hy hp hs ha hg
      go_wp2_with fail
      go_region
      go_wp2_with fail
      go_region
      go_wp2_with fail
      go_region
      go_wp2_with fail
      refine ⟨⟨i + 1, by omega, by simp, ?_, ?_, ?_⟩, by simp [intOf]; omega⟩
      · rw [HNx.out]
        exact Arr.alloc (((HSr.out.set_ 0 (ad p0 x 0#64)).set_ 1 (ad p1 y (cy p0 x 0#64))).set_ 2 (p2 + cy p1 y (cy p0 x 0#64))) _
      · exact Arr.alloc (((HAr.out.far (p := ⟨b, 0, none⟩) (by show X ≠ b; omega) _).far (p := ⟨b, 1, none⟩) (by show X ≠ b; omega) _).far (p := ⟨b, 2, none⟩) (by show X ≠ b; omega) _) _
      · have h := grownBy_trans (r := some b) (s := none) (grownBy_trans (grownBy_trans (grownBy_trans HGr.out (gb_set wr b 0 (.int .u64 (bv (ad p0 x 0#64)))) (fun g e => .inl e)) (gb_set _ b 1 (.int .u64 (bv (ad p1 y (cy p0 x 0#64))))) (fun g e => .inl e)) (gb_set _ b 2 (.int .u64 (bv (p2 + cy p1 y (cy p0 x 0#64))))) (fun g e => .inl e)) (World.grownBy_alloc _ (.cells #[.int .u64 (bv x), .int .u64 (bv y)] 124) none) (fun g e => by cases e)
        exact ⟨h.os, h.tape, h.output, h.size, h.block⟩
    · obtain rfl : i = 2 := by omega
      go_wp2_with fail
      go_end0
      rw [HH2.out, HE.out] at hs
      exact ⟨⟨_, rfl⟩, hs, hg⟩
end Go.Proofs.Ytkoefhbmkmepaaa
