/- CONTRACT: the reference's expansion. -/
import Derived.Test.YtmncihhofppkdaaDoorExpD
namespace Go.Proofs.YtmncihhofppkdaaDoor
open Go.RowKit
set_option linter.unusedVariables false
set_option linter.unusedSimpArgs false

set_option maxRecDepth 100000 in
set_option maxHeartbeats 4000000 in
theorem refExpand_own (w : World) (B1 n1 c1 B2 n2 c2 N : Nat) (A1 A2 : Option Addr) (key inf : List (BitVec 8)) (hr1 : Rd b8 w B1 A1 key) (hB1 : B1 ≤ w.heap.size) (hn1 : n1 = key.length) (hr2 : Rd b8 w B2 A2 inf) (hB2 : B2 ≤ w.heap.size) (hn2 : n2 = inf.length) (hk : n1 ≤ 100000) (hi : n2 ≤ 100000) (hN : N ≤ 8160) :
    Calls Tryd.prog 44 #[.slice A1 n1 c1, .slice A2 n2 c2, .int .i64 (N : Int)] w fun e w' => ∃ A c, e = .returned (.tuple #[.slice A N c, .bool true]) ∧ Own b8 w' w.heap.size 5 (.slice A N c) (expV key inf N) ∧ Below w.heap.size w w' := by
  obtain ⟨i0, hi0, hz0, hz1, hz2⟩ := info_parts infoU8
  have H1 := Lib.hid hn1
  have H2 := Lib.hid hn2
  have R1 := Lib.hid (hr1.more hB1)
  have R2 := Lib.hid (hr2.more hB2)
  have lN : (N : Int) ≤ 8160 := by omega
  clear hn1 hn2 hr1 hr2 hB1 hB2
  go_enter Tryd.func44, Tryd.ntmps44
  go_wp2_with fail
  go_loopw [8, 9, 10] (fun vo vl iv wr => ∃ k : Nat, k ≤ 255 ∧ 32 * k < N + 32 ∧ iv = .int .i64 ((k : Int) + 1) ∧ Own b8 wr w.heap.size 5 vo (exA key inf k) ∧ Own b8 wr w.heap.size 5 vl (tagI key inf k) ∧ Below w.heap.size w wr) (fun vo _ _ _ => N - (lenIn vo).toNat)
  case atStart => exact ⟨0, by omega, by omega, rfl, Own.nil_ _ _ _ _, Own.nil_ _ _ _ _, Below.refl _ _⟩
  case round =>
    obtain ⟨k, hk255, hkN, rfl, ho, hl, hb⟩ := hrel
    obtain ⟨L, hL⟩ : ∃ L, L = 32 * k := ⟨_, rfl⟩
    obtain ⟨T, hT⟩ : ∃ T, T = (tagI key inf k).length := ⟨_, rfl⟩
    have hTb : T ≤ 32 := by rw [hT]; exact tagI_le _ _ _
    obtain ⟨Ao, co, rfl, -, -, hLc, -⟩ := ho.shape' (n := L) (by rw [exA_len, hL])
    obtain ⟨Al, cl, rfl, -, -, -, -⟩ := hl.shape' hT.symm
    have HO := Lib.hid ho
    have HL := Lib.hid hl
    have HB := Lib.hid hb
    have HLe := Lib.hid hL
    have HTe := Lib.hid hT
    have hz := hb.size
    have hLb : L ≤ 8160 := by omega
    clear ho hl hb hL hT
    by_cases hlt : L < N
    · have hk254 : k ≤ 254 := by have := HLe.out; omega
      obtain ⟨S, hS⟩ : ∃ S, S = tagI key inf (k + 1) := ⟨_, rfl⟩
      have HSe := Lib.hid hS
      have HSl := Lib.hid (show S.length = 32 by rw [hS]; exact tagI_len _ _ _)
      clear hS
      have HE := Lib.hid (own_empty wr)
      have HBe := Lib.hid (HB.out.alloc hz (.cells #[] 5))
      have HOl := Lib.hid (show ∀ b, (Value.slice Ao L co).ownBlock = some b → b < wr.heap.size from fun b e => (HO.out.lt b e).2)
      have hx : b8 (BitVec.ofInt 8 ((k : Int) + 1)) = .int .u8 ((k : Int) + 1) := by unfold b8 bv; rw [BitVec.toNat_ofInt]; congr 1; omega
      obtain ⟨x, hxe⟩ : ∃ x, x = BitVec.ofInt 8 ((k : Int) + 1) := ⟨_, rfl⟩
      rw [← hxe] at hx
      have HRx := Lib.hid (show ∀ W' : World, Rd b8 (W'.alloc (.cells #[.int .u8 ((k : Int) + 1)] 5)) (W'.heap.size + 1) (some ⟨W'.heap.size, 0, none⟩) [x] from fun W' => by have h := Rd.new b8 W' 5 [x]; simp only [List.map_cons, List.map_nil, hx] at h; exact h)
      have HXe := Lib.hid hxe
      have ht2 := H2.out
      have hn3 : T + n2 + 1 ≤ 101000 := by omega
      clear hx hxe ht2
      go_wp2_with (first
        | (at_builtin; (refine wpList_append_rd rfl (.tmp 25) (.tmp 26) 30 rfl b8_one wr.heap.size 5 i0 _ 1 Tryd.underlying30 hi0 hz0 hz1 hz2 rfl _ _ rfl HE.out wr.heap.size Al T cl (tagI key inf k) rfl HTe.out (HL.out.rd.alloc (Nat.le_refl _) _) (by have := HTe.out; simp [maxLen]; omega) (by have := HTe.out; simp; omega) (by simp) ?_; intro v1 w1 hown1 hg1 hbb1; obtain ⟨Av1, cv1, rfl, -, -, -, -⟩ := hown1.shape' (n := T) (by simp [HTe.out]); have HV1 := Lib.hid (hown1.cast (List.nil_append _)); have HB1 := Lib.hid (hbb1 _ _ hz HBe.out); have HO1 := Lib.hid ((HO.out.alloc (.cells #[] 5)).kept' hg1.by_ (fun b e hv => absurd (HOl.out b hv) (Nat.not_lt.2 (HE.out.lt b e).1))); have hs1 : wr.heap.size < w1.heap.size := (by have := hg1.size; rw [World.size_alloc] at this; exact this); clear hown1 hg1 hbb1))
        | (at_builtin; (refine wpList_append_rd rfl (.tmp 27) (.tmp 28) 30 rfl b8_one wr.heap.size 5 i0 _ 1 Tryd.underlying30 hi0 hz0 hz1 hz2 rfl _ _ rfl HV1.out w.heap.size A2 n2 c2 inf rfl H2.out (R2.out.below HB1.out) (by have := HTe.out; have := H2.out; simp [maxLen]; omega) (by have := HTe.out; have := H2.out; simp; omega) (by omega) ?_; intro v2 w2 hown2 hg2 hbb2; obtain ⟨Av2, cv2, rfl, -, -, -, -⟩ := hown2.shape' (n := T + n2) (by rw [List.length_append, ← HTe.out, ← H2.out]); have HV2 := Lib.hid hown2; have HB2 := Lib.hid (hbb2 _ _ hz HB1.out); have HO2 := Lib.hid (HO1.out.kept' hg2.by_ (fun b e hv => absurd (HOl.out b hv) (Nat.not_lt.2 (HV1.out.lt b e).1))); have hs2 : w1.heap.size ≤ w2.heap.size := hg2.size; clear hown2 hg2 hbb2))
        | (at_builtin; (refine wpList_append_rd rfl (.tmp 29) (.tmp 32) 30 rfl b8_one wr.heap.size 5 i0 _ 1 Tryd.underlying30 hi0 hz0 hz1 hz2 rfl _ _ rfl (HV2.out.alloc (.cells #[.int .u8 ((k : Int) + 1)] 5)) (w2.heap.size + 1) (some ⟨w2.heap.size, 0, none⟩) 1 1 [x] rfl rfl (HRx.out w2) (by have := HTe.out; have := H2.out; simp [maxLen]; omega) (by have := HTe.out; have := H2.out; simp; omega) (by simp; omega) ?_; intro v3 w3 hown3 hg3 hbb3; obtain ⟨Av3, cv3, rfl, -, -, -, -⟩ := hown3.shape' (n := T + n2 + 1) (by rw [List.length_append, List.length_append, ← HTe.out, ← H2.out]; rfl); have HV3 := Lib.hid hown3; have HB3 := Lib.hid (hbb3 _ _ hz (HB2.out.alloc HB2.out.size _)); have HO3 := Lib.hid ((HO2.out.alloc (.cells #[.int .u8 ((k : Int) + 1)] 5)).kept' hg3.by_ (fun b e hv => absurd (HOl.out b hv) (Nat.not_lt.2 (HV2.out.lt b e).1))); have hs3 : w2.heap.size ≤ w3.heap.size := (by have := hg3.size; rw [World.size_alloc] at this; omega); clear hown3 hg3 hbb3)))
      have hs := refTag_any w3 w.heap.size c1 n1 w3.heap.size cv3 (T + n2 + 1) A1 Av3 key _ (R1.out.below HB3.out) HB3.out.size H1.out (by omega) HV3.out.rd (Nat.le_refl _) (by rw [List.length_append, List.length_append, ← HTe.out, ← H2.out]; rfl) (by omega)
      rw [arrV_mk, HXe.out, show tagV key (tagI key inf k ++ inf ++ [BitVec.ofInt 8 ((k : Int) + 1)]) = tagI key inf (k + 1) from rfl, ← HSe.out] at hs
      have HSh := Lib.hid hs
      clear hs
      refine HSh.out.mono ?_
      rintro e w4 ⟨rfl, hb4⟩
      have hs4 := hb4.size
      have HB4 := Lib.hid (HB3.out.trans (hb4.mono HB3.out.size))
      have HO4 := Lib.hid (HO3.out.below hb4 (Nat.le_refl _))
      have HT4 := Lib.hid (Arr.new b8 w4 23 (List.replicate 32 0#8))
      clear hb4 HSh HB3 HO3 HV3 HV2 HV1 HO2 HO1 HB2 HB1
      go_wp2_with (first
        | (refine wpList_store_arr rfl 23 (.tmp 11) (.tmp 34) rfl w4.heap.size rfl S rfl _ _ HT4.out (by rw [HSl.out]; rfl) (by rw [size32, HSl.out]) b8_one' ?_; intro w5 hx5 hg5; have hs5 : w4.heap.size < w5.heap.size := hx5.lt; have HS5 := Lib.hid hx5; have HO5 := Lib.hid ((HO4.out.alloc (.cells ((List.replicate 32 0#8).map b8).toArray 23)).kept' hg5 (fun b e hv => by cases e; exact absurd (HOl.out _ hv) (by omega))); have HB5 := Lib.hid ((HB4.out.alloc HB4.out.size (.cells ((List.replicate 32 0#8).map b8).toArray 23)).grown hg5 (by have := HB4.out.size; simp; omega) (fun k e => by cases e; exact HB4.out.size)); have HE5 := Lib.hid (own_empty w5); clear hx5 hg5)
        | (at_builtin; (refine wpList_append_rd rfl (.tmp 35) (.tmp 36) 30 rfl b8_one w5.heap.size 5 i0 _ 1 Tryd.underlying30 hi0 hz0 hz1 hz2 rfl _ _ rfl HE5.out (w4.heap.size + 1) (some ⟨w4.heap.size, 0, none⟩) 32 32 S rfl HSl.out.symm ((HS5.out.alloc _).rd 0) (by have := HSl.out; simp [maxLen]; omega) (by have := HSl.out; simp; omega) (by simp) ?_; intro v6 w6 hown6 hg6 hbb6; obtain ⟨A6, c6, rfl, -, -, -, -⟩ := hown6.shape' (n := 32) (by simp [HSl.out]); have HV6 := Lib.hid (hown6.cast (List.nil_append _)); have HB6 := Lib.hid (hbb6 _ _ HB5.out.size (HB5.out.alloc HB5.out.size _)); have HO6 := Lib.hid ((HO5.out.alloc (.cells #[] 5)).kept' hg6.by_ (fun b e hv => absurd (HOl.out b hv) (Nat.not_lt.2 (Nat.le_trans (by omega) (HE5.out.lt b e).1)))); have hs6 : w5.heap.size < w6.heap.size := (by have := hg6.size; rw [World.size_alloc] at this; exact this); clear hown6 hg6 hbb6))
        | (at_builtin; (refine wpList_append_rd rfl (.tmp 38) (.tmp 39) 30 rfl b8_one w.heap.size 5 i0 _ 1 Tryd.underlying30 hi0 hz0 hz1 hz2 rfl _ _ rfl HO6.out w6.heap.size A6 32 c6 S rfl HSl.out.symm HV6.out.rd (by have := HSl.out; rw [exA_len]; unfold maxLen; omega) (by have := HSl.out; rw [exA_len]; omega) (by omega) ?_; intro v7 w7 hown7 hg7 hbb7; obtain ⟨A7, c7, rfl, -, -, -, -⟩ := hown7.shape' (n := L + 32) (by rw [List.length_append, exA_len, HSl.out, HLe.out]); have HO7 := Lib.hid (show Own b8 w7 w.heap.size 5 (.slice A7 (L + 32) c7) (exA key inf (k + 1)) from hown7.cast (by rw [HSe.out]; rfl)); have HB7 := Lib.hid (hbb7 _ _ (Nat.le_refl _) HB6.out); have HV7 := Lib.hid ((HV6.out.kept' hg7.by_ (fun b e hv => absurd (HOl.out b e) (Nat.not_lt.2 (Nat.le_trans (by omega) (HV6.out.lt b hv).1)))).cast HSe.out); clear hown7 hg7 hbb7)))
      go_roundw
      case rel => exact ⟨k + 1, by omega, by have := HLe.out; omega, by simp, HO7.out, HV7.out.less (by omega), HB7.out⟩
      case measure => simp [lenIn]; omega
    · have hlt' : ¬ ((L : Int) < (N : Int)) := by omega
      have hNL : (N : Int) ≤ (L : Int) := by omega
      have hNL' : N ≤ L := by omega
      have hNc : (N : Int) ≤ (co : Int) := by omega
      have hN0 : (0 : Int) ≤ (N : Int) := by omega
      have HFin := Lib.hid (show (exA key inf k).take N = expV key inf N from (expV_of key inf k N hk255 (by have := HLe.out; omega)).symm)
      go_wp2_with fail
      have hRd : Own b8 wr w.heap.size 5 (.slice Ao N co) (expV key inf N) := by have h := HO.out.short N hNL'; rw [HFin.out] at h; exact h
      go_ret2
      first | exact ⟨Ao, co, rfl, hRd, HB.out⟩ | exact ⟨Ao, co, ⟨rfl, rfl⟩, hRd, HB.out⟩
theorem refExpand_any (w : World) (B1 n1 c1 B2 n2 c2 N : Nat) (A1 A2 : Option Addr) (key inf : List (BitVec 8)) (hr1 : Rd b8 w B1 A1 key) (hB1 : B1 ≤ w.heap.size) (hn1 : n1 = key.length) (hr2 : Rd b8 w B2 A2 inf) (hB2 : B2 ≤ w.heap.size) (hn2 : n2 = inf.length) (hk : n1 ≤ 100000) (hi : n2 ≤ 100000) (hN : N ≤ 8160) :
    Calls Tryd.prog 44 #[.slice A1 n1 c1, .slice A2 n2 c2, .int .i64 (N : Int)] w fun e w' => ∃ A c, e = .returned (.tuple #[.slice A N c, .bool true]) ∧ Rd b8 w' w'.heap.size A (expV key inf N) ∧ Below w.heap.size w w' :=
  (refExpand_own w B1 n1 c1 B2 n2 c2 N A1 A2 key inf hr1 hB1 hn1 hr2 hB2 hn2 hk hi hN).mono fun e w' ⟨A, c, he, ho, hb⟩ => ⟨A, c, he, ho.rd, hb⟩
set_option maxRecDepth 100000 in
theorem refExpand_bad (w : World) (n1 c1 n2 c2 : Nat) (N : Int) (A1 A2 : Option Addr) (hN : N < 0 ∨ N > 8160) :
    Calls Tryd.prog 44 #[.slice A1 n1 c1, .slice A2 n2 c2, .int .i64 N] w fun e w' => e = .returned (.tuple #[.slice none 0 0, .bool false]) ∧ w = w' := by
  rcases hN with h | h
  · go_enter Tryd.func44, Tryd.ntmps44
    go_wp2_with fail
    go_ret2
    exact ⟨rfl, rfl⟩
  · have h0 : ¬ N < 0 := by omega
    go_enter Tryd.func44, Tryd.ntmps44
    go_wp2_with fail
    go_ret2
    exact ⟨rfl, rfl⟩
end Go.Proofs.YtmncihhofppkdaaDoor
