/- CONTRACTS: burrowref09: num, in, headGood, row, head, fits. -/
import Derived.Test.YtloglpamnalmeaaPenB
namespace Go.Proofs.Ytloglpamnalmeaa
open Go.RowKit
set_option linter.unusedVariables false
set_option linter.unusedSimpArgs false

theorem in9_any (n most : Int) (w : World) : Calls Try.prog 54 #[.int .i64 n, .int .i64 most] w fun e w' => e = .returned (.bool (!outOf n most)) ∧ w = w' := by
  by_cases h : n < 0
  · have e : (!outOf n most) = false := by simp [outOf, h]
    have h0 : (0 ≤ n) = False := by simp; omega
    rw [e]
    clear e h
    go_enter Try.func54, Try.ntmps54
    go_wp2
    go_ret
    exact ⟨rfl, rfl⟩
  · have h0 : 0 ≤ n := by omega
    by_cases h2 : most < n
    · have e : (!outOf n most) = false := by simp [outOf, h2]
      have h1 : (n ≤ most) = False := by simp; omega
      rw [e]
      clear e h h2
      go_enter Try.func54, Try.ntmps54
      go_wp2
      go_ret
      exact ⟨rfl, rfl⟩
    · have e : (!outOf n most) = true := by simp [outOf, h, h2]
      have h1 : n ≤ most := by omega
      rw [e]
      clear e h h2
      go_enter Try.func54, Try.ntmps54
      go_wp2
      go_ret
      exact ⟨rfl, rfl⟩

theorem beAt_nat (N i : Nat) : IntKind.u8.wrap (((N / 256 ^ i : Nat) : Int) % 256) = bv (beAt (N : Int) i) := by
  rw [← beAt_conv, show ((2 : Int) ^ (8 * i)) = ((256 ^ i : Nat) : Int) by rw [intpow, show (2 : Nat) ^ (8 * i) = 256 ^ i by rw [Nat.pow_mul]], wrap_u8v, wrap_u8v]
  rw [show ((N : Int) / ((256 ^ i : Nat) : Int)) = ((N / 256 ^ i : Nat) : Int) from (Int.natCast_ediv N (256 ^ i)).symm]
  omega
set_option maxRecDepth 100000 in
set_option maxHeartbeats 1000000 in
theorem num9_any (N s : Nat) (si : Int) (hsi : si = (s : Int)) (hN : N < 9223372036854775808) (hs : s ≤ 8) (w : World) :
    Calls Try.prog 57 #[.int .i64 (N : Int), .int .i64 si] w fun e w' => ∃ v, e = .returned v ∧ Own b8 w' w.heap.size 5 v (be (N : Int) s) ∧ Below w.heap.size w w' := by
  subst hsi
  obtain ⟨i0, hi0, hz0, hz1, hz2⟩ := info_parts infoU8
  have HN := Lib.hid hN
  clear hN
  go_enter Try.func57, Try.ntmps57
  go_wp2
  go_loopw [0, 5, 6] (fun nv v iv wr => ∃ (k : Nat), k ≤ s ∧ iv = .int .i64 (k : Int) ∧ nv = .int .i64 ((N / 256 ^ k : Nat) : Int) ∧ Own b8 wr w.heap.size 5 v (be (N : Int) k) ∧ Below w.heap.size w wr) (fun _ _ iv _ => (s - (intOf iv).toNat))
  case atStart => exact ⟨0, by omega, rfl, by simp, Own.nil_ _ _ _ _, Below.refl _ _⟩
  case round =>
    obtain ⟨k, hk, rfl, rfl, ho, hb⟩ := hrel
    by_cases hlt : k < s
    · have hlt' : (k : Int) < (s : Int) := by omega
      obtain ⟨m, hm⟩ : ∃ m, m = N / 256 ^ k := ⟨_, rfl⟩
      have hconv := beAt_nat N k
      have hm2 : m / 256 = N / 256 ^ (k + 1) := by rw [hm, Nat.div_div_eq_div_mul, Nat.pow_succ]
      have hmN : m < 9223372036854775808 := Nat.lt_of_le_of_lt (by rw [hm]; exact Nat.div_le_self _ _) HN.out
      rw [← hm] at hconv ⊢
      have Hm2 := Lib.hid hm2
      obtain ⟨A, c, rfl, hr, -, -, -⟩ := ho.shape' (be_len _ _)
      have HR := Lib.hid hr
      have HB := Lib.hid hb
      have hbz := hb.size
      have hk8 : k ≤ 8 := by omega
      clear hm hm2 ho hr hb
      go_wp2_with (at_builtin; refine wpList_append_rd rfl (.tmp 15) (.tmp 16) 24 rfl b8_one w.heap.size 5 i0 _ 1 Try.underlying24 hi0 hz0 hz1 hz2 rfl _ [beAt (N : Int) k] rfl (Own.lit b8 wr w.heap.size 5 [beAt (N : Int) k] hbz (by simp [maxLen])) wr.heap.size A k c (be (N : Int) k) rfl (be_len _ _).symm (HR.out.alloc (Nat.le_refl _) _) (by simp [maxLen, be_len]; omega) (by simp [be_len]; omega) (by simp; omega) ?_; intro v7 w7 hown7 hg7 hbb7; have HO7 := Lib.hid hown7; have HB7 := Lib.hid (hbb7 _ _ (Nat.le_refl _) (HB.out.alloc hbz _)); clear hown7 hg7 hbb7)
      go_roundw
      case rel =>
        refine ⟨k + 1, by omega, by go_num, ?_, HO7.out.cast rfl, HB7.out⟩
        rw [← Hm2.out]; rfl
      case measure => simp [intOf]; omega
    · obtain rfl : k = s := by omega
      go_wp2_with fail
      go_ret
      exact ⟨_, rfl, ho, hb⟩

set_option maxRecDepth 100000 in
theorem headGood_any (epoch frm : Int) (w : World) : Calls Try.prog 53 #[.int .i64 epoch, .int .i64 frm] w fun e w' => e = .returned (.bool (!(outOf epoch 4294967295 || outOf frm 31))) ∧ w = w' := by
  obtain ⟨x, hx⟩ : ∃ x, x = outOf epoch 4294967295 := ⟨_, rfl⟩
  obtain ⟨y, hy⟩ : ∃ y, y = outOf frm 31 := ⟨_, rfl⟩
  have h1 := fun w => in9_any epoch 4294967295 w
  have h2 := fun w => in9_any frm 31 w
  simp only [← hx, ← hy] at h1 h2 ⊢
  have H1 := Lib.hid h1
  have H2 := Lib.hid h2
  clear h1 h2 hx hy
  go_enter Try.func53, Try.ntmps53
  go_wp2_with fail
  refine (H1.out _).mono ?_
  rintro e w' ⟨rfl, rfl⟩
  cases x with
  | true =>
    go_wp2_with fail
    go_ret
    exact ⟨rfl, rfl⟩
  | false =>
    go_wp2_with fail
    refine (H2.out _).mono ?_
    rintro e w' ⟨rfl, rfl⟩
    cases y with
    | true =>
      go_wp2_with fail
      go_ret
      exact ⟨rfl, rfl⟩
    | false =>
      go_wp2_with fail
      go_ret
      exact ⟨rfl, rfl⟩
theorem fits_any (A : Option Addr) (n c : Nat) (w : World) : Calls Try.prog 55 #[.slice A n c] w fun e w' => e = .returned (.tuple #[if 65536 < n then .slice none 0 0 else .slice A n c, .bool (!decide (65536 < n))]) ∧ w = w' := by
  by_cases h : 65536 < n
  · have h' : (65536 : Int) < (n : Int) := by omega
    have e : (!decide (65536 < n)) = false := by simp [h]
    rw [if_pos h, e]
    clear e h
    go_enter Try.func55, Try.ntmps55
    go_wp2
    go_ret2
    exact ⟨rfl, rfl⟩
  · have h' : ((65536 : Int) < (n : Int)) = False := by simp; omega
    have e : (!decide (65536 < n)) = true := by simp [h]
    rw [if_neg h, e]
    clear e h
    go_enter Try.func55, Try.ntmps55
    go_wp2
    go_ret2
    exact ⟨rfl, rfl⟩

set_option maxRecDepth 100000 in
set_option maxHeartbeats 1000000 in
theorem row9_any {B' : Nat} {A : Option Addr} {n c : Nat} {ys : List (BitVec 8)} {w : World} (hr : Rd b8 w B' A ys) (hB' : B' ≤ w.heap.size) (hn : ys.length = n) (hy : n ≤ 100000000) :
    Calls Try.prog 58 #[.slice A n c] w fun e w' => ∃ v, e = .returned v ∧ Own b8 w' w.heap.size 5 v (rowB ys) ∧ Below w.heap.size w w' := by
  obtain ⟨i0, hi0, hz0, hz1, hz2⟩ := info_parts infoU8
  have HR := Lib.hid hr
  have HN := Lib.hid hn
  clear hr hn
  go_enter Try.func58, Try.ntmps58
  go_wp2_with fail
  refine (num9_any n 2 2 rfl (by omega) (by omega) _).mono ?_
  rintro e w1 ⟨v1, rfl, ho1, hb1⟩
  have HO1 := Lib.hid ho1
  have HB1 := Lib.hid hb1
  clear ho1 hb1
  go_wp2_with (at_builtin; refine wpList_append_rd rfl (.tmp 5) (.tmp 6) 24 rfl b8_one w.heap.size 5 i0 _ 1 Try.underlying24 hi0 hz0 hz1 hz2 rfl _ _ rfl HO1.out B' A n c ys rfl HN.out.symm (HR.out.below (HB1.out.mono hB')) (by have := HN.out; simp [maxLen, be_len]; omega) (by have := HN.out; simp [be_len]; omega) HB1.out.size ?_; intro v7 w7 hown7 hg7 hbb7; have HO7 := Lib.hid hown7; have HB7 := Lib.hid (hbb7 _ _ (Nat.le_refl _) HB1.out); clear hown7 hg7 hbb7)
  go_ret
  exact ⟨_, rfl, HO7.out.cast (by unfold rowB; rw [HN.out]), HB7.out⟩

theorem beAt0 (n : Int) : IntKind.u8.wrap n = bv (beAt n 0) := by rw [← beAt_conv]; simp
set_option maxRecDepth 100000 in
set_option maxHeartbeats 1000000 in
theorem head9_any (sum : List (BitVec 8)) (E F : Nat) (hs : sum.length = 32) (hE : E < 9223372036854775808) (hF : F < 9223372036854775808) (w : World) :
    Calls Try.prog 56 #[arrV b8 sum, .int .i64 (E : Int), .int .i64 (F : Int)] w fun e w' => ∃ v, e = .returned v ∧ Own b8 w' w.heap.size 5 v (groupB sum E F) ∧ Below w.heap.size w w' := by
  obtain ⟨i0, hi0, hz0, hz1, hz2⟩ := info_parts infoU8
  have HA := Lib.hid (Rd.new b8 w 23 sum)
  have HB := Lib.hid ((Below.refl w.heap.size w).alloc (Nat.le_refl _) (.cells (sum.map b8).toArray 23))
  have HS := Lib.hid hs
  have hf := beAt0 (F : Int)
  have hlit := Own.lit b8 (w.alloc (.cells (sum.map b8).toArray 23)) w.heap.size 5 [] (by simp) (by simp)
  rw [World.size_alloc] at hlit
  have HLit := Lib.hid hlit
  clear hs hlit
  rw [arrV_mk]
  go_enter Try.func56, Try.ntmps56
  go_wp2_with (at_builtin; refine wpList_append_rd rfl (.tmp 7) (.tmp 8) 24 rfl b8_one w.heap.size 5 i0 _ 1 Try.underlying24 hi0 hz0 hz1 hz2 rfl _ [] rfl HLit.out (w.heap.size + 1) _ 32 32 sum rfl HS.out.symm (HA.out.alloc (by simp) _) (by simp [maxLen]; have := HS.out; omega) (by simp; have := HS.out; omega) (by simp; omega) ?_; intro v7 w7 hown7 hg7 hbb7; have HO7 := Lib.hid hown7; have HB7 := Lib.hid (hbb7 _ _ (Nat.le_refl _) (HB.out.alloc (by simp) _)); clear hown7 hg7 hbb7)
  refine (num9_any E 4 4 rfl hE (by omega) _).mono ?_
  rintro e w1 ⟨v1, rfl, ho1, hb1⟩
  obtain ⟨A1, c1, rfl, hr1, -, -, -⟩ := ho1.shape' (be_len _ _)
  have HR1 := Lib.hid hr1
  have HO17 := Lib.hid (HO7.out.below hb1 (Nat.le_refl _))
  have HB1 := Lib.hid (HB7.out.trans (hb1.mono HB7.out.size))
  clear ho1 hb1 hr1
  go_wp2_with (first
    | (at_builtin; refine wpList_append_rd rfl (.tmp 9) (.tmp 11) 24 rfl b8_one w.heap.size 5 i0 _ 1 Try.underlying24 hi0 hz0 hz1 hz2 rfl _ _ rfl HO17.out w1.heap.size A1 4 c1 (be E 4) rfl (be_len _ _).symm HR1.out (by have := HS.out; simp [maxLen, be_len]; omega) (by have := HS.out; simp [be_len]; omega) HB1.out.size ?_; intro v8 w8 hown8 hg8 hbb8; have HO8 := Lib.hid hown8; have HB8 := Lib.hid (hbb8 _ _ (Nat.le_refl _) HB1.out); clear hown8 hg8 hbb8)
    | (at_builtin; refine wpList_append_rd rfl (.tmp 12) (.tmp 15) 24 rfl b8_one w.heap.size 5 i0 _ 1 Try.underlying24 hi0 hz0 hz1 hz2 rfl _ _ rfl (HO8.out.alloc _) (w8.heap.size + 1) _ 1 1 [beAt F 0] rfl rfl (Rd.new b8 w8 5 [beAt F 0]) (by have := HS.out; simp [maxLen, be_len]; omega) (by have := HS.out; simp [be_len]; omega) (by have := HB8.out.size; simp; omega) ?_; intro v9 w9 hown9 hg9 hbb9; have HO9 := Lib.hid hown9; have HB9 := Lib.hid (hbb9 _ _ (Nat.le_refl _) (HB8.out.alloc HB8.out.size _)); clear hown9 hg9 hbb9))
  go_ret
  refine ⟨_, rfl, HO9.out.cast ?_, HB9.out⟩
  unfold groupB
  simp [be]
end Go.Proofs.Ytloglpamnalmeaa
