/- CONTRACTS: burrowref04.eight, slices.Equal at bytes. -/
import Derived.Test.YtkoefhbmkmepaaaPolyD
namespace Go.Proofs.Ytkoefhbmkmepaaa
open Go.RowKit
set_option linter.unusedVariables false
set_option linter.unusedSimpArgs false

theorem le_ofNat (n k : Nat) (hk : k < 8) : (bv (le (BitVec.ofNat 64 n) k) : Int) = ((n / 256 ^ k % 256 : Nat) : Int) := by
  unfold bv
  rw [le_toNat, BitVec.toNat_ofNat]
  congr 1
  have e : (2 : Nat) ^ 64 = 256 ^ k * (256 * 256 ^ (7 - k)) := by
    rw [← Nat.mul_assoc, ← Nat.pow_succ, ← Nat.pow_add, show k + 1 + (7 - k) = 8 by omega]
  rw [e, Nat.mod_mul_right_div_self, Nat.mod_mul_right_mod]
set_option maxRecDepth 100000 in
set_option maxHeartbeats 400000 in
theorem eight_any (n : Nat) (hn : n ≤ 100000000) (w : World) :
    Calls Try.prog 51 #[.int .i64 (n : Int)] w fun e w' => ∃ v, e = .returned v ∧ Own b8 w' w.heap.size 5 v (le8 (BitVec.ofNat 64 n)) ∧ Below w.heap.size w w' := by
  obtain ⟨i0, hi0, hz0, hz1, hz2⟩ := info_parts infoU8
  obtain ⟨N, hN⟩ : ∃ N, N = BitVec.ofNat 64 n := ⟨_, rfl⟩
  have HL := Lib.hid (show ∀ k, k < 8 → (bv (le N k) : Int) = ((n / 256 ^ k % 256 : Nat) : Int) from fun k hk => by rw [hN]; exact le_ofNat n k hk)
  rw [← hN]
  clear hN
  go_enter Try.func51, Try.ntmps51
  go_wp2_with fail
  go_loopw [0, 3, 4] (fun u v i wr => ∃ k m : Nat, k ≤ 8 ∧ m ≤ n ∧ i = .int .i64 (k : Int) ∧ u = .int .i64 (m : Int) ∧ m = n / 256 ^ k ∧ Own b8 wr w.heap.size 5 v ((List.range k).map (le N)) ∧ Below w.heap.size w wr) (fun _ _ i _ => 8 - (intOf i).toNat)
  case atStart => exact ⟨0, n, by omega, by omega, rfl, rfl, by simp, Own.nil_ _ _ _ _, Below.refl _ _⟩
  case round =>
    obtain ⟨k, m, hk, hmn, rfl, rfl, hm, hown, hb⟩ := hrel
    by_cases hlt : k < 8
    · have hlk := HL.out k hlt
      rw [← hm] at hlk
      have Hm := Lib.hid hm
      have HO := Lib.hid hown
      have HB := Lib.hid hb
      have hz := hb.size
      have hlt' : (k : Int) < 8 := by omega
      have hmi : ((m : Int) % 256) = bv (le N k) := by rw [hlk]; omega
      clear hm hlk hown hb
      go_wp2_with (at_builtin; refine wpList_append_rd rfl _ _ 47 rfl b8_one w.heap.size 5 i0 _ 1 Try.underlying47 hi0 hz0 hz1 hz2 rfl _ _ rfl (HO.out.alloc _) (wr.heap.size + 1) _ 1 1 [le N k] rfl rfl (Rd.new b8 _ _ [le N k]) (by simp [maxLen]; omega) (by simp; omega) (by (first | omega | (simp; done) | (simp; omega) | (simp at *; omega))) ?_; intro v7 w7 hown7 hg7 hbb7)
      refine ⟨⟨k + 1, m / 256, by omega, by omega, by simp, by simp, ?_, ?_, hbb7 _ _ (Nat.le_refl _) (HB.out.alloc (by omega) _)⟩, by simp [intOf]; omega⟩
      · rw [Hm.out, Nat.div_div_eq_div_mul, ← Nat.pow_succ]
      · rw [List.range_succ, List.map_append]; exact hown7
    · obtain rfl : k = 8 := by omega
      go_wp2_with fail
      go_ret
      exact ⟨_, rfl, hown, hb⟩
set_option maxRecDepth 100000 in
theorem equal_any {B C : Nat} {A D : Option Addr} {xs ys : List (BitVec 8)} {n m : Nat} (c d : Nat) (w : World) (h1 : Rd b8 w B A xs) (h2 : Rd b8 w C D ys) (hn : xs.length = n) (hm : ys.length = m) (hbn : n ≤ 4000000) :
    Calls Try.prog 42 #[.slice A n c, .slice D m d] w fun e w' => e = .returned (.bool (xs == ys)) ∧ ∃ q, w' = w.drewN q := by
  have HN := Lib.hid hn
  have HM := Lib.hid hm
  have H1 := Lib.hid h1
  have H2 := Lib.hid h2
  clear hn hm h1 h2
  by_cases hnm : n = m
  · subst hnm
    go_enter Try.func42, Try.ntmps42
    go_wp2_with fail
    go_loopw [13] (fun i wr => ∃ k q : Nat, k ≤ n ∧ i = .int .i64 (k : Int) ∧ xs.take k = ys.take k ∧ wr = w.drewN q) (fun i _ => n - (intOf i).toNat)
    case atStart => exact ⟨0, 0, by omega, rfl, by simp, rfl⟩
    case round =>
      obtain ⟨k, q, hk, rfl, htk, rfl⟩ := hrel
      by_cases hlt : k < n
      · obtain ⟨b1, o1, rfl, -, hc1⟩ := (H1.out.drewN q).at_ (k := k) (by rw [HN.out]; exact hlt)
        obtain ⟨b2, o2, rfl, -, hc2⟩ := (H2.out.drewN q).at_ (k := k) (by rw [HM.out]; exact hlt)
        obtain ⟨x, hx⟩ : ∃ x, xs[k]'(by rw [HN.out]; exact hlt) = x := ⟨_, rfl⟩
        obtain ⟨y, hy⟩ : ∃ y, ys[k]'(by rw [HM.out]; exact hlt) = y := ⟨_, rfl⟩
        rw [hx] at hc1
        rw [hy] at hc2
        simp only [b8] at hc1 hc2
        have HT := Lib.hid htk
        have HX := Lib.hid hx
        have HY := Lib.hid hy
        clear htk hx hy
        generalize hwq : w.drewN q = wq at hc1 hc2 ⊢
        have HW := Lib.hid hwq
        clear hwq
        by_cases hxy : x = y
        · have hbn : (bv x != bv y) = false := by simp [hxy]
          have hyk : k < ys.length := by rw [HM.out]; exact hlt
          have hxk : k < xs.length := by rw [HN.out]; exact hlt
          have HT2 := Lib.hid (show xs.take (k + 1) = ys.take (k + 1) by
            rw [List.take_succ_eq_append_getElem hxk, List.take_succ_eq_append_getElem hyk, HT.out, HX.out, HY.out, hxy])
          clear hxk hyk
          go_wp2_with fail
          go_quiet (fail)
          go_wp2_with fail
          exact ⟨⟨k + 1, q + nq, by omega, by simp, HT2.out, by rw [← HW.out, World.drewN_drewN]⟩, by simp [intOf]; omega⟩
        · have hne : (xs == ys) = false := by
            rw [beq_eq_false_iff_ne]; intro e; subst e; exact hxy (HX.out.symm.trans HY.out)
          have hbn : (bv x != bv y) = true := by rw [bv_bne]; simp [hxy]
          have HNe := Lib.hid hne
          clear hne
          go_wp2_with fail
          go_quiet (fail)
          go_wp2_with fail
          go_ret
          exact ⟨by rw [HNe.out]; rfl, _, by rw [← HW.out, World.drewN_drewN]⟩
      · obtain rfl : k = n := by omega
        go_wp2_with fail
        go_ret
        have hxy : xs = ys := by
          have h := htk
          rwa [List.take_of_length_le (by rw [HN.out]; exact Nat.le_refl _), List.take_of_length_le (by rw [HM.out]; exact Nat.le_refl _)] at h
        exact ⟨by simp [hxy], _, rfl⟩
  · have hne : (xs == ys) = false := by
      rw [beq_eq_false_iff_ne]; intro e; rw [e, HM.out] at HN; exact hnm HN.out.symm
    have hni : ¬ ((n : Int) = (m : Int)) := by omega
    rw [hne]
    go_enter Try.func42, Try.ntmps42
    go_wp2_with fail
    go_ret
    exact ⟨rfl, 0, rfl⟩
end Go.Proofs.Ytkoefhbmkmepaaa
