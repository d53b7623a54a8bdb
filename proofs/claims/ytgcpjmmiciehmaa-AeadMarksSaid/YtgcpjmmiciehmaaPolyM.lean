/- CONTRACT: the reference's product of two numbers. -/
import Derived.Test.YtgcpjmmiciehmaaPolyP
namespace Go.Proofs.Ytgcpjmmiciehmaa
open Go.RowKit
set_option linter.unusedVariables false
set_option linter.unusedSimpArgs false

theorem own_zerosI {w : World} {B N : Nat} {v : Value} (h : w.ownsRow B 3 1 v N (madeCells (Value.int .i64 0).cells (N * 1)).toList) : Own dN w B 3 v (List.replicate N 0) := by
  unfold Own
  rw [List.length_replicate]
  have e : (madeCells (Value.int .i64 0).cells (N * 1)).toList = List.replicate N (dN 0) := by rw [Nat.mul_one]; exact toList_madeCells_one _ _
  rw [e] at h
  rw [List.map_replicate]
  exact h
theorem valN_set : ∀ (xs : List Nat) (k y : Nat), k < xs.length → valN (xs.set k y) + 256 ^ k * dig xs k = valN xs + 256 ^ k * y
  | [], k, y, h => by simp at h
  | x :: xs, 0, y, _ => by simp [valN, dig]; omega
  | x :: xs, k + 1, y, h => by
    have ih := valN_set xs k y (by simpa using h)
    have e : dig (x :: xs) (k + 1) = dig xs k := by simp [dig]
    rw [e]
    simp only [List.set_cons_succ, valN, Nat.pow_succ]
    rw [Nat.mul_comm (256 ^ k) 256, Nat.mul_assoc, Nat.mul_assoc]
    omega
theorem dig_le_val : ∀ (xs : List Nat) (k : Nat), 256 ^ k * dig xs k ≤ valN xs
  | [], k => by simp [dig, valN]
  | x :: xs, 0 => by simp [dig, valN]
  | x :: xs, k + 1 => by
    have ih := dig_le_val xs k
    have e : dig (x :: xs) (k + 1) = dig xs k := by simp [dig]
    rw [e]
    simp only [valN, Nat.pow_succ]
    rw [Nat.mul_comm (256 ^ k) 256, Nat.mul_assoc]
    omega
theorem D256_set {xs : List Nat} (h : D256 xs) (k : Nat) {y : Nat} (hy : y < 256) : D256 (xs.set k y) := by
  intro x hx
  rcases List.mem_or_eq_of_mem_set hx with h' | h'
  · exact h x h'
  · rw [h']; exact hy
/-- one product of digits is added -/
theorem times_step (os : List Nat) (i j cr a y n V W : Nat) (hl : i + j < os.length) (hn : n = dig os (i + j) + cr + a * y) (h : valN os + 256 ^ (i + j) * cr = V + 256 ^ i * (a * W)) :
    valN (os.set (i + j) (n % 256)) + 256 ^ (i + (j + 1)) * (n / 256) = V + 256 ^ i * (a * (W + 256 ^ j * y)) := by
  have h1 := valN_set os (i + j) (n % 256) hl
  have h2 : 256 ^ (i + j) * (n % 256) + 256 ^ (i + (j + 1)) * (n / 256) = 256 ^ (i + j) * n := by
    rw [← Nat.add_assoc, Nat.pow_succ, Nat.mul_assoc, ← Nat.mul_add, Nat.mod_add_div]
  have h3 : 256 ^ (i + j) * n = 256 ^ (i + j) * dig os (i + j) + 256 ^ (i + j) * cr + 256 ^ (i + j) * (a * y) := by rw [hn, Nat.mul_add, Nat.mul_add]
  have h4 : 256 ^ i * (a * (W + 256 ^ j * y)) = 256 ^ i * (a * W) + 256 ^ (i + j) * (a * y) := by
    rw [Nat.mul_add, Nat.mul_add, Nat.pow_add, Nat.mul_left_comm a (256 ^ j) y, Nat.mul_assoc]
  omega
/-- at the top nothing is carried on -/
theorem times_top (os : List Nat) (m cr n T : Nat) (hn : n = dig os m + cr) (h : valN os + 256 ^ m * cr = T) (hT : T < 256 ^ (m + 1)) : n / 256 = 0 := by
  have h1 := dig_le_val os m
  have h2 : 256 ^ m * n ≤ T := by rw [hn, Nat.mul_add, ← h]; omega
  have h3 : 256 ^ m * n < 256 ^ m * 256 := by rw [← Nat.pow_succ]; omega
  have h4 : n < 256 := Nat.lt_of_mul_lt_mul_left h3
  omega
set_option maxRecDepth 100000 in
set_option maxHeartbeats 2000000 in
theorem rtimes_any (w : World) (B1 n1 c1 B2 n2 c2 : Nat) (A1 A2 : Option Addr) (xs ys : List Nat) (hr1 : Rd dN w B1 A1 xs) (hB1 : B1 ≤ w.heap.size) (hn1 : n1 = xs.length) (hr2 : Rd dN w B2 A2 ys) (hB2 : B2 ≤ w.heap.size) (hn2 : n2 = ys.length) (hd1 : D256 xs) (hd2 : D256 ys) (hb1 : n1 ≤ 1000) (hb2 : n2 ≤ 1000) :
    Calls Try.prog 56 #[.slice A1 n1 c1, .slice A2 n2 c2] w fun e w' => ∃ v zs, e = .returned v ∧ Own dN w' w.heap.size 3 v zs ∧ D256 zs ∧ valN zs = valN xs * valN ys ∧ zs.length = n1 + n2 + 1 ∧ Below w.heap.size w w' := by
  obtain ⟨i0, hi0, hz0, hz1, hz2⟩ := info_parts infoIntR
  have R1 := Lib.hid (hr1.more hB1)
  have R2 := Lib.hid (hr2.more hB2)
  have N1 := Lib.hid hn1
  have N2 := Lib.hid hn2
  have D1 := Lib.hid hd1
  have D2 := Lib.hid hd2
  clear hr1 hr2 hn1 hn2 hB1 hB2 hd1 hd2
  obtain ⟨N, hN⟩ : ∃ N, N = n1 + n2 + 1 := ⟨_, rfl⟩
  have hNi : (n1 : Int) + (n2 : Int) + 1 = (N : Int) := by omega
  have hNb : N ≤ 2001 := by omega
  have HNe := Lib.hid hN
  clear hN
  go_enter Try.func56, Try.ntmps56
  go_wp2_with (refine wpList_make_full _ rfl (.tmp 15) (.tmp 15) 97 rfl w.heap.size 3 i0 _ 1 Try.underlying97 hi0 hz0 hz1 .i64 .i64 _ _ N rfl rfl rfl rfl (by rw [hz2]; omega) (by simp [maxLen]; omega) (by simp) ?_; intro w3 hown3 hg3)
  have HO := Lib.hid (own_zerosI hown3)
  have HB := Lib.hid ((Below.refl w.heap.size w).grown hg3 (Nat.le_refl _) (fun k e => by cases e))
  have hz3 : w.heap.size < w3.heap.size := (HO.out.lt _ rfl).2
  clear hown3 hg3
  clear hNi
  go_wp2_with fail
  go_loopw [6, 7, 8, 9] (fun iv _ _ _ wr => ∃ (i : Nat) (os : List Nat), i ≤ n1 ∧ iv = .int .i64 (i : Int) ∧ os.length = N ∧ D256 os ∧ valN os = valN (xs.take i) * valN ys ∧ Own dN wr w.heap.size 3 (.slice (some ⟨w.heap.size, 0, none⟩) N N) os ∧ Below w.heap.size w wr) (fun iv _ _ _ _ => n1 - (intOf iv).toNat)
  case atStart => exact ⟨0, List.replicate N 0, by omega, rfl, by simp, fun x hx => by rw [List.eq_of_mem_replicate hx]; omega, by rw [valN_zeros]; simp [valN], HO.out, HB.out⟩
  case round =>
    obtain ⟨i, os, hi, rfl, hl, hd, hv, ho, hb⟩ := hrel
    have HL := Lib.hid hl
    have HD := Lib.hid hd
    have HV := Lib.hid hv
    have HO2 := Lib.hid ho
    have HB2 := Lib.hid hb
    clear hl hd hv ho hb HO HB
    by_cases hlt : i < n1
    · have hlt' : (i : Int) < (n1 : Int) := by omega
      obtain ⟨a, ha⟩ : ∃ a, a = dig xs i := ⟨_, rfl⟩
      have ha256 : a < 256 := by rw [ha]; exact dig_lt D1.out i
      have HA := Lib.hid (show ∀ W : World, Below w.heap.size w W → ∃ b1 o1, A1 = some ⟨b1, o1, none⟩ ∧ W.cell? ⟨b1, o1 + i, none⟩ = some (.int .i64 (a : Int)) from fun W hb => by
        obtain ⟨b1, o1, h1, -, hc1⟩ := (R1.out.below hb).at_ (k := i) (by rw [← N1.out]; omega)
        refine ⟨b1, o1, h1, ?_⟩
        rw [hc1, ha]; simp [dN, dig, List.getD, show i < xs.length by rw [← N1.out]; omega])
      have HT := Lib.hid (show valN (xs.take (i + 1)) = valN (xs.take i) + 256 ^ i * a by rw [ha]; exact valN_take_dig xs i)
      clear ha
      go_wp2_with fail
      go_loopw [7, 8, 9] (fun cv jv _ wr => ∃ (j cr : Nat) (zs : List Nat), j ≤ n2 + 1 ∧ jv = .int .i64 (j : Int) ∧ cv = .int .i64 (cr : Int) ∧ cr ≤ 255 ∧ (n2 < j → cr = 0) ∧ zs.length = N ∧ D256 zs ∧ valN zs + 256 ^ (i + j) * cr = valN os + 256 ^ i * (a * valN (ys.take j)) ∧ Own dN wr w.heap.size 3 (.slice (some ⟨w.heap.size, 0, none⟩) N N) zs ∧ Below w.heap.size w wr) (fun _ jv _ _ => n2 + 2 - (intOf jv).toNat)
      case atStart => exact ⟨0, 0, os, by omega, rfl, rfl, by omega, by simp, HL.out, HD.out, by simp [valN], HO2.out, HB2.out⟩
      case round =>
        obtain ⟨j, cr, zs, hj, rfl, rfl, hcr, hcz, hl, hd, hv, ho, hb⟩ := hrel
        have HL3 := Lib.hid hl
        have HD3 := Lib.hid hd
        have HV3 := Lib.hid hv
        have HO3 := Lib.hid ho
        have HB3 := Lib.hid hb
        have HC3 := Lib.hid hcz
        clear hl hd hv ho hb hcz
        by_cases hjn : j < n2
        · obtain ⟨d, hd'⟩ : ∃ d, d = dig zs (i + j) := ⟨_, rfl⟩
          have hkl : i + j < zs.length := by rw [HL3.out, HNe.out]; omega
          obtain ⟨b2, o2, rfl, hbb2, hc2⟩ := (R2.out.below HB3.out).at_ (k := j) (by rw [← N2.out]; omega)
          obtain ⟨y, hy⟩ : ∃ y, y = dig ys j := ⟨_, rfl⟩
          have hc2' : wr.cell? ⟨b2, o2 + j, none⟩ = some (.int .i64 (y : Int)) := by
            rw [hc2, hy]; simp [dN, dig, List.getD, show j < ys.length by rw [← N2.out]; omega]
          obtain ⟨b1, o1, rfl, hc1⟩ := HA.out wr HB3.out
          have hcd := (HO3.out.at_ (k := i + j) hkl).1
          have fd := (HO3.out.at_ (k := i + j) hkl).2
          have hcd' : wr.cell? ⟨w.heap.size, i + j, none⟩ = some (.int .i64 (d : Int)) := by
            rw [hcd, hd']; simp [dN, dig, List.getD, hkl]
          have hd256 : d < 256 := by rw [hd']; exact dig_lt HD3.out _
          have hy256 : y < 256 := by rw [hy]; exact dig_lt D2.out _
          obtain ⟨q, hq⟩ : ∃ q, q = a * y := ⟨_, rfl⟩
          have hqb : q ≤ 65025 := by rw [hq]; exact Nat.mul_le_mul (show a ≤ 255 by omega) (show y ≤ 255 by omega)
          have hqi : (a : Int) * (y : Int) = (q : Int) := by rw [hq]; exact (Int.natCast_mul a y).symm
          obtain ⟨s, hs⟩ : ∃ s, s = d + cr + q := ⟨_, rfl⟩
          have hsb : s ≤ 65535 := by omega
          have HSt := Lib.hid (times_step zs i j cr a y s (valN os) (valN (ys.take j)) hkl (by rw [hs, hd', hq]) HV3.out)
          have HVt := Lib.hid (show valN (ys.take (j + 1)) = valN (ys.take j) + 256 ^ j * y by rw [hy]; exact valN_take_dig ys j)
          have hsi : (d : Int) + (cr : Int) + (q : Int) = (s : Int) := by omega
          have hset := HO3.out.set_ (i + j) (s % 256)
          have HSet := Lib.hid (show Own dN (wr.setCell ⟨w.heap.size, i + j, none⟩ (.int .i64 ((s : Int) % 256))) w.heap.size 3 (.slice (some ⟨w.heap.size, 0, none⟩) N N) (zs.set (i + j) (s % 256)) by
            have e : dN (s % 256) = .int .i64 ((s : Int) % 256) := by unfold dN; rw [Int.natCast_emod]; rfl
            rw [← e]; exact hset.1)
          have hijN : (i : Int) + (j : Int) < (N : Int) := by have := HNe.out; omega
          have hjn' : (j : Int) < (n2 : Int) := by omega
          have hii : ((i : Int) + (j : Int)).toNat = i + j := by omega
          clear hc2 hcd hd' hy hq hs hset hd256 hy256 hkl
          go_wp2_with fail
          go_region
          go_wp2_with fail
          refine ⟨⟨j + 1, s / 256, zs.set (i + j) (s % 256), by omega, by simp, by simp, by omega, fun h => by omega, by rw [List.length_set]; exact HL3.out, D256_set HD3.out _ (by omega), ?_, HSet.out.drew, (HB3.out.setCell (p := ⟨w.heap.size, i + j, none⟩) (Nat.le_refl _) _).drew⟩, by simp [intOf]; omega⟩
          rw [HVt.out]; exact HSt.out
        · have hjn' : ¬ ((j : Int) < (n2 : Int)) := by omega
          have HVa := Lib.hid (show valN (ys.take j) = valN ys from valN_take_all ys j (by rw [← N2.out]; omega))
          have HTo := Lib.hid (show valN os + 256 ^ i * (a * valN ys) = valN (xs.take (i + 1)) * valN ys by
            rw [HT.out, HV.out, Nat.add_mul, Nat.mul_assoc])
          by_cases h0 : cr = 0
          · subst h0
            have HZ := Lib.hid (show valN zs = valN (xs.take (i + 1)) * valN ys by
              have h := HV3.out
              rw [HVa.out, HTo.out] at h; omega)
            go_wp2_with fail
            exact ⟨⟨i + 1, zs, by omega, by simp, HL3.out, HD3.out, HZ.out, HO3.out, HB3.out⟩, by simp [intOf]; omega⟩
          · have hjj : j = n2 := by
              rcases Nat.lt_or_ge n2 j with h | h
              · exact absurd (HC3.out h) h0
              · omega
            have hcr0 : (cr : Int) > 0 := by omega
            obtain ⟨d, hd'⟩ : ∃ d, d = dig zs (i + j) := ⟨_, rfl⟩
            have hkl : i + j < zs.length := by rw [HL3.out, HNe.out]; omega
            have hcd := (HO3.out.at_ (k := i + j) hkl).1
            have fd := (HO3.out.at_ (k := i + j) hkl).2
            have hcd' : wr.cell? ⟨w.heap.size, i + j, none⟩ = some (.int .i64 (d : Int)) := by
              rw [hcd, hd']; simp [dN, dig, List.getD, hkl]
            have hd256 : d < 256 := by rw [hd']; exact dig_lt HD3.out _
            obtain ⟨s, hs⟩ : ∃ s, s = d + cr := ⟨_, rfl⟩
            have hsb : s ≤ 65535 := by omega
            have HSt := Lib.hid (times_step zs i j cr a 0 s (valN os) (valN (ys.take j)) hkl (by rw [hs, hd']; omega) HV3.out)
            have HVt := Lib.hid (show valN (ys.take (j + 1)) = valN ys from valN_take_all ys (j + 1) (by rw [← N2.out]; omega))
            have HC0 := Lib.hid (show s / 256 = 0 from times_top zs (i + j) cr s _ (by rw [hs, hd']) HV3.out (by
              rw [HVa.out, HTo.out]
              have g1 := valN_lt (xs.take (i + 1)) (fun x hx => D1.out x (List.mem_of_mem_take hx))
              have g2 := valN_lt ys D2.out
              rw [List.length_take, Nat.min_eq_left (by rw [← N1.out]; omega)] at g1
              rw [← N2.out] at g2
              rw [hjj, show i + n2 + 1 = (i + 1) + n2 by omega, Nat.pow_add]
              exact Nat.mul_lt_mul'' g1 g2))
            have hsi : (d : Int) + (cr : Int) = (s : Int) := by omega
            have hset := HO3.out.set_ (i + j) (s % 256)
            have HSet := Lib.hid (show Own dN (wr.setCell ⟨w.heap.size, i + j, none⟩ (.int .i64 ((s : Int) % 256))) w.heap.size 3 (.slice (some ⟨w.heap.size, 0, none⟩) N N) (zs.set (i + j) (s % 256)) by
              have e : dN (s % 256) = .int .i64 ((s : Int) % 256) := by unfold dN; rw [Int.natCast_emod]; rfl
              rw [← e]; exact hset.1)
            have hijN : (i : Int) + (j : Int) < (N : Int) := by have := HNe.out; omega
            have hii : ((i : Int) + (j : Int)).toNat = i + j := by omega
            have HJ := Lib.hid hjj
            clear hcd hd' hs hset hd256 hkl hjj
            go_wp2_with fail
            refine ⟨⟨j + 1, s / 256, zs.set (i + j) (s % 256), by have := HJ.out; omega, by simp, by simp, by rw [HC0.out]; omega, fun _ => HC0.out, by rw [List.length_set]; exact HL3.out, D256_set HD3.out _ (by omega), ?_, HSet.out, HB3.out.setCell (p := ⟨w.heap.size, i + j, none⟩) (Nat.le_refl _) _⟩, by simp [intOf]; omega⟩
            have h := HSt.out
            rw [Nat.mul_zero, Nat.add_zero] at h
            rw [HVt.out, ← HVa.out]; exact h
    · obtain rfl : i = n1 := by omega
      go_wp2_with fail
      go_ret
      exact ⟨_, os, rfl, HO2.out, HD.out, by rw [HV.out, valN_take_all xs i (by rw [← N1.out]; omega)], by rw [HL.out, HNe.out], HB2.out⟩
end Go.Proofs.Ytgcpjmmiciehmaa
