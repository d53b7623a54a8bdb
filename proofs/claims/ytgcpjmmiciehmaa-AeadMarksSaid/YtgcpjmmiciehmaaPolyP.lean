/- CONTRACT: the reference's sum of two numbers. -/
import Derived.Test.YtgcpjmmiciehmaaPolyR
namespace Go.Proofs.Ytgcpjmmiciehmaa
open Go.RowKit
set_option linter.unusedVariables false
set_option linter.unusedSimpArgs false

/-- the digit at a place; none beyond -/
def dig (xs : List Nat) (k : Nat) : Nat := xs.getD k 0
theorem dig_lt {xs : List Nat} (h : D256 xs) (k : Nat) : dig xs k < 256 := by
  unfold dig List.getD
  cases e : xs[k]? with
  | none => simp
  | some v => exact h v (List.mem_of_getElem? e)
theorem valN_take_dig (xs : List Nat) (k : Nat) : valN (xs.take (k + 1)) = valN (xs.take k) + 256 ^ k * dig xs k := by
  rcases Nat.lt_or_ge k xs.length with h | h
  · rw [valN_take_succ xs k h]; simp [dig, List.getD, h]
  · rw [List.take_of_length_le (by omega), List.take_of_length_le h]
    simp [dig, List.getD, List.getElem?_eq_none h]
theorem plus_step (zs xs ys : List Nat) (k cr s : Nat) (hk : zs.length = k) (hs : s = cr + dig xs k + dig ys k) (h : valN zs + 256 ^ k * cr = valN (xs.take k) + valN (ys.take k)) :
    valN (zs ++ [s % 256]) + 256 ^ (k + 1) * (s / 256) = valN (xs.take (k + 1)) + valN (ys.take (k + 1)) := by
  rw [valN_snoc, hk, valN_take_dig, valN_take_dig, Nat.pow_succ, Nat.mul_assoc, Nat.add_assoc, ← Nat.mul_add, Nat.mod_add_div, hs, Nat.mul_add, Nat.mul_add]
  omega
set_option maxRecDepth 100000 in
set_option maxHeartbeats 2000000 in
theorem plus_any (w : World) (B1 n1 c1 B2 n2 c2 : Nat) (A1 A2 : Option Addr) (xs ys : List Nat) (hr1 : Rd dN w B1 A1 xs) (hB1 : B1 ≤ w.heap.size) (hn1 : n1 = xs.length) (hr2 : Rd dN w B2 A2 ys) (hB2 : B2 ≤ w.heap.size) (hn2 : n2 = ys.length) (hd1 : D256 xs) (hd2 : D256 ys) (hb1 : n1 ≤ 1000) (hb2 : n2 ≤ 1000) :
    Calls Try.prog 57 #[.slice A1 n1 c1, .slice A2 n2 c2] w fun e w' => ∃ v zs, e = .returned v ∧ Own dN w' w.heap.size 3 v zs ∧ D256 zs ∧ valN zs = valN xs + valN ys ∧ zs.length ≤ max n1 n2 + 1 ∧ Below w.heap.size w w' := by
  obtain ⟨i0, hi0, hz0, hz1, hz2⟩ := info_parts infoIntR
  have R1 := Lib.hid (hr1.more hB1)
  have R2 := Lib.hid (hr2.more hB2)
  have N1 := Lib.hid hn1
  have N2 := Lib.hid hn2
  have D1 := Lib.hid hd1
  have D2 := Lib.hid hd2
  clear hr1 hr2 hn1 hn2 hB1 hB2 hd1 hd2
  go_enter Try.func57, Try.ntmps57
  go_wp2_with fail
  go_loopw [5, 6, 7, 8] (fun v cv iv _ wr => ∃ (k cr : Nat) (zs : List Nat), k ≤ max n1 n2 + 1 ∧ iv = .int .i64 (k : Int) ∧ cv = .int .i64 (cr : Int) ∧ cr ≤ 1 ∧ (max n1 n2 < k → cr = 0) ∧ zs.length = k ∧ D256 zs ∧ valN zs + 256 ^ k * cr = valN (xs.take k) + valN (ys.take k) ∧ Own dN wr w.heap.size 3 v zs ∧ Below w.heap.size w wr) (fun _ _ iv _ _ => max n1 n2 + 2 - (intOf iv).toNat)
  case atStart => exact ⟨0, 0, [], by omega, rfl, rfl, by omega, by simp, rfl, fun x hx => by simp at hx, by simp [valN], Own.nil_ _ _ _ _, Below.refl _ _⟩
  case round =>
    obtain ⟨k, cr, zs, hk, rfl, rfl, hcr, hcz, hl, hd, hv, ho, hb⟩ := hrel
    obtain ⟨Ao, co, rfl, -, -, -, -⟩ := ho.shape' (n := k) hl
    have HO := Lib.hid ho
    have HB := Lib.hid hb
    have HL := Lib.hid hl
    have HD := Lib.hid hd
    have HV := Lib.hid hv
    have HC := Lib.hid hcz
    have hz := hb.size
    clear ho hb hl hd hv hcz
    by_cases h1 : k < n1
    · obtain ⟨b1, o1, rfl, hbb1, hc1⟩ := (R1.out.below HB.out).at_ (k := k) (by rw [← N1.out]; omega)
      obtain ⟨x, hx⟩ : ∃ x, x = xs[k]'(by rw [← N1.out]; omega) := ⟨_, rfl⟩
      have hxd : dig xs k = x := by rw [hx]; simp [dig, List.getD, show k < xs.length by rw [← N1.out]; omega]
      rw [← hx] at hc1
      have hc1' : wr.cell? ⟨b1, o1 + k, none⟩ = some (.int .i64 (x : Int)) := hc1
      have h1' : (k : Int) < (n1 : Int) := by omega
      clear hc1 hx
      by_cases h2 : k < n2
      · obtain ⟨b2, o2, rfl, hbb2, hc2⟩ := (R2.out.below HB.out).at_ (k := k) (by rw [← N2.out]; omega)
        obtain ⟨y, hy⟩ : ∃ y, y = ys[k]'(by rw [← N2.out]; omega) := ⟨_, rfl⟩
        have hyd : dig ys k = y := by rw [hy]; simp [dig, List.getD, show k < ys.length by rw [← N2.out]; omega]
        rw [← hy] at hc2
        have hc2' : wr.cell? ⟨b2, o2 + k, none⟩ = some (.int .i64 (y : Int)) := hc2
        have h2' : (k : Int) < (n2 : Int) := by omega
        clear hc2 hy
        obtain ⟨s, hs⟩ : ∃ s, s = cr + dig xs k + dig ys k := ⟨_, rfl⟩
        have hsx := dig_lt D1.out k
        have hsy := dig_lt D2.out k
        have hsb : s ≤ 1000 := by omega
        have hq : (cr : Int) + (x : Int) + (y : Int) = (s : Int) := by omega
        have HS := Lib.hid (plus_step zs xs ys k cr s HL.out hs HV.out)
        have HRx := Lib.hid (show ∀ W : World, Rd dN (W.alloc (.cells #[.int .i64 ((s : Int) % 256)] 3)) (W.heap.size + 1) (some ⟨W.heap.size, 0, none⟩) [s % 256] from fun W => by
          have h := Rd.new dN W 3 [s % 256]
          rw [List.map_cons, List.map_nil, show dN (s % 256) = .int .i64 ((s : Int) % 256) from by unfold dN; rw [Int.natCast_emod]; rfl] at h
          exact h)
        have HD' := Lib.hid (show D256 (zs ++ [s % 256]) from fun x hx => by
          rcases List.mem_append.1 hx with h | h
          · exact HD.out x h
          · rw [List.mem_singleton.1 h]; omega)
        have HC1 := Lib.hid (show s / 256 ≤ 1 ∧ (max n1 n2 < k + 1 → s / 256 = 0) by
          refine ⟨by omega, fun h => ?_⟩
          have h1 : dig xs k + dig ys k = 0 ∨ k < max n1 n2 := by
            rcases Nat.lt_or_ge k (max n1 n2) with h' | h'
            · exact .inr h'
            · refine .inl ?_
              have g1 : dig xs k = 0 := by unfold dig; rw [List.getD, List.getElem?_eq_none (by rw [← N1.out]; omega)]; rfl
              have g2 : dig ys k = 0 := by unfold dig; rw [List.getD, List.getElem?_eq_none (by rw [← N2.out]; omega)]; rfl
              omega
          omega)
        clear hs hsx hsy
        go_wp2_with (at_builtin; refine wpList_append_rd rfl (.tmp 46) (.tmp 49) 97 rfl dN_one w.heap.size 3 i0 _ 8 Try.underlying97 hi0 hz0 hz1 hz2 rfl _ _ rfl (HO.out.alloc _) (wr.heap.size + 1) _ 1 1 [s % 256] rfl rfl (HRx.out wr) (by have := HL.out; simp [maxLen]; omega) (by have := HL.out; simp; omega) (by (first | omega | (simp; done) | (simp; omega) | (simp at *; omega))) ?_; intro v7 w7 hown7 hg7 hbb7)
        go_roundw
        case rel => exact ⟨k + 1, s / 256, zs ++ [s % 256], by omega, by simp, by simp, HC1.out.1, HC1.out.2, by rw [List.length_append, HL.out]; rfl, HD'.out, HS.out, hown7, hbb7 _ _ (Nat.le_refl _) (HB.out.alloc (by omega) _)⟩
        case measure => simp [intOf]; omega
      · have h2' : ¬ ((k : Int) < (n2 : Int)) := by omega
        have hyd : dig ys k = 0 := by unfold dig; rw [List.getD, List.getElem?_eq_none (by rw [← N2.out]; omega)]; rfl
        obtain ⟨s, hs⟩ : ∃ s, s = cr + dig xs k + dig ys k := ⟨_, rfl⟩
        have hsx := dig_lt D1.out k
        have hsy := dig_lt D2.out k
        have hsb : s ≤ 1000 := by omega
        have hq : (cr : Int) + (x : Int) = (s : Int) := by omega
        have HS := Lib.hid (plus_step zs xs ys k cr s HL.out hs HV.out)
        have HRx := Lib.hid (show ∀ W : World, Rd dN (W.alloc (.cells #[.int .i64 ((s : Int) % 256)] 3)) (W.heap.size + 1) (some ⟨W.heap.size, 0, none⟩) [s % 256] from fun W => by
          have h := Rd.new dN W 3 [s % 256]
          rw [List.map_cons, List.map_nil, show dN (s % 256) = .int .i64 ((s : Int) % 256) from by unfold dN; rw [Int.natCast_emod]; rfl] at h
          exact h)
        have HD' := Lib.hid (show D256 (zs ++ [s % 256]) from fun x hx => by
          rcases List.mem_append.1 hx with h | h
          · exact HD.out x h
          · rw [List.mem_singleton.1 h]; omega)
        have HC1 := Lib.hid (show s / 256 ≤ 1 ∧ (max n1 n2 < k + 1 → s / 256 = 0) by
          refine ⟨by omega, fun h => ?_⟩
          have h1 : dig xs k + dig ys k = 0 ∨ k < max n1 n2 := by
            rcases Nat.lt_or_ge k (max n1 n2) with h' | h'
            · exact .inr h'
            · refine .inl ?_
              have g1 : dig xs k = 0 := by unfold dig; rw [List.getD, List.getElem?_eq_none (by rw [← N1.out]; omega)]; rfl
              have g2 : dig ys k = 0 := by unfold dig; rw [List.getD, List.getElem?_eq_none (by rw [← N2.out]; omega)]; rfl
              omega
          omega)
        clear hs hsx hsy
        go_wp2_with (at_builtin; refine wpList_append_rd rfl (.tmp 46) (.tmp 49) 97 rfl dN_one w.heap.size 3 i0 _ 8 Try.underlying97 hi0 hz0 hz1 hz2 rfl _ _ rfl (HO.out.alloc _) (wr.heap.size + 1) _ 1 1 [s % 256] rfl rfl (HRx.out wr) (by have := HL.out; simp [maxLen]; omega) (by have := HL.out; simp; omega) (by (first | omega | (simp; done) | (simp; omega) | (simp at *; omega))) ?_; intro v7 w7 hown7 hg7 hbb7)
        go_roundw
        case rel => exact ⟨k + 1, s / 256, zs ++ [s % 256], by omega, by simp, by simp, HC1.out.1, HC1.out.2, by rw [List.length_append, HL.out]; rfl, HD'.out, HS.out, hown7, hbb7 _ _ (Nat.le_refl _) (HB.out.alloc (by omega) _)⟩
        case measure => simp [intOf]; omega
    · have h1' : ¬ ((k : Int) < (n1 : Int)) := by omega
      have hxd : dig xs k = 0 := by unfold dig; rw [List.getD, List.getElem?_eq_none (by rw [← N1.out]; omega)]; rfl
      by_cases h2 : k < n2
      · obtain ⟨b2, o2, rfl, hbb2, hc2⟩ := (R2.out.below HB.out).at_ (k := k) (by rw [← N2.out]; omega)
        obtain ⟨y, hy⟩ : ∃ y, y = ys[k]'(by rw [← N2.out]; omega) := ⟨_, rfl⟩
        have hyd : dig ys k = y := by rw [hy]; simp [dig, List.getD, show k < ys.length by rw [← N2.out]; omega]
        rw [← hy] at hc2
        have hc2' : wr.cell? ⟨b2, o2 + k, none⟩ = some (.int .i64 (y : Int)) := hc2
        have h2' : (k : Int) < (n2 : Int) := by omega
        clear hc2 hy
        obtain ⟨s, hs⟩ : ∃ s, s = cr + dig xs k + dig ys k := ⟨_, rfl⟩
        have hsx := dig_lt D1.out k
        have hsy := dig_lt D2.out k
        have hsb : s ≤ 1000 := by omega
        have hq : (cr : Int) + (y : Int) = (s : Int) := by omega
        have HS := Lib.hid (plus_step zs xs ys k cr s HL.out hs HV.out)
        have HRx := Lib.hid (show ∀ W : World, Rd dN (W.alloc (.cells #[.int .i64 ((s : Int) % 256)] 3)) (W.heap.size + 1) (some ⟨W.heap.size, 0, none⟩) [s % 256] from fun W => by
          have h := Rd.new dN W 3 [s % 256]
          rw [List.map_cons, List.map_nil, show dN (s % 256) = .int .i64 ((s : Int) % 256) from by unfold dN; rw [Int.natCast_emod]; rfl] at h
          exact h)
        have HD' := Lib.hid (show D256 (zs ++ [s % 256]) from fun x hx => by
          rcases List.mem_append.1 hx with h | h
          · exact HD.out x h
          · rw [List.mem_singleton.1 h]; omega)
        have HC1 := Lib.hid (show s / 256 ≤ 1 ∧ (max n1 n2 < k + 1 → s / 256 = 0) by
          refine ⟨by omega, fun h => ?_⟩
          have h1 : dig xs k + dig ys k = 0 ∨ k < max n1 n2 := by
            rcases Nat.lt_or_ge k (max n1 n2) with h' | h'
            · exact .inr h'
            · refine .inl ?_
              have g1 : dig xs k = 0 := by unfold dig; rw [List.getD, List.getElem?_eq_none (by rw [← N1.out]; omega)]; rfl
              have g2 : dig ys k = 0 := by unfold dig; rw [List.getD, List.getElem?_eq_none (by rw [← N2.out]; omega)]; rfl
              omega
          omega)
        clear hs hsx hsy
        go_wp2_with (at_builtin; refine wpList_append_rd rfl (.tmp 46) (.tmp 49) 97 rfl dN_one w.heap.size 3 i0 _ 8 Try.underlying97 hi0 hz0 hz1 hz2 rfl _ _ rfl (HO.out.alloc _) (wr.heap.size + 1) _ 1 1 [s % 256] rfl rfl (HRx.out wr) (by have := HL.out; simp [maxLen]; omega) (by have := HL.out; simp; omega) (by (first | omega | (simp; done) | (simp; omega) | (simp at *; omega))) ?_; intro v7 w7 hown7 hg7 hbb7)
        go_roundw
        case rel => exact ⟨k + 1, s / 256, zs ++ [s % 256], by omega, by simp, by simp, HC1.out.1, HC1.out.2, by rw [List.length_append, HL.out]; rfl, HD'.out, HS.out, hown7, hbb7 _ _ (Nat.le_refl _) (HB.out.alloc (by omega) _)⟩
        case measure => simp [intOf]; omega
      · have h2' : ¬ ((k : Int) < (n2 : Int)) := by omega
        have hyd : dig ys k = 0 := by unfold dig; rw [List.getD, List.getElem?_eq_none (by rw [← N2.out]; omega)]; rfl
        by_cases h0 : cr = 0
        · subst h0
          go_wp2_with fail
          go_ret
          exact ⟨_, rfl, zs, HO.out, HD.out, by have h := HV.out; rw [valN_take_all xs k (by rw [← N1.out]; omega), valN_take_all ys k (by rw [← N2.out]; omega)] at h; omega, by rw [HL.out]; exact hk, HB.out⟩
        · have h0' : (cr : Int) > 0 := by omega
          have hkm : k < max n1 n2 + 1 := by
            rcases Nat.lt_or_ge (max n1 n2) k with h | h
            · exact absurd (HC.out h) h0
            · omega
          obtain ⟨s, hs⟩ : ∃ s, s = cr + dig xs k + dig ys k := ⟨_, rfl⟩
          have hsx := dig_lt D1.out k
          have hsy := dig_lt D2.out k
          have hsb : s ≤ 1000 := by omega
          have hq : (cr : Int) = (s : Int) := by omega
          have HS := Lib.hid (plus_step zs xs ys k cr s HL.out hs HV.out)
          have HRx := Lib.hid (show ∀ W : World, Rd dN (W.alloc (.cells #[.int .i64 ((s : Int) % 256)] 3)) (W.heap.size + 1) (some ⟨W.heap.size, 0, none⟩) [s % 256] from fun W => by
            have h := Rd.new dN W 3 [s % 256]
            rw [List.map_cons, List.map_nil, show dN (s % 256) = .int .i64 ((s : Int) % 256) from by unfold dN; rw [Int.natCast_emod]; rfl] at h
            exact h)
          have HD' := Lib.hid (show D256 (zs ++ [s % 256]) from fun x hx => by
            rcases List.mem_append.1 hx with h | h
            · exact HD.out x h
            · rw [List.mem_singleton.1 h]; omega)
          have HC1 := Lib.hid (show s / 256 ≤ 1 ∧ (max n1 n2 < k + 1 → s / 256 = 0) by
            refine ⟨by omega, fun h => ?_⟩
            have h1 : dig xs k + dig ys k = 0 ∨ k < max n1 n2 := by
              rcases Nat.lt_or_ge k (max n1 n2) with h' | h'
              · exact .inr h'
              · refine .inl ?_
                have g1 : dig xs k = 0 := by unfold dig; rw [List.getD, List.getElem?_eq_none (by rw [← N1.out]; omega)]; rfl
                have g2 : dig ys k = 0 := by unfold dig; rw [List.getD, List.getElem?_eq_none (by rw [← N2.out]; omega)]; rfl
                omega
            omega)
          clear hs hsx hsy
          go_wp2_with (at_builtin; refine wpList_append_rd rfl (.tmp 46) (.tmp 49) 97 rfl dN_one w.heap.size 3 i0 _ 8 Try.underlying97 hi0 hz0 hz1 hz2 rfl _ _ rfl (HO.out.alloc _) (wr.heap.size + 1) _ 1 1 [s % 256] rfl rfl (HRx.out wr) (by have := HL.out; simp [maxLen]; omega) (by have := HL.out; simp; omega) (by (first | omega | (simp; done) | (simp; omega) | (simp at *; omega))) ?_; intro v7 w7 hown7 hg7 hbb7)
          go_roundw
          case rel => exact ⟨k + 1, s / 256, zs ++ [s % 256], by omega, by simp, by simp, HC1.out.1, HC1.out.2, by rw [List.length_append, HL.out]; rfl, HD'.out, HS.out, hown7, hbb7 _ _ (Nat.le_refl _) (HB.out.alloc (by omega) _)⟩
          case measure => simp [intOf]; omega
end Go.Proofs.Ytgcpjmmiciehmaa
