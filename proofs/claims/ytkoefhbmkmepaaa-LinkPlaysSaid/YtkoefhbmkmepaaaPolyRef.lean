/- CONTRACTS: the reference's numbers as lists of digits: numbers, trim, plus. -/
import Derived.Test.YtkoefhbmkmepaaaPolyD
namespace Go.Proofs.Ytkoefhbmkmepaaa
open Go.RowKit
set_option linter.unusedVariables false
set_option linter.unusedSimpArgs false

theorem infoIntR : (Try.prog.info? 3).map (fun i => (i.zero, i.size, i.bytes)) = some (some (.int .i64 0), 1, 8) := by kernel_rfl
/-- a digit as a value -/
def dN (n : Nat) : Value := .int .i64 (n : Int)
theorem dN_one (n : Nat) : (dN n).oneCell' = true := rfl
def lenR : Value → Int
  | .slice _ n _ => n
  | _ => 0
set_option maxRecDepth 100000 in
theorem numbers_any (w : World) (B n c : Nat) (A : Option Addr) (xs : List (BitVec 8)) (hr : Rd b8 w B A xs) (hB : B ≤ w.heap.size) (hn : n = xs.length) (hbig : n ≤ 1000) :
    Calls Try.prog 63 #[.slice A n c] w fun e w' => ∃ v, e = .returned v ∧ Own dN w' w.heap.size 3 v (xs.map BitVec.toNat) ∧ Below w.heap.size w w' := by
  obtain ⟨i0, hi0, hz0, hz1, hz2⟩ := info_parts infoIntR
  have HR := Lib.hid (hr.more hB)
  have HN := Lib.hid hn
  clear hr hn hB
  go_enter Try.func63, Try.ntmps63
  go_wp2_with fail
  go_loopw [3, 4] (fun v iv wr => ∃ k : Nat, k ≤ n ∧ iv = .int .i64 (k : Int) ∧ Own dN wr w.heap.size 3 v ((xs.take k).map BitVec.toNat) ∧ Below w.heap.size w wr) (fun _ iv _ => n - (intOf iv).toNat)
  case atStart => exact ⟨0, by omega, rfl, Own.nil_ _ _ _ _, Below.refl _ _⟩
  case round =>
    obtain ⟨k, hk, rfl, ho, hb⟩ := hrel
    obtain ⟨Ao, co, rfl, -, -, -, -⟩ := ho.shape' (n := k) (by rw [List.length_map, List.length_take, ← HN.out]; omega)
    have HO := Lib.hid ho
    have HB := Lib.hid hb
    have hz := hb.size
    clear ho hb
    by_cases hlt : k < n
    · obtain ⟨b, off, rfl, hbb, hc⟩ := (HR.out.below HB.out).at_ (k := k) (by rw [← HN.out]; omega)
      obtain ⟨x, hx⟩ : ∃ x, x = xs[k]'(by rw [← HN.out]; omega) := ⟨_, rfl⟩
      rw [← hx] at hc
      have hc' : wr.cell? ⟨b, off + k, none⟩ = some (.int .u8 (bv x)) := hc
      have HX := Lib.hid hx
      have hlt' : (k : Int) < (n : Int) := by omega
      clear hc hx
      go_wp2_with (at_builtin; refine wpList_append_rd rfl (.tmp 11) (.tmp 17) 22 rfl dN_one w.heap.size 3 i0 _ 8 Try.underlying22 hi0 hz0 hz1 hz2 rfl _ _ rfl (HO.out.alloc _) (wr.heap.size + 1) _ 1 1 [x.toNat] rfl rfl (Rd.new dN wr 3 [x.toNat]) (by have := HN.out; simp [maxLen]; omega) (by have := HN.out; simp; omega) (by (first | omega | (simp; done) | (simp; omega) | (simp at *; omega))) ?_; intro v7 w7 hown7 hg7 hbb7)
      go_roundw
      case rel =>
        refine ⟨k + 1, by omega, by simp, hown7.cast ?_, hbb7 _ _ (Nat.le_refl _) (HB.out.alloc (by omega) _)⟩
        have h1 : k < xs.length := by rw [← HN.out]; omega
        rw [List.take_add_one, List.map_append, List.getElem?_eq_getElem h1, HX.out]; rfl
      case measure => simp [intOf]; omega
    · obtain rfl : k = n := by omega
      go_wp2_with fail
      go_ret
      exact ⟨_, rfl, HO.out.cast (by rw [List.take_of_length_le (by rw [← HN.out]; omega)]), HB.out⟩
theorem sliced_z (a : Option Addr) (h m s : Nat) : sliced a 0 h m s = .slice a h m := by
  unfold sliced
  rw [Nat.zero_mul, Nat.sub_zero, Nat.sub_zero]
  cases a <;> simp [Addr.add]
attribute [local go_sem high] sliced_z
theorem valN_take_succ (xs : List Nat) (k : Nat) (h : k < xs.length) : valN (xs.take (k + 1)) = valN (xs.take k) + 256 ^ k * xs[k] := by
  rw [List.take_add_one, List.getElem?_eq_getElem h]
  simp only [Option.toList_some]
  rw [valN_snoc, List.length_take, Nat.min_eq_left (by omega)]
theorem valN_take_all (xs : List Nat) (k : Nat) (h : xs.length ≤ k) : valN (xs.take k) = valN xs := by rw [List.take_of_length_le h]
set_option maxRecDepth 100000 in
theorem trim_any (w : World) (B n c : Nat) (A : Option Addr) (xs : List Nat) (hr : Rd dN w B A xs) (hn : n = xs.length) (hc : n ≤ c) (hbig : n ≤ 1000000) :
    Calls Try.prog 65 #[.slice A n c] w fun e w' => ∃ m, e = .returned (.slice A m c) ∧ m ≤ n ∧ valN (xs.take m) = valN xs ∧ (m = 0 ∨ 256 ^ (m - 1) ≤ valN xs) ∧ w = w' := by
  have HR := Lib.hid hr
  have HN := Lib.hid hn
  clear hr hn
  go_enter Try.func65, Try.ntmps65
  go_wp2_with fail
  go_loopw [0] (fun va wr => ∃ k : Nat, k ≤ n ∧ va = .slice A k c ∧ valN (xs.take k) = valN xs ∧ wr = w) (fun va _ => (lenR va).toNat)
  case atStart => exact ⟨n, by omega, rfl, valN_take_all _ _ (by rw [HN.out]; omega), rfl⟩
  case round =>
    obtain ⟨k, hk, rfl, hv, rfl⟩ := hrel
    have HV := Lib.hid hv
    clear hv
    by_cases h0 : k = 0
    · subst h0
      go_wp2_with fail
      go_ret
      exact ⟨0, rfl, by omega, HV.out, .inl rfl, rfl⟩
    · obtain ⟨j, rfl⟩ : ∃ j, k = j + 1 := ⟨k - 1, by omega⟩
      obtain ⟨b, off, rfl, hb, hcl⟩ := HR.out.at_ (k := j) (by rw [← HN.out]; omega)
      obtain ⟨x, hx⟩ : ∃ x, x = xs[j]'(by rw [← HN.out]; omega) := ⟨_, rfl⟩
      rw [← hx] at hcl
      have hc' : wr.cell? ⟨b, off + j, none⟩ = some (.int .i64 (x : Int)) := hcl
      have HS := Lib.hid (show valN (xs.take (j + 1)) = valN (xs.take j) + 256 ^ j * x by rw [hx]; exact valN_take_succ xs j (by rw [← HN.out]; omega))
      have e1 : ((j + 1 : Nat) : Int) - 1 = (j : Int) := by omega
      have hjc : j ≤ c := by omega
      clear hcl hx h0
      by_cases hx0 : x = 0
      · subst hx0
        go_wp2_with fail
        go_roundw
        case rel => exact ⟨j, by omega, rfl, by have := HS.out; rw [← HV.out, this]; omega, trivial⟩
        case measure => simp [lenR]
      · have hx1 : ¬ ((x : Int) = 0) := by omega
        go_wp2_with fail
        go_ret
        exact ⟨j + 1, rfl, by omega, HV.out, .inr (by
          have h1 := HS.out
          rw [HV.out] at h1
          have h2 : 256 ^ j * 1 ≤ 256 ^ j * x := Nat.mul_le_mul_left _ (by omega)
          simp only [Nat.add_sub_cancel]; omega), rfl⟩
end Go.Proofs.Ytkoefhbmkmepaaa

/- CONTRACT: the reference's sum of two numbers. -/
namespace Go.Proofs.Ytkoefhbmkmepaaa
open Go.RowKit
set_option linter.unusedVariables false
set_option linter.unusedSimpArgs false

/-- the digit at a place; none beyond -/
def dig (xs : List Nat) (k : Nat) : Nat := xs.getD k 0
theorem dig_lt {xs : List Nat} (h : D256 xs) (k : Nat) : dig xs k < 256 := by
  unfold dig List.getD
  cases e : xs[k]? with
  | none => simp
  | some v => exact h v (List.mem_of_getElem? e)
theorem valN_take_dig (xs : List Nat) (k : Nat) : valN (xs.take (k + 1)) = valN (xs.take k) + 256 ^ k * dig xs k := by
  rcases Nat.lt_or_ge k xs.length with h | h
  · rw [valN_take_succ xs k h]; simp [dig, List.getD, h]
  · rw [List.take_of_length_le (by omega), List.take_of_length_le h]
    simp [dig, List.getD, List.getElem?_eq_none h]
theorem plus_step (zs xs ys : List Nat) (k cr s : Nat) (hk : zs.length = k) (hs : s = cr + dig xs k + dig ys k) (h : valN zs + 256 ^ k * cr = valN (xs.take k) + valN (ys.take k)) :
    valN (zs ++ [s % 256]) + 256 ^ (k + 1) * (s / 256) = valN (xs.take (k + 1)) + valN (ys.take (k + 1)) := by
  rw [valN_snoc, hk, valN_take_dig, valN_take_dig, Nat.pow_succ, Nat.mul_assoc, Nat.add_assoc, ← Nat.mul_add, Nat.mod_add_div, hs, Nat.mul_add, Nat.mul_add]
  omega
set_option maxRecDepth 100000 in
set_option maxHeartbeats 2000000 in
theorem plus_any (w : World) (B1 n1 c1 B2 n2 c2 : Nat) (A1 A2 : Option Addr) (xs ys : List Nat) (hr1 : Rd dN w B1 A1 xs) (hB1 : B1 ≤ w.heap.size) (hn1 : n1 = xs.length) (hr2 : Rd dN w B2 A2 ys) (hB2 : B2 ≤ w.heap.size) (hn2 : n2 = ys.length) (hd1 : D256 xs) (hd2 : D256 ys) (hb1 : n1 ≤ 1000) (hb2 : n2 ≤ 1000) :
    Calls Try.prog 67 #[.slice A1 n1 c1, .slice A2 n2 c2] w fun e w' => ∃ v zs, e = .returned v ∧ Own dN w' w.heap.size 3 v zs ∧ D256 zs ∧ valN zs = valN xs + valN ys ∧ zs.length ≤ max n1 n2 + 1 ∧ Below w.heap.size w w' := by
  obtain ⟨i0, hi0, hz0, hz1, hz2⟩ := info_parts infoIntR
  have R1 := Lib.hid (hr1.more hB1)
  have R2 := Lib.hid (hr2.more hB2)
  have N1 := Lib.hid hn1
  have N2 := Lib.hid hn2
  have D1 := Lib.hid hd1
  have D2 := Lib.hid hd2
  clear hr1 hr2 hn1 hn2 hB1 hB2 hd1 hd2
  go_enter Try.func67, Try.ntmps67
  go_wp2_with fail
  go_loopw [5, 6, 7, 8] (fun v cv iv _ wr => ∃ (k cr : Nat) (zs : List Nat), k ≤ max n1 n2 + 1 ∧ iv = .int .i64 (k : Int) ∧ cv = .int .i64 (cr : Int) ∧ cr ≤ 1 ∧ (max n1 n2 < k → cr = 0) ∧ zs.length = k ∧ D256 zs ∧ valN zs + 256 ^ k * cr = valN (xs.take k) + valN (ys.take k) ∧ Own dN wr w.heap.size 3 v zs ∧ Below w.heap.size w wr) (fun _ _ iv _ _ => max n1 n2 + 2 - (intOf iv).toNat)
  case atStart => exact ⟨0, 0, [], by omega, rfl, rfl, by omega, by simp, rfl, fun x hx => by simp at hx, by simp [valN], Own.nil_ _ _ _ _, Below.refl _ _⟩
  case round =>
    obtain ⟨k, cr, zs, hk, rfl, rfl, hcr, hcz, hl, hd, hv, ho, hb⟩ := hrel
    obtain ⟨Ao, co, rfl, -, -, -, -⟩ := ho.shape' (n := k) hl
    have HO := Lib.hid ho
    have HB := Lib.hid hb
    have HL := Lib.hid hl
    have HD := Lib.hid hd
    have HV := Lib.hid hv
    have HC := Lib.hid hcz
    have hz := hb.size
    clear ho hb hl hd hv hcz
    by_cases h1 : k < n1
    · obtain ⟨b1, o1, rfl, hbb1, hc1⟩ := (R1.out.below HB.out).at_ (k := k) (by rw [← N1.out]; omega)
      obtain ⟨x, hx⟩ : ∃ x, x = xs[k]'(by rw [← N1.out]; omega) := ⟨_, rfl⟩
      have hxd : dig xs k = x := by rw [hx]; simp [dig, List.getD, show k < xs.length by rw [← N1.out]; omega]
      rw [← hx] at hc1
      have hc1' : wr.cell? ⟨b1, o1 + k, none⟩ = some (.int .i64 (x : Int)) := hc1
      have h1' : (k : Int) < (n1 : Int) := by omega
      clear hc1 hx
      by_cases h2 : k < n2
      · obtain ⟨b2, o2, rfl, hbb2, hc2⟩ := (R2.out.below HB.out).at_ (k := k) (by rw [← N2.out]; omega)
        obtain ⟨y, hy⟩ : ∃ y, y = ys[k]'(by rw [← N2.out]; omega) := ⟨_, rfl⟩
        have hyd : dig ys k = y := by rw [hy]; simp [dig, List.getD, show k < ys.length by rw [← N2.out]; omega]
        rw [← hy] at hc2
        have hc2' : wr.cell? ⟨b2, o2 + k, none⟩ = some (.int .i64 (y : Int)) := hc2
        have h2' : (k : Int) < (n2 : Int) := by omega
        clear hc2 hy
        obtain ⟨s, hs⟩ : ∃ s, s = cr + dig xs k + dig ys k := ⟨_, rfl⟩
        have hsx := dig_lt D1.out k
        have hsy := dig_lt D2.out k
        have hsb : s ≤ 1000 := by omega
        have hq : (cr : Int) + (x : Int) + (y : Int) = (s : Int) := by omega
        have HS := Lib.hid (plus_step zs xs ys k cr s HL.out hs HV.out)
        have HRx := Lib.hid (show ∀ W : World, Rd dN (W.alloc (.cells #[.int .i64 ((s : Int) % 256)] 3)) (W.heap.size + 1) (some ⟨W.heap.size, 0, none⟩) [s % 256] from fun W => by
          have h := Rd.new dN W 3 [s % 256]
          rw [List.map_cons, List.map_nil, show dN (s % 256) = .int .i64 ((s : Int) % 256) from by unfold dN; rw [Int.natCast_emod]; rfl] at h
          exact h)
        have HD' := Lib.hid (show D256 (zs ++ [s % 256]) from fun x hx => by
          rcases List.mem_append.1 hx with h | h
          · exact HD.out x h
          · rw [List.mem_singleton.1 h]; omega)
        have HC1 := Lib.hid (show s / 256 ≤ 1 ∧ (max n1 n2 < k + 1 → s / 256 = 0) by
          refine ⟨by omega, fun h => ?_⟩
          have h1 : dig xs k + dig ys k = 0 ∨ k < max n1 n2 := by
            rcases Nat.lt_or_ge k (max n1 n2) with h' | h'
            · exact .inr h'
            · refine .inl ?_
              have g1 : dig xs k = 0 := by unfold dig; rw [List.getD, List.getElem?_eq_none (by rw [← N1.out]; omega)]; rfl
              have g2 : dig ys k = 0 := by unfold dig; rw [List.getD, List.getElem?_eq_none (by rw [← N2.out]; omega)]; rfl
              omega
          omega)
        clear hs hsx hsy
        go_wp2_with (at_builtin; refine wpList_append_rd rfl (.tmp 46) (.tmp 49) 22 rfl dN_one w.heap.size 3 i0 _ 8 Try.underlying22 hi0 hz0 hz1 hz2 rfl _ _ rfl (HO.out.alloc _) (wr.heap.size + 1) _ 1 1 [s % 256] rfl rfl (HRx.out wr) (by have := HL.out; simp [maxLen]; omega) (by have := HL.out; simp; omega) (by (first | omega | (simp; done) | (simp; omega) | (simp at *; omega))) ?_; intro v7 w7 hown7 hg7 hbb7)
        go_roundw
        case rel => exact ⟨k + 1, s / 256, zs ++ [s % 256], by omega, by simp, by simp, HC1.out.1, HC1.out.2, by rw [List.length_append, HL.out]; rfl, HD'.out, HS.out, hown7, hbb7 _ _ (Nat.le_refl _) (HB.out.alloc (by omega) _)⟩
        case measure => simp [intOf]; omega
      · have h2' : ¬ ((k : Int) < (n2 : Int)) := by omega
        have hyd : dig ys k = 0 := by unfold dig; rw [List.getD, List.getElem?_eq_none (by rw [← N2.out]; omega)]; rfl
        obtain ⟨s, hs⟩ : ∃ s, s = cr + dig xs k + dig ys k := ⟨_, rfl⟩
        have hsx := dig_lt D1.out k
        have hsy := dig_lt D2.out k
        have hsb : s ≤ 1000 := by omega
        have hq : (cr : Int) + (x : Int) = (s : Int) := by omega
        have HS := Lib.hid (plus_step zs xs ys k cr s HL.out hs HV.out)
        have HRx := Lib.hid (show ∀ W : World, Rd dN (W.alloc (.cells #[.int .i64 ((s : Int) % 256)] 3)) (W.heap.size + 1) (some ⟨W.heap.size, 0, none⟩) [s % 256] from fun W => by
          have h := Rd.new dN W 3 [s % 256]
          rw [List.map_cons, List.map_nil, show dN (s % 256) = .int .i64 ((s : Int) % 256) from by unfold dN; rw [Int.natCast_emod]; rfl] at h
          exact h)
        have HD' := Lib.hid (show D256 (zs ++ [s % 256]) from fun x hx => by
          rcases List.mem_append.1 hx with h | h
          · exact HD.out x h
          · rw [List.mem_singleton.1 h]; omega)
        have HC1 := Lib.hid (show s / 256 ≤ 1 ∧ (max n1 n2 < k + 1 → s / 256 = 0) by
          refine ⟨by omega, fun h => ?_⟩
          have h1 : dig xs k + dig ys k = 0 ∨ k < max n1 n2 := by
            rcases Nat.lt_or_ge k (max n1 n2) with h' | h'
            · exact .inr h'
            · refine .inl ?_
              have g1 : dig xs k = 0 := by unfold dig; rw [List.getD, List.getElem?_eq_none (by rw [← N1.out]; omega)]; rfl
              have g2 : dig ys k = 0 := by unfold dig; rw [List.getD, List.getElem?_eq_none (by rw [← N2.out]; omega)]; rfl
              omega
          omega)
        clear hs hsx hsy
        go_wp2_with (at_builtin; refine wpList_append_rd rfl (.tmp 46) (.tmp 49) 22 rfl dN_one w.heap.size 3 i0 _ 8 Try.underlying22 hi0 hz0 hz1 hz2 rfl _ _ rfl (HO.out.alloc _) (wr.heap.size + 1) _ 1 1 [s % 256] rfl rfl (HRx.out wr) (by have := HL.out; simp [maxLen]; omega) (by have := HL.out; simp; omega) (by (first | omega | (simp; done) | (simp; omega) | (simp at *; omega))) ?_; intro v7 w7 hown7 hg7 hbb7)
        go_roundw
        case rel => exact ⟨k + 1, s / 256, zs ++ [s % 256], by omega, by simp, by simp, HC1.out.1, HC1.out.2, by rw [List.length_append, HL.out]; rfl, HD'.out, HS.out, hown7, hbb7 _ _ (Nat.le_refl _) (HB.out.alloc (by omega) _)⟩
        case measure => simp [intOf]; omega
    · have h1' : ¬ ((k : Int) < (n1 : Int)) := by omega
      have hxd : dig xs k = 0 := by unfold dig; rw [List.getD, List.getElem?_eq_none (by rw [← N1.out]; omega)]; rfl
      by_cases h2 : k < n2
      · obtain ⟨b2, o2, rfl, hbb2, hc2⟩ := (R2.out.below HB.out).at_ (k := k) (by rw [← N2.out]; omega)
        obtain ⟨y, hy⟩ : ∃ y, y = ys[k]'(by rw [← N2.out]; omega) := ⟨_, rfl⟩
        have hyd : dig ys k = y := by rw [hy]; simp [dig, List.getD, show k < ys.length by rw [← N2.out]; omega]
        rw [← hy] at hc2
        have hc2' : wr.cell? ⟨b2, o2 + k, none⟩ = some (.int .i64 (y : Int)) := hc2
        have h2' : (k : Int) < (n2 : Int) := by omega
        clear hc2 hy
        obtain ⟨s, hs⟩ : ∃ s, s = cr + dig xs k + dig ys k := ⟨_, rfl⟩
        have hsx := dig_lt D1.out k
        have hsy := dig_lt D2.out k
        have hsb : s ≤ 1000 := by omega
        have hq : (cr : Int) + (y : Int) = (s : Int) := by omega
        have HS := Lib.hid (plus_step zs xs ys k cr s HL.out hs HV.out)
        have HRx := Lib.hid (show ∀ W : World, Rd dN (W.alloc (.cells #[.int .i64 ((s : Int) % 256)] 3)) (W.heap.size + 1) (some ⟨W.heap.size, 0, none⟩) [s % 256] from fun W => by
          have h := Rd.new dN W 3 [s % 256]
          rw [List.map_cons, List.map_nil, show dN (s % 256) = .int .i64 ((s : Int) % 256) from by unfold dN; rw [Int.natCast_emod]; rfl] at h
          exact h)
        have HD' := Lib.hid (show D256 (zs ++ [s % 256]) from fun x hx => by
          rcases List.mem_append.1 hx with h | h
          · exact HD.out x h
          · rw [List.mem_singleton.1 h]; omega)
        have HC1 := Lib.hid (show s / 256 ≤ 1 ∧ (max n1 n2 < k + 1 → s / 256 = 0) by
          refine ⟨by omega, fun h => ?_⟩
          have h1 : dig xs k + dig ys k = 0 ∨ k < max n1 n2 := by
            rcases Nat.lt_or_ge k (max n1 n2) with h' | h'
            · exact .inr h'
            · refine .inl ?_
              have g1 : dig xs k = 0 := by unfold dig; rw [List.getD, List.getElem?_eq_none (by rw [← N1.out]; omega)]; rfl
              have g2 : dig ys k = 0 := by unfold dig; rw [List.getD, List.getElem?_eq_none (by rw [← N2.out]; omega)]; rfl
              omega
          omega)
        clear hs hsx hsy
        go_wp2_with (at_builtin; refine wpList_append_rd rfl (.tmp 46) (.tmp 49) 22 rfl dN_one w.heap.size 3 i0 _ 8 Try.underlying22 hi0 hz0 hz1 hz2 rfl _ _ rfl (HO.out.alloc _) (wr.heap.size + 1) _ 1 1 [s % 256] rfl rfl (HRx.out wr) (by have := HL.out; simp [maxLen]; omega) (by have := HL.out; simp; omega) (by (first | omega | (simp; done) | (simp; omega) | (simp at *; omega))) ?_; intro v7 w7 hown7 hg7 hbb7)
        go_roundw
        case rel => exact ⟨k + 1, s / 256, zs ++ [s % 256], by omega, by simp, by simp, HC1.out.1, HC1.out.2, by rw [List.length_append, HL.out]; rfl, HD'.out, HS.out, hown7, hbb7 _ _ (Nat.le_refl _) (HB.out.alloc (by omega) _)⟩
        case measure => simp [intOf]; omega
      · have h2' : ¬ ((k : Int) < (n2 : Int)) := by omega
        have hyd : dig ys k = 0 := by unfold dig; rw [List.getD, List.getElem?_eq_none (by rw [← N2.out]; omega)]; rfl
        by_cases h0 : cr = 0
        · subst h0
          go_wp2_with fail
          go_ret
          exact ⟨_, rfl, zs, HO.out, HD.out, by have h := HV.out; rw [valN_take_all xs k (by rw [← N1.out]; omega), valN_take_all ys k (by rw [← N2.out]; omega)] at h; omega, by rw [HL.out]; exact hk, HB.out⟩
        · have h0' : (cr : Int) > 0 := by omega
          have hkm : k < max n1 n2 + 1 := by
            rcases Nat.lt_or_ge (max n1 n2) k with h | h
            · exact absurd (HC.out h) h0
            · omega
          obtain ⟨s, hs⟩ : ∃ s, s = cr + dig xs k + dig ys k := ⟨_, rfl⟩
          have hsx := dig_lt D1.out k
          have hsy := dig_lt D2.out k
          have hsb : s ≤ 1000 := by omega
          have hq : (cr : Int) = (s : Int) := by omega
          have HS := Lib.hid (plus_step zs xs ys k cr s HL.out hs HV.out)
          have HRx := Lib.hid (show ∀ W : World, Rd dN (W.alloc (.cells #[.int .i64 ((s : Int) % 256)] 3)) (W.heap.size + 1) (some ⟨W.heap.size, 0, none⟩) [s % 256] from fun W => by
            have h := Rd.new dN W 3 [s % 256]
            rw [List.map_cons, List.map_nil, show dN (s % 256) = .int .i64 ((s : Int) % 256) from by unfold dN; rw [Int.natCast_emod]; rfl] at h
            exact h)
          have HD' := Lib.hid (show D256 (zs ++ [s % 256]) from fun x hx => by
            rcases List.mem_append.1 hx with h | h
            · exact HD.out x h
            · rw [List.mem_singleton.1 h]; omega)
          have HC1 := Lib.hid (show s / 256 ≤ 1 ∧ (max n1 n2 < k + 1 → s / 256 = 0) by
            refine ⟨by omega, fun h => ?_⟩
            have h1 : dig xs k + dig ys k = 0 ∨ k < max n1 n2 := by
              rcases Nat.lt_or_ge k (max n1 n2) with h' | h'
              · exact .inr h'
              · refine .inl ?_
                have g1 : dig xs k = 0 := by unfold dig; rw [List.getD, List.getElem?_eq_none (by rw [← N1.out]; omega)]; rfl
                have g2 : dig ys k = 0 := by unfold dig; rw [List.getD, List.getElem?_eq_none (by rw [← N2.out]; omega)]; rfl
                omega
            omega)
          clear hs hsx hsy
          go_wp2_with (at_builtin; refine wpList_append_rd rfl (.tmp 46) (.tmp 49) 22 rfl dN_one w.heap.size 3 i0 _ 8 Try.underlying22 hi0 hz0 hz1 hz2 rfl _ _ rfl (HO.out.alloc _) (wr.heap.size + 1) _ 1 1 [s % 256] rfl rfl (HRx.out wr) (by have := HL.out; simp [maxLen]; omega) (by have := HL.out; simp; omega) (by (first | omega | (simp; done) | (simp; omega) | (simp at *; omega))) ?_; intro v7 w7 hown7 hg7 hbb7)
          go_roundw
          case rel => exact ⟨k + 1, s / 256, zs ++ [s % 256], by omega, by simp, by simp, HC1.out.1, HC1.out.2, by rw [List.length_append, HL.out]; rfl, HD'.out, HS.out, hown7, hbb7 _ _ (Nat.le_refl _) (HB.out.alloc (by omega) _)⟩
          case measure => simp [intOf]; omega
end Go.Proofs.Ytkoefhbmkmepaaa

/- CONTRACT: the reference's product of two numbers. -/
namespace Go.Proofs.Ytkoefhbmkmepaaa
open Go.RowKit
set_option linter.unusedVariables false
set_option linter.unusedSimpArgs false

theorem own_zerosI {w : World} {B N : Nat} {v : Value} (h : w.ownsRow B 3 1 v N (madeCells (Value.int .i64 0).cells (N * 1)).toList) : Own dN w B 3 v (List.replicate N 0) := by
  unfold Own
  rw [List.length_replicate]
  have e : (madeCells (Value.int .i64 0).cells (N * 1)).toList = List.replicate N (dN 0) := by rw [Nat.mul_one]; exact toList_madeCells_one _ _
  rw [e] at h
  rw [List.map_replicate]
  exact h
theorem valN_set : ∀ (xs : List Nat) (k y : Nat), k < xs.length → valN (xs.set k y) + 256 ^ k * dig xs k = valN xs + 256 ^ k * y
  | [], k, y, h => by simp at h
  | x :: xs, 0, y, _ => by simp [valN, dig]; omega
  | x :: xs, k + 1, y, h => by
    have ih := valN_set xs k y (by simpa using h)
    have e : dig (x :: xs) (k + 1) = dig xs k := by simp [dig]
    rw [e]
    simp only [List.set_cons_succ, valN, Nat.pow_succ]
    rw [Nat.mul_comm (256 ^ k) 256, Nat.mul_assoc, Nat.mul_assoc]
    omega
theorem dig_le_val : ∀ (xs : List Nat) (k : Nat), 256 ^ k * dig xs k ≤ valN xs
  | [], k => by simp [dig, valN]
  | x :: xs, 0 => by simp [dig, valN]
  | x :: xs, k + 1 => by
    have ih := dig_le_val xs k
    have e : dig (x :: xs) (k + 1) = dig xs k := by simp [dig]
    rw [e]
    simp only [valN, Nat.pow_succ]
    rw [Nat.mul_comm (256 ^ k) 256, Nat.mul_assoc]
    omega
theorem D256_set {xs : List Nat} (h : D256 xs) (k : Nat) {y : Nat} (hy : y < 256) : D256 (xs.set k y) := by
  intro x hx
  rcases List.mem_or_eq_of_mem_set hx with h' | h'
  · exact h x h'
  · rw [h']; exact hy
/-- one product of digits is added -/
theorem times_step (os : List Nat) (i j cr a y n V W : Nat) (hl : i + j < os.length) (hn : n = dig os (i + j) + cr + a * y) (h : valN os + 256 ^ (i + j) * cr = V + 256 ^ i * (a * W)) :
    valN (os.set (i + j) (n % 256)) + 256 ^ (i + (j + 1)) * (n / 256) = V + 256 ^ i * (a * (W + 256 ^ j * y)) := by
  have h1 := valN_set os (i + j) (n % 256) hl
  have h2 : 256 ^ (i + j) * (n % 256) + 256 ^ (i + (j + 1)) * (n / 256) = 256 ^ (i + j) * n := by
    rw [← Nat.add_assoc, Nat.pow_succ, Nat.mul_assoc, ← Nat.mul_add, Nat.mod_add_div]
  have h3 : 256 ^ (i + j) * n = 256 ^ (i + j) * dig os (i + j) + 256 ^ (i + j) * cr + 256 ^ (i + j) * (a * y) := by rw [hn, Nat.mul_add, Nat.mul_add]
  have h4 : 256 ^ i * (a * (W + 256 ^ j * y)) = 256 ^ i * (a * W) + 256 ^ (i + j) * (a * y) := by
    rw [Nat.mul_add, Nat.mul_add, Nat.pow_add, Nat.mul_left_comm a (256 ^ j) y, Nat.mul_assoc]
  omega
/-- at the top nothing is carried on -/
theorem times_top (os : List Nat) (m cr n T : Nat) (hn : n = dig os m + cr) (h : valN os + 256 ^ m * cr = T) (hT : T < 256 ^ (m + 1)) : n / 256 = 0 := by
  have h1 := dig_le_val os m
  have h2 : 256 ^ m * n ≤ T := by rw [hn, Nat.mul_add, ← h]; omega
  have h3 : 256 ^ m * n < 256 ^ m * 256 := by rw [← Nat.pow_succ]; omega
  have h4 : n < 256 := Nat.lt_of_mul_lt_mul_left h3
  omega
set_option maxRecDepth 100000 in
set_option maxHeartbeats 2000000 in
theorem rtimes_any (w : World) (B1 n1 c1 B2 n2 c2 : Nat) (A1 A2 : Option Addr) (xs ys : List Nat) (hr1 : Rd dN w B1 A1 xs) (hB1 : B1 ≤ w.heap.size) (hn1 : n1 = xs.length) (hr2 : Rd dN w B2 A2 ys) (hB2 : B2 ≤ w.heap.size) (hn2 : n2 = ys.length) (hd1 : D256 xs) (hd2 : D256 ys) (hb1 : n1 ≤ 1000) (hb2 : n2 ≤ 1000) :
    Calls Try.prog 66 #[.slice A1 n1 c1, .slice A2 n2 c2] w fun e w' => ∃ v zs, e = .returned v ∧ Own dN w' w.heap.size 3 v zs ∧ D256 zs ∧ valN zs = valN xs * valN ys ∧ zs.length = n1 + n2 + 1 ∧ Below w.heap.size w w' := by
  obtain ⟨i0, hi0, hz0, hz1, hz2⟩ := info_parts infoIntR
  have R1 := Lib.hid (hr1.more hB1)
  have R2 := Lib.hid (hr2.more hB2)
  have N1 := Lib.hid hn1
  have N2 := Lib.hid hn2
  have D1 := Lib.hid hd1
  have D2 := Lib.hid hd2
  clear hr1 hr2 hn1 hn2 hB1 hB2 hd1 hd2
  obtain ⟨N, hN⟩ : ∃ N, N = n1 + n2 + 1 := ⟨_, rfl⟩
  have hNi : (n1 : Int) + (n2 : Int) + 1 = (N : Int) := by omega
  have hNb : N ≤ 2001 := by omega
  have HNe := Lib.hid hN
  clear hN
  go_enter Try.func66, Try.ntmps66
  go_wp2_with (refine wpList_make_full _ rfl (.tmp 15) (.tmp 15) 22 rfl w.heap.size 3 i0 _ 1 Try.underlying22 hi0 hz0 hz1 .i64 .i64 _ _ N rfl rfl rfl rfl (by rw [hz2]; omega) (by simp [maxLen]; omega) (by simp) ?_; intro w3 hown3 hg3)
  have HO := Lib.hid (own_zerosI hown3)
  have HB := Lib.hid ((Below.refl w.heap.size w).grown hg3 (Nat.le_refl _) (fun k e => by cases e))
  have hz3 : w.heap.size < w3.heap.size := (HO.out.lt _ rfl).2
  clear hown3 hg3
  clear hNi
  go_wp2_with fail
  go_loopw [6, 7, 8, 9] (fun iv _ _ _ wr => ∃ (i : Nat) (os : List Nat), i ≤ n1 ∧ iv = .int .i64 (i : Int) ∧ os.length = N ∧ D256 os ∧ valN os = valN (xs.take i) * valN ys ∧ Own dN wr w.heap.size 3 (.slice (some ⟨w.heap.size, 0, none⟩) N N) os ∧ Below w.heap.size w wr) (fun iv _ _ _ _ => n1 - (intOf iv).toNat)
  case atStart => exact ⟨0, List.replicate N 0, by omega, rfl, by simp, fun x hx => by rw [List.eq_of_mem_replicate hx]; omega, by rw [valN_zeros]; simp [valN], HO.out, HB.out⟩
  case round =>
    obtain ⟨i, os, hi, rfl, hl, hd, hv, ho, hb⟩ := hrel
    have HL := Lib.hid hl
    have HD := Lib.hid hd
    have HV := Lib.hid hv
    have HO2 := Lib.hid ho
    have HB2 := Lib.hid hb
    clear hl hd hv ho hb HO HB
    by_cases hlt : i < n1
    · have hlt' : (i : Int) < (n1 : Int) := by omega
      obtain ⟨a, ha⟩ : ∃ a, a = dig xs i := ⟨_, rfl⟩
      have ha256 : a < 256 := by rw [ha]; exact dig_lt D1.out i
      have HA := Lib.hid (show ∀ W : World, Below w.heap.size w W → ∃ b1 o1, A1 = some ⟨b1, o1, none⟩ ∧ W.cell? ⟨b1, o1 + i, none⟩ = some (.int .i64 (a : Int)) from fun W hb => by
        obtain ⟨b1, o1, h1, -, hc1⟩ := (R1.out.below hb).at_ (k := i) (by rw [← N1.out]; omega)
        refine ⟨b1, o1, h1, ?_⟩
        rw [hc1, ha]; simp [dN, dig, List.getD, show i < xs.length by rw [← N1.out]; omega])
      have HT := Lib.hid (show valN (xs.take (i + 1)) = valN (xs.take i) + 256 ^ i * a by rw [ha]; exact valN_take_dig xs i)
      clear ha
      go_wp2_with fail
      go_loopw [7, 8, 9] (fun cv jv _ wr => ∃ (j cr : Nat) (zs : List Nat), j ≤ n2 + 1 ∧ jv = .int .i64 (j : Int) ∧ cv = .int .i64 (cr : Int) ∧ cr ≤ 255 ∧ (n2 < j → cr = 0) ∧ zs.length = N ∧ D256 zs ∧ valN zs + 256 ^ (i + j) * cr = valN os + 256 ^ i * (a * valN (ys.take j)) ∧ Own dN wr w.heap.size 3 (.slice (some ⟨w.heap.size, 0, none⟩) N N) zs ∧ Below w.heap.size w wr) (fun _ jv _ _ => n2 + 2 - (intOf jv).toNat)
      case atStart => exact ⟨0, 0, os, by omega, rfl, rfl, by omega, by simp, HL.out, HD.out, by simp [valN], HO2.out, HB2.out⟩
      case round =>
        obtain ⟨j, cr, zs, hj, rfl, rfl, hcr, hcz, hl, hd, hv, ho, hb⟩ := hrel
        have HL3 := Lib.hid hl
        have HD3 := Lib.hid hd
        have HV3 := Lib.hid hv
        have HO3 := Lib.hid ho
        have HB3 := Lib.hid hb
        have HC3 := Lib.hid hcz
        clear hl hd hv ho hb hcz
        by_cases hjn : j < n2
        · obtain ⟨d, hd'⟩ : ∃ d, d = dig zs (i + j) := ⟨_, rfl⟩
          have hkl : i + j < zs.length := by rw [HL3.out, HNe.out]; omega
          obtain ⟨b2, o2, rfl, hbb2, hc2⟩ := (R2.out.below HB3.out).at_ (k := j) (by rw [← N2.out]; omega)
          obtain ⟨y, hy⟩ : ∃ y, y = dig ys j := ⟨_, rfl⟩
          have hc2' : wr.cell? ⟨b2, o2 + j, none⟩ = some (.int .i64 (y : Int)) := by
            rw [hc2, hy]; simp [dN, dig, List.getD, show j < ys.length by rw [← N2.out]; omega]
          obtain ⟨b1, o1, rfl, hc1⟩ := HA.out wr HB3.out
          have hcd := (HO3.out.at_ (k := i + j) hkl).1
          have fd := (HO3.out.at_ (k := i + j) hkl).2
          have hcd' : wr.cell? ⟨w.heap.size, i + j, none⟩ = some (.int .i64 (d : Int)) := by
            rw [hcd, hd']; simp [dN, dig, List.getD, hkl]
          have hd256 : d < 256 := by rw [hd']; exact dig_lt HD3.out _
          have hy256 : y < 256 := by rw [hy]; exact dig_lt D2.out _
          obtain ⟨q, hq⟩ : ∃ q, q = a * y := ⟨_, rfl⟩
          have hqb : q ≤ 65025 := by rw [hq]; exact Nat.mul_le_mul (show a ≤ 255 by omega) (show y ≤ 255 by omega)
          have hqi : (a : Int) * (y : Int) = (q : Int) := by rw [hq]; exact (Int.natCast_mul a y).symm
          obtain ⟨s, hs⟩ : ∃ s, s = d + cr + q := ⟨_, rfl⟩
          have hsb : s ≤ 65535 := by omega
          have HSt := Lib.hid (times_step zs i j cr a y s (valN os) (valN (ys.take j)) hkl (by rw [hs, hd', hq]) HV3.out)
          have HVt := Lib.hid (show valN (ys.take (j + 1)) = valN (ys.take j) + 256 ^ j * y by rw [hy]; exact valN_take_dig ys j)
          have hsi : (d : Int) + (cr : Int) + (q : Int) = (s : Int) := by omega
          have hset := HO3.out.set_ (i + j) (s % 256)
          have HSet := Lib.hid (show Own dN (wr.setCell ⟨w.heap.size, i + j, none⟩ (.int .i64 ((s : Int) % 256))) w.heap.size 3 (.slice (some ⟨w.heap.size, 0, none⟩) N N) (zs.set (i + j) (s % 256)) by
            have e : dN (s % 256) = .int .i64 ((s : Int) % 256) := by unfold dN; rw [Int.natCast_emod]; rfl
            rw [← e]; exact hset.1)
          have hijN : (i : Int) + (j : Int) < (N : Int) := by have := HNe.out; omega
          have hjn' : (j : Int) < (n2 : Int) := by omega
          have hii : ((i : Int) + (j : Int)).toNat = i + j := by omega
          clear hc2 hcd hd' hy hq hs hset hd256 hy256 hkl
          go_wp2_with fail
          go_region
          go_wp2_with fail
          refine ⟨⟨j + 1, s / 256, zs.set (i + j) (s % 256), by omega, by simp, by simp, by omega, fun h => by omega, by rw [List.length_set]; exact HL3.out, D256_set HD3.out _ (by omega), ?_, HSet.out.drew, (HB3.out.setCell (p := ⟨w.heap.size, i + j, none⟩) (Nat.le_refl _) _).drew⟩, by simp [intOf]; omega⟩
          rw [HVt.out]; exact HSt.out
        · have hjn' : ¬ ((j : Int) < (n2 : Int)) := by omega
          have HVa := Lib.hid (show valN (ys.take j) = valN ys from valN_take_all ys j (by rw [← N2.out]; omega))
          have HTo := Lib.hid (show valN os + 256 ^ i * (a * valN ys) = valN (xs.take (i + 1)) * valN ys by
            rw [HT.out, HV.out, Nat.add_mul, Nat.mul_assoc])
          by_cases h0 : cr = 0
          · subst h0
            have HZ := Lib.hid (show valN zs = valN (xs.take (i + 1)) * valN ys by
              have h := HV3.out
              rw [HVa.out, HTo.out] at h; omega)
            go_wp2_with fail
            exact ⟨⟨i + 1, zs, by omega, by simp, HL3.out, HD3.out, HZ.out, HO3.out, HB3.out⟩, by simp [intOf]; omega⟩
          · have hjj : j = n2 := by
              rcases Nat.lt_or_ge n2 j with h | h
              · exact absurd (HC3.out h) h0
              · omega
            have hcr0 : (cr : Int) > 0 := by omega
            obtain ⟨d, hd'⟩ : ∃ d, d = dig zs (i + j) := ⟨_, rfl⟩
            have hkl : i + j < zs.length := by rw [HL3.out, HNe.out]; omega
            have hcd := (HO3.out.at_ (k := i + j) hkl).1
            have fd := (HO3.out.at_ (k := i + j) hkl).2
            have hcd' : wr.cell? ⟨w.heap.size, i + j, none⟩ = some (.int .i64 (d : Int)) := by
              rw [hcd, hd']; simp [dN, dig, List.getD, hkl]
            have hd256 : d < 256 := by rw [hd']; exact dig_lt HD3.out _
            obtain ⟨s, hs⟩ : ∃ s, s = d + cr := ⟨_, rfl⟩
            have hsb : s ≤ 65535 := by omega
            have HSt := Lib.hid (times_step zs i j cr a 0 s (valN os) (valN (ys.take j)) hkl (by rw [hs, hd']; omega) HV3.out)
            have HVt := Lib.hid (show valN (ys.take (j + 1)) = valN ys from valN_take_all ys (j + 1) (by rw [← N2.out]; omega))
            have HC0 := Lib.hid (show s / 256 = 0 from times_top zs (i + j) cr s _ (by rw [hs, hd']) HV3.out (by
              rw [HVa.out, HTo.out]
              have g1 := valN_lt (xs.take (i + 1)) (fun x hx => D1.out x (List.mem_of_mem_take hx))
              have g2 := valN_lt ys D2.out
              rw [List.length_take, Nat.min_eq_left (by rw [← N1.out]; omega)] at g1
              rw [← N2.out] at g2
              rw [hjj, show i + n2 + 1 = (i + 1) + n2 by omega, Nat.pow_add]
              exact Nat.mul_lt_mul'' g1 g2))
            have hsi : (d : Int) + (cr : Int) = (s : Int) := by omega
            have hset := HO3.out.set_ (i + j) (s % 256)
            have HSet := Lib.hid (show Own dN (wr.setCell ⟨w.heap.size, i + j, none⟩ (.int .i64 ((s : Int) % 256))) w.heap.size 3 (.slice (some ⟨w.heap.size, 0, none⟩) N N) (zs.set (i + j) (s % 256)) by
              have e : dN (s % 256) = .int .i64 ((s : Int) % 256) := by unfold dN; rw [Int.natCast_emod]; rfl
              rw [← e]; exact hset.1)
            have hijN : (i : Int) + (j : Int) < (N : Int) := by have := HNe.out; omega
            have hii : ((i : Int) + (j : Int)).toNat = i + j := by omega
            have HJ := Lib.hid hjj
            clear hcd hd' hs hset hd256 hkl hjj
            go_wp2_with fail
            refine ⟨⟨j + 1, s / 256, zs.set (i + j) (s % 256), by have := HJ.out; omega, by simp, by simp, by rw [HC0.out]; omega, fun _ => HC0.out, by rw [List.length_set]; exact HL3.out, D256_set HD3.out _ (by omega), ?_, HSet.out, HB3.out.setCell (p := ⟨w.heap.size, i + j, none⟩) (Nat.le_refl _) _⟩, by simp [intOf]; omega⟩
            have h := HSt.out
            rw [Nat.mul_zero, Nat.add_zero] at h
            rw [HVt.out, ← HVa.out]; exact h
    · obtain rfl : i = n1 := by omega
      go_wp2_with fail
      go_ret
      exact ⟨_, os, rfl, HO2.out, HD.out, by rw [HV.out, valN_take_all xs i (by rw [← N1.out]; omega)], by rw [HL.out, HNe.out], HB2.out⟩
end Go.Proofs.Ytkoefhbmkmepaaa

/- CONTRACT: the reference's number made small. -/
namespace Go.Proofs.Ytkoefhbmkmepaaa
open Go.RowKit
set_option linter.unusedVariables false
set_option linter.unusedSimpArgs false

/-- the digits that a slice shows -/
def rdList (w : World) : Value → List Nat
  | .slice (some a) n _ => (List.range n).map fun k => match w.cell? ⟨a.block, a.off + k, none⟩ with
    | some (.int _ z) => z.toNat
    | _ => 0
  | _ => []
theorem rdList_eq {w : World} {B n c : Nat} {A : Option Addr} {xs : List Nat} (h : Rd dN w B A xs) (hn : n = xs.length) : rdList w (.slice A n c) = xs := by
  subst hn
  cases A with
  | none =>
    cases xs with
    | nil => rfl
    | cons x xs => obtain ⟨b, o, e, -⟩ := h.at_ (k := 0) (by simp); cases e
  | some a =>
    refine List.ext_getElem (by simp [rdList]) fun k h1 h2 => ?_
    obtain ⟨b, o, e, -, hc⟩ := h.at_ (k := k) h2
    cases e
    simp [rdList, hc, dN]
theorem small_mod (V T L d : Nat) (hV : V = L + 340282366920938463463374607431768211456 * T) (hL : L < 340282366920938463463374607431768211456) :
    L + 340282366920938463463374607431768211456 * (T % 4) + 5 * (T / 4) = V % 1361129467683753853853498429727072845824 + 5 * (V / 1361129467683753853853498429727072845824) := by omega
theorem small_less (V : Nat) (h : 1361129467683753853853498429727072845824 ≤ V) : V % 1361129467683753853853498429727072845824 + 5 * (V / 1361129467683753853853498429727072845824) < V := by omega
theorem pow_le_len {m n V W : Nat} (hm : m = 0 ∨ 256 ^ (m - 1) ≤ W) (hW : W < V) (hV : V < 256 ^ n) : m ≤ n := by
  rcases hm with rfl | h
  · omega
  · have : 256 ^ (m - 1) < 256 ^ n := by omega
    have := (Nat.pow_lt_pow_iff_right (by omega : 1 < 256)).1 this
    omega
theorem dig_drop (zs : List Nat) (j k : Nat) : dig (zs.drop j) k = dig zs (j + k) := by simp [dig, List.getD]
theorem high_step (hs T : List Nat) (k n e : Nat) (hk : hs.length = k) (hn : n = dig T k / 4 + dig T (k + 1) % 4 * 64) (h : valN hs * 4 + e = valN (T.take k) + 256 ^ k * (dig T k % 4)) :
    valN (hs ++ [n]) * 4 + e = valN (T.take (k + 1)) + 256 ^ (k + 1) * (dig T (k + 1) % 4) := by
  rw [valN_snoc, hk, valN_take_dig, Nat.add_mul, Nat.pow_succ, Nat.mul_assoc, Nat.mul_assoc]
  have h1 : 256 ^ k * (n * 4) + 256 ^ k * (dig T k % 4) = 256 ^ k * dig T k + 256 ^ k * (256 * (dig T (k + 1) % 4)) := by
    rw [← Nat.mul_add, ← Nat.mul_add]; congr 1; omega
  omega
set_option maxRecDepth 100000 in
set_option maxHeartbeats 4000000 in
theorem small_any (w : World) (B n0 c0 : Nat) (A0 : Option Addr) (xs : List Nat) (hr : Rd dN w B A0 xs) (hB : B ≤ w.heap.size) (hn0 : n0 = xs.length) (hc0 : n0 ≤ c0) (hd : D256 xs) (htr : n0 = 0 ∨ 256 ^ (n0 - 1) ≤ valN xs) (hb : n0 ≤ 500) :
    Calls Try.prog 64 #[.slice A0 n0 c0] w fun e w' => ∃ A m c zs, e = .returned (.slice A m c) ∧ Rd dN w' w'.heap.size A zs ∧ m = zs.length ∧ m ≤ c ∧ m ≤ 17 ∧ D256 zs ∧ valN zs % prm = valN xs % prm ∧ valN zs < 1361129467683753853853498429727072845824 ∧ Below w.heap.size w w' := by
  obtain ⟨i0, hi0, hz0, hz1, hz2⟩ := info_parts infoIntR
  have R0 := Lib.hid (hr.more hB)
  have N0 := Lib.hid hn0
  have D0 := Lib.hid hd
  have T0 := Lib.hid htr
  clear hr hn0 hB hd htr
  go_enter Try.func64, Try.ntmps64
  go_wp2_with fail
  go_loopw [0, 3, 4, 5, 6, 7] (fun va _ _ _ _ _ wr => ∃ (A : Option Addr) (n c : Nat) (zs : List Nat), va = .slice A n c ∧ n ≤ c ∧ n ≤ 500 ∧ n = zs.length ∧ Rd dN wr wr.heap.size A zs ∧ D256 zs ∧ (n = 0 ∨ 256 ^ (n - 1) ≤ valN zs) ∧ valN zs % prm = valN xs % prm ∧ Below w.heap.size w wr) (fun va _ _ _ _ _ wr => valN (rdList wr va))
  case atStart => exact ⟨A0, n0, c0, xs, rfl, hc0, hb, N0.out, R0.out, D0.out, T0.out, rfl, Below.refl _ _⟩
  case round =>
    obtain ⟨A, n, c, zs, rfl, hnc, hnb, hl, hr, hd, ht, hv, hbw⟩ := hrel
    have HR := Lib.hid hr
    have HL := Lib.hid hl
    have HD := Lib.hid hd
    have HT := Lib.hid ht
    have HV := Lib.hid hv
    have HB := Lib.hid hbw
    have HM := Lib.hid (rdList_eq (c := c) hr hl)
    have hws := hbw.size
    clear hl hr hd ht hv hbw
    by_cases h17 : n ≤ 16
    · have h1 : ¬ ((n : Int) > 17) := by omega
      have h2 : ¬ ((n : Int) = 17) := by omega
      go_wp2_with fail
      go_ret
      exact ⟨A, n, c, rfl, zs, HR.out, HL.out, by omega, by omega, HD.out, HV.out, by
        have h1 := valN_lt zs HD.out
        rw [← HL.out] at h1
        have h2 : 256 ^ n ≤ 256 ^ 16 := Nat.pow_le_pow_right (by omega) h17
        omega, HB.out⟩
    · obtain ⟨t, ht⟩ : ∃ t, t = dig zs 16 := ⟨_, rfl⟩
      obtain ⟨b, off, rfl, hbb, hc16⟩ := HR.out.at_ (k := 16) (by rw [← HL.out]; omega)
      have hc16' : wr.cell? ⟨b, off + 16, none⟩ = some (.int .i64 (t : Int)) := by
        rw [hc16, ht]; simp [dN, dig, List.getD, show 16 < zs.length by rw [← HL.out]; omega]
      have ht256 : t < 256 := by rw [ht]; exact dig_lt HD.out _
      have HVt := Lib.hid (valN_take_drop zs 16 (by rw [← HL.out]; omega))
      have HLt := Lib.hid (valN_lt (zs.take 16) (fun x hx => HD.out x (List.mem_of_mem_take hx)))
      have HTd := Lib.hid ht
      by_cases hexit : n = 17 ∧ t ≤ 3
      · obtain ⟨hn17, ht3⟩ := hexit
        have ht3' : ¬ ((t : Int) > 3) := by omega
        have hE := Lib.hid (show valN zs < 1361129467683753853853498429727072845824 by
          have h1 := HVt.out
          have h2 := HLt.out
          have h3 : zs.drop 16 = [t] := by
            rw [ht]
            have : zs.length = 17 := by rw [← HL.out]; exact hn17
            rw [List.drop_eq_getElem_cons (by omega), List.drop_eq_nil_of_le (by omega)]
            simp [dig, List.getD, this]
          rw [h3] at h1
          rw [List.length_take, Nat.min_eq_left (by rw [← HL.out]; omega)] at h2
          simp only [valN] at h1
          omega)
        subst hn17
        clear hc16 ht
        go_wp2_with fail
        go_ret
        exact ⟨some ⟨b, off, none⟩, 17, c, rfl, zs, HR.out, HL.out, by omega, by omega, HD.out, HV.out, hE.out, HB.out⟩
      · have hbig := Lib.hid (show 1361129467683753853853498429727072845824 ≤ valN zs by
          by_cases h18 : 17 < n
          · rcases HT.out with h | h
            · omega
            · have : 256 ^ 17 ≤ 256 ^ (n - 1) := Nat.pow_le_pow_right (by omega) (by omega)
              omega
          · have h1 := dig_le_val zs 16
            rw [← ht] at h1
            have h2 : 4 ≤ t := by omega
            have h3 : 256 ^ 16 * 4 ≤ 256 ^ 16 * t := Nat.mul_le_mul_left _ h2
            omega)
        clear hc16 ht
        obtain ⟨wo, hwo⟩ : ∃ wo, wo = wr := ⟨_, rfl⟩
        have HRo := Lib.hid (show Rd dN wo wo.heap.size (some ⟨b, off, none⟩) zs by rw [hwo]; exact HR.out)
        have HBo := Lib.hid (show Below w.heap.size w wo by rw [hwo]; exact HB.out)
        have hwso : w.heap.size ≤ wo.heap.size := HBo.out.size
        have HMo := Lib.hid (show rdList wo (.slice (some ⟨b, off, none⟩) n c) = zs by rw [hwo]; exact HM.out)
        have Hstart := Lib.hid (show Below wo.heap.size wo wr by rw [hwo]; exact Below.refl _ _)
        clear hwo HR HB
        have hn17 : 17 ≤ n := by omega
        by_cases h18 : 17 < n
        · have h18' : (n : Int) > 17 := by omega
          go_wp2_with fail
          go_loopw [3, 5] (fun lv iv wr => ∃ i : Nat, i ≤ n ∧ iv = .int .i64 (i : Int) ∧ Own dN wr wo.heap.size 3 lv (zs.take (min i 16)) ∧ Below wo.heap.size wo wr) (fun _ iv _ => n - (intOf iv).toNat)
          case atStart => exact ⟨0, by omega, rfl, Own.nil_ _ _ _ _, Hstart.out⟩
          case round =>
            obtain ⟨i, hi, rfl, ho, hb⟩ := hrel
            have HO := Lib.hid ho
            have HB := Lib.hid hb
            have hz := hb.size
            obtain ⟨Al, cl, rfl, -, -, -, -⟩ := ho.shape' (n := min i 16) (by rw [List.length_take, ← HL.out]; omega)
            clear ho hb
            by_cases hlt : i < n
            · have hlt' : (i : Int) < (n : Int) := by omega
              by_cases hlt16 : i < 16
              · have hlt16' : (i : Int) < 16 := by omega
                obtain ⟨x, hx⟩ : ∃ x, x = dig zs i := ⟨_, rfl⟩
                obtain ⟨b', off', e', -, hci⟩ := (HRo.out.below HB.out).at_ (k := i) (by rw [← HL.out]; omega)
                cases e'
                have hci' : wr.cell? ⟨b, off + i, none⟩ = some (.int .i64 (x : Int)) := by
                  rw [hci, hx]; simp [dN, dig, List.getD, show i < zs.length by rw [← HL.out]; omega]
                have HXe := Lib.hid (show zs.take (min i 16) ++ [x] = zs.take (min (i + 1) 16) by
                  rw [Nat.min_eq_left (by omega), Nat.min_eq_left (by omega), List.take_add_one, hx]
                  simp [dig, List.getD, show i < zs.length by rw [← HL.out]; omega])
                clear hci hx
                go_wp2_with (at_builtin; refine wpList_append_rd rfl (.tmp 30) (.tmp 35) 22 rfl dN_one wo.heap.size 3 i0 _ 8 Try.underlying22 hi0 hz0 hz1 hz2 rfl _ _ rfl (HO.out.alloc _) (wr.heap.size + 1) _ 1 1 [x] rfl rfl (Rd.new dN wr 3 [x]) (by simp [maxLen]; omega) (by simp; omega) (by (first | omega | (simp; done) | (simp; omega) | (simp at *; omega))) ?_; intro v7 w7 hown7 hg7 hbb7)
                exact ⟨⟨i + 1, by omega, by simp, hown7.cast HXe.out, hbb7 _ _ (Nat.le_refl _) (HB.out.alloc (by omega) _)⟩, by simp [intOf]; omega⟩
              · have hlt16' : ¬ ((i : Int) < 16) := by omega
                go_wp2_with fail
                exact ⟨⟨i + 1, by omega, by simp, HO.out.cast (by rw [Nat.min_eq_right (by omega), Nat.min_eq_right (by omega)]), HB.out⟩, by simp [intOf]; omega⟩
            · have hlt' : ¬ ((i : Int) < (n : Int)) := by omega
              have HLo := Lib.hid (HO.out.cast (show zs.take (min i 16) = zs.take 16 by rw [Nat.min_eq_right (by omega)]))
              obtain ⟨b', off', e', -, hc16⟩ := (HRo.out.below HB.out).at_ (k := 16) (by rw [← HL.out]; omega)
              cases e'
              have hc16' : wr.cell? ⟨b, off + 16, none⟩ = some (.int .i64 (t : Int)) := by
                rw [hc16, HTd.out]; simp [dN, dig, List.getD, show 16 < zs.length by rw [← HL.out]; omega]
              have hz16 : (zs.take 16).length = 16 := by rw [List.length_take, ← HL.out]; omega
              have HZ16 := Lib.hid hz16
              have HRx := Lib.hid (show ∀ W : World, Rd dN (W.alloc (.cells #[.int .i64 ((t : Int) % 4)] 3)) (W.heap.size + 1) (some ⟨W.heap.size, 0, none⟩) [t % 4] from fun W => by
                have h := Rd.new dN W 3 [t % 4]
                rw [List.map_cons, List.map_nil, show dN (t % 4) = .int .i64 ((t : Int) % 4) from by unfold dN; rw [Int.natCast_emod]; rfl] at h
                exact h)
              clear hc16 hz16 HO
              go_wp2_with (at_builtin; refine wpList_append_rd rfl (.tmp 37) (.tmp 42) 22 rfl dN_one wo.heap.size 3 i0 _ 8 Try.underlying22 hi0 hz0 hz1 hz2 rfl _ _ rfl (HLo.out.alloc _) (wr.heap.size + 1) _ 1 1 [t % 4] rfl rfl (HRx.out wr) (by have := HZ16.out; simp [maxLen]; omega) (by have := HZ16.out; simp; omega) (by (first | omega | (simp; done) | (simp; omega) | (simp at *; omega))) ?_; intro v7 w7 hown7 hg7 hbb7)
              obtain ⟨A7, c7, rfl, -, -, -, -⟩ := hown7.shape' (n := 17) (by rw [List.length_append, HZ16.out]; rfl)
              have HB7 := Lib.hid (hbb7 _ _ (Nat.le_refl _) (HB.out.alloc (by omega) _) : Below wo.heap.size wo w7)
              have HLow := Lib.hid hown7
              have hz7 : wo.heap.size ≤ w7.heap.size := HB7.out.size
              clear hown7 hg7 hbb7 HLo hz HRx hc16' hlt' hlt
              go_loopw [4, 6, 7] (fun hv iv _ wr => ∃ (k I : Nat) (hs : List Nat), I = 16 + k ∧ I ≤ n ∧ iv = .int .i64 (I : Int) ∧ Own dN wr w7.heap.size 3 hv hs ∧ hs.length = k ∧ D256 hs ∧ valN hs * 4 + t % 4 = valN ((zs.drop 16).take k) + 256 ^ k * (dig (zs.drop 16) k % 4) ∧ Below w7.heap.size w7 wr) (fun _ iv _ _ => n - (intOf iv).toNat)
              case atStart => exact ⟨0, 16, [], by omega, by omega, rfl, Own.nil_ _ _ _ _, rfl, fun x hx => by simp at hx, by rw [dig_drop, HTd.out]; simp [valN], Below.refl _ _⟩
              case round =>
                obtain ⟨k, I, hs, hI, hIn, rfl, ho, hl, hd, hv, hb⟩ := hrel
                have HO := Lib.hid ho
                have HB2 := Lib.hid hb
                have HLh := Lib.hid hl
                have HDh := Lib.hid hd
                have HVh := Lib.hid hv
                have HI := Lib.hid hI
                have hzr := hb.size
                have hkb : k ≤ 500 := by omega
                obtain ⟨Ah, ch, rfl, -, -, -, -⟩ := ho.shape' (n := k) hl
                clear ho hb hl hd hv hI
                by_cases hlt : I < n
                · have hlt' : (I : Int) < (n : Int) := by omega
                  obtain ⟨x, hx⟩ : ∃ x, x = dig zs I := ⟨_, rfl⟩
                  obtain ⟨b', off', e', -, hci⟩ := ((HRo.out.below HB7.out).below (HB2.out.mono hz7)).at_ (k := I) (by rw [← HL.out]; omega)
                  cases e'
                  have hci' : wr.cell? ⟨b, off + I, none⟩ = some (.int .i64 (x : Int)) := by
                    rw [hci, hx]; simp [dN, dig, List.getD, show I < zs.length by rw [← HL.out]; omega]
                  have hx256 : x < 256 := by rw [hx]; exact dig_lt HD.out _
                  have HXd := Lib.hid (show dig (zs.drop 16) k = x by rw [dig_drop, ← HI.out, hx])
                  clear hci hx
                  by_cases hlt2 : I + 1 < n
                  · have hlt2' : (I : Int) + 1 < (n : Int) := by omega
                    obtain ⟨y, hy⟩ : ∃ y, y = dig zs (I + 1) := ⟨_, rfl⟩
                    obtain ⟨b', off', e', -, hcj⟩ := ((HRo.out.below HB7.out).below (HB2.out.mono hz7)).at_ (k := I + 1) (by rw [← HL.out]; omega)
                    cases e'
                    have hcj' : wr.cell? ⟨b, off + (I + 1), none⟩ = some (.int .i64 (y : Int)) := by
                      rw [hcj, hy]; simp [dN, dig, List.getD, show I + 1 < zs.length by rw [← HL.out]; omega]
                    have hy256 : y < 256 := by rw [hy]; exact dig_lt HD.out _
                    have HYd := Lib.hid (show dig (zs.drop 16) (k + 1) = y by rw [dig_drop, ← Nat.add_assoc, ← HI.out, hy])
                    obtain ⟨s, hs'⟩ : ∃ s, s = x / 4 + y % 4 * 64 := ⟨_, rfl⟩
                    have hs256 : s < 256 := by omega
                    have hsi : (x : Int) / 4 + (y : Int) % 4 * 64 = (s : Int) := by omega
                    have HSt := Lib.hid (high_step hs (zs.drop 16) k s (t % 4) HLh.out (by rw [HXd.out, HYd.out]; exact hs') HVh.out)
                    clear hcj hy hs'
                    go_wp2_with (at_builtin; refine wpList_append_rd rfl (.tmp 69) (.tmp 71) 22 rfl dN_one w7.heap.size 3 i0 _ 8 Try.underlying22 hi0 hz0 hz1 hz2 rfl _ _ rfl (HO.out.alloc _) (wr.heap.size + 1) _ 1 1 [s] rfl rfl (Rd.new dN wr 3 [s]) (by have := HLh.out; simp [maxLen]; omega) (by have := HLh.out; simp; omega) (by (first | omega | (simp; done) | (simp; omega) | (simp at *; omega))) ?_; intro v8 w8 hown8 hg8 hbb8)
                    refine ⟨⟨k + 1, I + 1, hs ++ [s], by have := HI.out; omega, by omega, by simp, hown8, by rw [List.length_append, HLh.out]; rfl, fun z hz => ?_, HSt.out, hbb8 _ _ (Nat.le_refl _) (HB2.out.alloc (by omega) _)⟩, by simp [intOf]; omega⟩
                    rcases List.mem_append.1 hz with h | h
                    · exact HDh.out z h
                    · rw [List.mem_singleton.1 h]; exact hs256
                  · have hlt2' : ¬ ((I : Int) + 1 < (n : Int)) := by omega
                    have HYd := Lib.hid (show dig (zs.drop 16) (k + 1) = 0 by rw [dig_drop, ← Nat.add_assoc, ← HI.out]; unfold dig; rw [List.getD, List.getElem?_eq_none (by rw [← HL.out]; omega)]; rfl)
                    obtain ⟨s, hs'⟩ : ∃ s, s = x / 4 := ⟨_, rfl⟩
                    have hs256 : s < 256 := by omega
                    have hsi : (x : Int) / 4 = (s : Int) := by omega
                    have HSt := Lib.hid (high_step hs (zs.drop 16) k s (t % 4) HLh.out (by rw [HXd.out, HYd.out, hs']; simp) HVh.out)
                    clear hs'
                    go_wp2_with (at_builtin; refine wpList_append_rd rfl (.tmp 69) (.tmp 71) 22 rfl dN_one w7.heap.size 3 i0 _ 8 Try.underlying22 hi0 hz0 hz1 hz2 rfl _ _ rfl (HO.out.alloc _) (wr.heap.size + 1) _ 1 1 [s] rfl rfl (Rd.new dN wr 3 [s]) (by have := HLh.out; simp [maxLen]; omega) (by have := HLh.out; simp; omega) (by (first | omega | (simp; done) | (simp; omega) | (simp at *; omega))) ?_; intro v8 w8 hown8 hg8 hbb8)
                    refine ⟨⟨k + 1, I + 1, hs ++ [s], by have := HI.out; omega, by omega, by simp, hown8, by rw [List.length_append, HLh.out]; rfl, fun z hz => ?_, HSt.out, hbb8 _ _ (Nat.le_refl _) (HB2.out.alloc (by omega) _)⟩, by simp [intOf]; omega⟩
                    rcases List.mem_append.1 hz with h | h
                    · exact HDh.out z h
                    · rw [List.mem_singleton.1 h]; exact hs256
                · obtain rfl : I = n := by omega
                  have HVT := Lib.hid (show valN hs * 4 + t % 4 = valN (zs.drop 16) by
                    have h := HVh.out
                    have hk : (zs.drop 16).length = k := by rw [List.length_drop, ← HL.out, HI.out]; omega
                    have hz : dig (zs.drop 16) k = 0 := by unfold dig; rw [List.getD, List.getElem?_eq_none (by rw [hk]; omega)]; rfl
                    rw [valN_take_all _ k (by rw [hk]; omega), hz] at h
                    omega)
                  go_wp2_with fail
                  have hsz1 : (wr.alloc (.cells #[.int .i64 5] 3)).heap.size = wr.heap.size + 1 := World.size_alloc ..
                  refine (rtimes_any (wr.alloc (.cells #[.int .i64 5] 3)) wr.heap.size k ch (wr.heap.size + 1) 1 1 Ah (some ⟨wr.heap.size, 0, none⟩) hs [5] (HO.out.rd.alloc (Nat.le_refl _) _) (by rw [hsz1]; omega) HLh.out.symm (Rd.new dN wr 3 [5]) (by rw [hsz1]; omega) rfl HDh.out (by intro x hx; rw [List.mem_singleton.1 hx]; omega) (by omega) (by omega)).mono ?_
                  rintro e w8 ⟨v8, ps, rfl, hop, hdp, hvp, hlp, hbp⟩
                  obtain ⟨A8, c8, rfl, -, -, -, -⟩ := hop.shape' (n := k + 2) hlp
                  have HB8 := Lib.hid (show Below w7.heap.size w7 w8 from (HB2.out.alloc (by omega) _).trans (hbp.mono (by rw [hsz1]; omega)))
                  have HP := Lib.hid hop.rd
                  have HDp := Lib.hid hdp
                  have HLp := Lib.hid hlp
                  have HVp := Lib.hid (show valN ps = 5 * valN hs by rw [hvp]; simp [valN]; omega)
                  have hsz8 : w7.heap.size ≤ w8.heap.size := HB8.out.size
                  clear hop hdp hvp hlp hbp hsz1
                  go_wp2_with fail
                  refine (plus_any w8 w7.heap.size 17 c7 w8.heap.size (k + 2) c8 A7 A8 (zs.take 16 ++ [t % 4]) ps (HLow.out.rd.below HB8.out) hsz8 (by rw [List.length_append, HZ16.out]; rfl) HP.out (Nat.le_refl _) HLp.out.symm (fun z hz => by
                    rcases List.mem_append.1 hz with h | h
                    · exact HD.out z (List.mem_of_mem_take h)
                    · rw [List.mem_singleton.1 h]; omega) HDp.out (by omega) (by omega)).mono ?_
                  rintro e w9 ⟨v9, qs, rfl, hoq, hdq, hvq, hlq, hbq⟩
                  obtain ⟨M, hM⟩ : ∃ M, M = qs.length := ⟨_, rfl⟩
                  obtain ⟨A9, c9, rfl, -, -, hc9, -⟩ := hoq.shape' (n := M) hM.symm
                  have HQ := Lib.hid hoq.rd
                  have HDq := Lib.hid hdq
                  have hMb : M ≤ 600 := by omega
                  have HM9 := Lib.hid hM
                  have HB9 := Lib.hid (show Below w.heap.size w w9 from HBo.out.trans ((HB7.out.mono hwso).trans ((HB8.out.mono (by omega)).trans (hbq.mono (by omega)))))
                  have HVq := Lib.hid (show valN qs = valN zs % 1361129467683753853853498429727072845824 + 5 * (valN zs / 1361129467683753853853498429727072845824) by
                    have h1 := small_mod (valN zs) (valN (zs.drop 16)) (valN (zs.take 16)) 0 HVt.out (by have h := HLt.out; rw [HZ16.out] at h; exact h)
                    have h2 := HVT.out
                    rw [hvq, valN_snoc, HZ16.out, HVp.out, ← h1, show t % 4 = valN (zs.drop 16) % 4 by omega, show valN hs = valN (zs.drop 16) / 4 by omega])
                  clear hoq hdq hvq hlq hbq hM
                  go_wp2_with fail
                  refine (trim_any w9 w9.heap.size M c9 A9 qs HQ.out HM9.out hc9 (by omega)).mono ?_
                  rintro e w10 ⟨m, rfl, hmM, hvm, htm, rfl⟩
                  go_wp2_with fail
                  have hlm : m = (qs.take m).length := by rw [List.length_take, ← HM9.out]; omega
                  have hsm := small_less (valN zs) hbig.out
                  rw [← HVq.out] at hsm
                  refine ⟨⟨A9, m, c9, qs.take m, rfl, by omega, ?_, hlm, HQ.out.take m, fun z hz => HDq.out z (List.mem_of_mem_take hz), by rw [hvm]; exact htm, ?_, HB9.out⟩, ?_⟩
                  · have hz := valN_lt zs HD.out
                    rw [← HL.out] at hz
                    have := pow_le_len htm hsm hz
                    omega
                  · rw [hvm, HVq.out, red_mod]; exact HV.out
                  · rw [rdList_eq (HQ.out.take m) hlm, HM.out, hvm]
                    exact hsm
        · obtain rfl : n = 17 := by omega
          have ht4 : (t : Int) > 3 := by omega
          clear h18
          go_wp2_with fail
          go_loopw [3, 5] (fun lv iv wr => ∃ i : Nat, i ≤ 17 ∧ iv = .int .i64 (i : Int) ∧ Own dN wr wo.heap.size 3 lv (zs.take (min i 16)) ∧ Below wo.heap.size wo wr) (fun _ iv _ => 17 - (intOf iv).toNat)
          case atStart => exact ⟨0, by omega, rfl, Own.nil_ _ _ _ _, Hstart.out⟩
          case round =>
            obtain ⟨i, hi, rfl, ho, hb⟩ := hrel
            have HO := Lib.hid ho
            have HB := Lib.hid hb
            have hz := hb.size
            obtain ⟨Al, cl, rfl, -, -, -, -⟩ := ho.shape' (n := min i 16) (by rw [List.length_take, ← HL.out]; omega)
            clear ho hb
            by_cases hlt : i < 17
            · have hlt' : (i : Int) < (17 : Int) := by omega
              by_cases hlt16 : i < 16
              · have hlt16' : (i : Int) < 16 := by omega
                obtain ⟨x, hx⟩ : ∃ x, x = dig zs i := ⟨_, rfl⟩
                obtain ⟨b', off', e', -, hci⟩ := (HRo.out.below HB.out).at_ (k := i) (by rw [← HL.out]; omega)
                cases e'
                have hci' : wr.cell? ⟨b, off + i, none⟩ = some (.int .i64 (x : Int)) := by
                  rw [hci, hx]; simp [dN, dig, List.getD, show i < zs.length by rw [← HL.out]; omega]
                have HXe := Lib.hid (show zs.take (min i 16) ++ [x] = zs.take (min (i + 1) 16) by
                  rw [Nat.min_eq_left (by omega), Nat.min_eq_left (by omega), List.take_add_one, hx]
                  simp [dig, List.getD, show i < zs.length by rw [← HL.out]; omega])
                clear hci hx
                go_wp2_with (at_builtin; refine wpList_append_rd rfl (.tmp 30) (.tmp 35) 22 rfl dN_one wo.heap.size 3 i0 _ 8 Try.underlying22 hi0 hz0 hz1 hz2 rfl _ _ rfl (HO.out.alloc _) (wr.heap.size + 1) _ 1 1 [x] rfl rfl (Rd.new dN wr 3 [x]) (by simp [maxLen]; omega) (by simp; omega) (by (first | omega | (simp; done) | (simp; omega) | (simp at *; omega))) ?_; intro v7 w7 hown7 hg7 hbb7)
                exact ⟨⟨i + 1, by omega, by simp, hown7.cast HXe.out, hbb7 _ _ (Nat.le_refl _) (HB.out.alloc (by omega) _)⟩, by simp [intOf]; omega⟩
              · have hlt16' : ¬ ((i : Int) < 16) := by omega
                go_wp2_with fail
                exact ⟨⟨i + 1, by omega, by simp, HO.out.cast (by rw [Nat.min_eq_right (by omega), Nat.min_eq_right (by omega)]), HB.out⟩, by simp [intOf]; omega⟩
            · have hlt' : ¬ ((i : Int) < (17 : Int)) := by omega
              have HLo := Lib.hid (HO.out.cast (show zs.take (min i 16) = zs.take 16 by rw [Nat.min_eq_right (by omega)]))
              obtain ⟨b', off', e', -, hc16⟩ := (HRo.out.below HB.out).at_ (k := 16) (by rw [← HL.out]; omega)
              cases e'
              have hc16' : wr.cell? ⟨b, off + 16, none⟩ = some (.int .i64 (t : Int)) := by
                rw [hc16, HTd.out]; simp [dN, dig, List.getD, show 16 < zs.length by rw [← HL.out]; omega]
              have hz16 : (zs.take 16).length = 16 := by rw [List.length_take, ← HL.out]; omega
              have HZ16 := Lib.hid hz16
              have HRx := Lib.hid (show ∀ W : World, Rd dN (W.alloc (.cells #[.int .i64 ((t : Int) % 4)] 3)) (W.heap.size + 1) (some ⟨W.heap.size, 0, none⟩) [t % 4] from fun W => by
                have h := Rd.new dN W 3 [t % 4]
                rw [List.map_cons, List.map_nil, show dN (t % 4) = .int .i64 ((t : Int) % 4) from by unfold dN; rw [Int.natCast_emod]; rfl] at h
                exact h)
              clear hc16 hz16 HO
              go_wp2_with (at_builtin; refine wpList_append_rd rfl (.tmp 37) (.tmp 42) 22 rfl dN_one wo.heap.size 3 i0 _ 8 Try.underlying22 hi0 hz0 hz1 hz2 rfl _ _ rfl (HLo.out.alloc _) (wr.heap.size + 1) _ 1 1 [t % 4] rfl rfl (HRx.out wr) (by have := HZ16.out; simp [maxLen]; omega) (by have := HZ16.out; simp; omega) (by (first | omega | (simp; done) | (simp; omega) | (simp at *; omega))) ?_; intro v7 w7 hown7 hg7 hbb7)
              obtain ⟨A7, c7, rfl, -, -, -, -⟩ := hown7.shape' (n := 17) (by rw [List.length_append, HZ16.out]; rfl)
              have HB7 := Lib.hid (hbb7 _ _ (Nat.le_refl _) (HB.out.alloc (by omega) _) : Below wo.heap.size wo w7)
              have HLow := Lib.hid hown7
              have hz7 : wo.heap.size ≤ w7.heap.size := HB7.out.size
              clear hown7 hg7 hbb7 HLo hz HRx hc16' hlt' hlt
              go_loopw [4, 6, 7] (fun hv iv _ wr => ∃ (k I : Nat) (hs : List Nat), I = 16 + k ∧ I ≤ 17 ∧ iv = .int .i64 (I : Int) ∧ Own dN wr w7.heap.size 3 hv hs ∧ hs.length = k ∧ D256 hs ∧ valN hs * 4 + t % 4 = valN ((zs.drop 16).take k) + 256 ^ k * (dig (zs.drop 16) k % 4) ∧ Below w7.heap.size w7 wr) (fun _ iv _ _ => 17 - (intOf iv).toNat)
              case atStart => exact ⟨0, 16, [], by omega, by omega, rfl, Own.nil_ _ _ _ _, rfl, fun x hx => by simp at hx, by rw [dig_drop, HTd.out]; simp [valN], Below.refl _ _⟩
              case round =>
                obtain ⟨k, I, hs, hI, hIn, rfl, ho, hl, hd, hv, hb⟩ := hrel
                have HO := Lib.hid ho
                have HB2 := Lib.hid hb
                have HLh := Lib.hid hl
                have HDh := Lib.hid hd
                have HVh := Lib.hid hv
                have HI := Lib.hid hI
                have hzr := hb.size
                have hkb : k ≤ 500 := by omega
                obtain ⟨Ah, ch, rfl, -, -, -, -⟩ := ho.shape' (n := k) hl
                clear ho hb hl hd hv hI
                by_cases hlt : I < 17
                · have hlt' : (I : Int) < (17 : Int) := by omega
                  obtain ⟨x, hx⟩ : ∃ x, x = dig zs I := ⟨_, rfl⟩
                  obtain ⟨b', off', e', -, hci⟩ := ((HRo.out.below HB7.out).below (HB2.out.mono hz7)).at_ (k := I) (by rw [← HL.out]; omega)
                  cases e'
                  have hci' : wr.cell? ⟨b, off + I, none⟩ = some (.int .i64 (x : Int)) := by
                    rw [hci, hx]; simp [dN, dig, List.getD, show I < zs.length by rw [← HL.out]; omega]
                  have hx256 : x < 256 := by rw [hx]; exact dig_lt HD.out _
                  have HXd := Lib.hid (show dig (zs.drop 16) k = x by rw [dig_drop, ← HI.out, hx])
                  clear hci hx
                  by_cases hlt2 : I + 1 < 17
                  · have hlt2' : (I : Int) + 1 < (17 : Int) := by omega
                    obtain ⟨y, hy⟩ : ∃ y, y = dig zs (I + 1) := ⟨_, rfl⟩
                    obtain ⟨b', off', e', -, hcj⟩ := ((HRo.out.below HB7.out).below (HB2.out.mono hz7)).at_ (k := I + 1) (by rw [← HL.out]; omega)
                    cases e'
                    have hcj' : wr.cell? ⟨b, off + (I + 1), none⟩ = some (.int .i64 (y : Int)) := by
                      rw [hcj, hy]; simp [dN, dig, List.getD, show I + 1 < zs.length by rw [← HL.out]; omega]
                    have hy256 : y < 256 := by rw [hy]; exact dig_lt HD.out _
                    have HYd := Lib.hid (show dig (zs.drop 16) (k + 1) = y by rw [dig_drop, ← Nat.add_assoc, ← HI.out, hy])
                    obtain ⟨s, hs'⟩ : ∃ s, s = x / 4 + y % 4 * 64 := ⟨_, rfl⟩
                    have hs256 : s < 256 := by omega
                    have hsi : (x : Int) / 4 + (y : Int) % 4 * 64 = (s : Int) := by omega
                    have HSt := Lib.hid (high_step hs (zs.drop 16) k s (t % 4) HLh.out (by rw [HXd.out, HYd.out]; exact hs') HVh.out)
                    clear hcj hy hs'
                    go_wp2_with (at_builtin; refine wpList_append_rd rfl (.tmp 69) (.tmp 71) 22 rfl dN_one w7.heap.size 3 i0 _ 8 Try.underlying22 hi0 hz0 hz1 hz2 rfl _ _ rfl (HO.out.alloc _) (wr.heap.size + 1) _ 1 1 [s] rfl rfl (Rd.new dN wr 3 [s]) (by have := HLh.out; simp [maxLen]; omega) (by have := HLh.out; simp; omega) (by (first | omega | (simp; done) | (simp; omega) | (simp at *; omega))) ?_; intro v8 w8 hown8 hg8 hbb8)
                    refine ⟨⟨k + 1, I + 1, hs ++ [s], by have := HI.out; omega, by omega, by simp, hown8, by rw [List.length_append, HLh.out]; rfl, fun z hz => ?_, HSt.out, hbb8 _ _ (Nat.le_refl _) (HB2.out.alloc (by omega) _)⟩, by simp [intOf]; omega⟩
                    rcases List.mem_append.1 hz with h | h
                    · exact HDh.out z h
                    · rw [List.mem_singleton.1 h]; exact hs256
                  · have hlt2' : ¬ ((I : Int) + 1 < (17 : Int)) := by omega
                    have HYd := Lib.hid (show dig (zs.drop 16) (k + 1) = 0 by rw [dig_drop, ← Nat.add_assoc, ← HI.out]; unfold dig; rw [List.getD, List.getElem?_eq_none (by rw [← HL.out]; omega)]; rfl)
                    obtain ⟨s, hs'⟩ : ∃ s, s = x / 4 := ⟨_, rfl⟩
                    have hs256 : s < 256 := by omega
                    have hsi : (x : Int) / 4 = (s : Int) := by omega
                    have HSt := Lib.hid (high_step hs (zs.drop 16) k s (t % 4) HLh.out (by rw [HXd.out, HYd.out, hs']; simp) HVh.out)
                    clear hs'
                    go_wp2_with (at_builtin; refine wpList_append_rd rfl (.tmp 69) (.tmp 71) 22 rfl dN_one w7.heap.size 3 i0 _ 8 Try.underlying22 hi0 hz0 hz1 hz2 rfl _ _ rfl (HO.out.alloc _) (wr.heap.size + 1) _ 1 1 [s] rfl rfl (Rd.new dN wr 3 [s]) (by have := HLh.out; simp [maxLen]; omega) (by have := HLh.out; simp; omega) (by (first | omega | (simp; done) | (simp; omega) | (simp at *; omega))) ?_; intro v8 w8 hown8 hg8 hbb8)
                    refine ⟨⟨k + 1, I + 1, hs ++ [s], by have := HI.out; omega, by omega, by simp, hown8, by rw [List.length_append, HLh.out]; rfl, fun z hz => ?_, HSt.out, hbb8 _ _ (Nat.le_refl _) (HB2.out.alloc (by omega) _)⟩, by simp [intOf]; omega⟩
                    rcases List.mem_append.1 hz with h | h
                    · exact HDh.out z h
                    · rw [List.mem_singleton.1 h]; exact hs256
                · obtain rfl : I = 17 := by omega
                  have HVT := Lib.hid (show valN hs * 4 + t % 4 = valN (zs.drop 16) by
                    have h := HVh.out
                    have hk : (zs.drop 16).length = k := by rw [List.length_drop, ← HL.out, HI.out]; omega
                    have hz : dig (zs.drop 16) k = 0 := by unfold dig; rw [List.getD, List.getElem?_eq_none (by rw [hk]; omega)]; rfl
                    rw [valN_take_all _ k (by rw [hk]; omega), hz] at h
                    omega)
                  go_wp2_with fail
                  have hsz1 : (wr.alloc (.cells #[.int .i64 5] 3)).heap.size = wr.heap.size + 1 := World.size_alloc ..
                  refine (rtimes_any (wr.alloc (.cells #[.int .i64 5] 3)) wr.heap.size k ch (wr.heap.size + 1) 1 1 Ah (some ⟨wr.heap.size, 0, none⟩) hs [5] (HO.out.rd.alloc (Nat.le_refl _) _) (by rw [hsz1]; omega) HLh.out.symm (Rd.new dN wr 3 [5]) (by rw [hsz1]; omega) rfl HDh.out (by intro x hx; rw [List.mem_singleton.1 hx]; omega) (by omega) (by omega)).mono ?_
                  rintro e w8 ⟨v8, ps, rfl, hop, hdp, hvp, hlp, hbp⟩
                  obtain ⟨A8, c8, rfl, -, -, -, -⟩ := hop.shape' (n := k + 2) hlp
                  have HB8 := Lib.hid (show Below w7.heap.size w7 w8 from (HB2.out.alloc (by omega) _).trans (hbp.mono (by rw [hsz1]; omega)))
                  have HP := Lib.hid hop.rd
                  have HDp := Lib.hid hdp
                  have HLp := Lib.hid hlp
                  have HVp := Lib.hid (show valN ps = 5 * valN hs by rw [hvp]; simp [valN]; omega)
                  have hsz8 : w7.heap.size ≤ w8.heap.size := HB8.out.size
                  clear hop hdp hvp hlp hbp hsz1
                  go_wp2_with fail
                  refine (plus_any w8 w7.heap.size 17 c7 w8.heap.size (k + 2) c8 A7 A8 (zs.take 16 ++ [t % 4]) ps (HLow.out.rd.below HB8.out) hsz8 (by rw [List.length_append, HZ16.out]; rfl) HP.out (Nat.le_refl _) HLp.out.symm (fun z hz => by
                    rcases List.mem_append.1 hz with h | h
                    · exact HD.out z (List.mem_of_mem_take h)
                    · rw [List.mem_singleton.1 h]; omega) HDp.out (by omega) (by omega)).mono ?_
                  rintro e w9 ⟨v9, qs, rfl, hoq, hdq, hvq, hlq, hbq⟩
                  obtain ⟨M, hM⟩ : ∃ M, M = qs.length := ⟨_, rfl⟩
                  obtain ⟨A9, c9, rfl, -, -, hc9, -⟩ := hoq.shape' (n := M) hM.symm
                  have HQ := Lib.hid hoq.rd
                  have HDq := Lib.hid hdq
                  have hMb : M ≤ 600 := by omega
                  have HM9 := Lib.hid hM
                  have HB9 := Lib.hid (show Below w.heap.size w w9 from HBo.out.trans ((HB7.out.mono hwso).trans ((HB8.out.mono (by omega)).trans (hbq.mono (by omega)))))
                  have HVq := Lib.hid (show valN qs = valN zs % 1361129467683753853853498429727072845824 + 5 * (valN zs / 1361129467683753853853498429727072845824) by
                    have h1 := small_mod (valN zs) (valN (zs.drop 16)) (valN (zs.take 16)) 0 HVt.out (by have h := HLt.out; rw [HZ16.out] at h; exact h)
                    have h2 := HVT.out
                    rw [hvq, valN_snoc, HZ16.out, HVp.out, ← h1, show t % 4 = valN (zs.drop 16) % 4 by omega, show valN hs = valN (zs.drop 16) / 4 by omega])
                  clear hoq hdq hvq hlq hbq hM
                  go_wp2_with fail
                  refine (trim_any w9 w9.heap.size M c9 A9 qs HQ.out HM9.out hc9 (by omega)).mono ?_
                  rintro e w10 ⟨m, rfl, hmM, hvm, htm, rfl⟩
                  go_wp2_with fail
                  have hlm : m = (qs.take m).length := by rw [List.length_take, ← HM9.out]; omega
                  have hsm := small_less (valN zs) hbig.out
                  rw [← HVq.out] at hsm
                  refine ⟨⟨A9, m, c9, qs.take m, rfl, by omega, ?_, hlm, HQ.out.take m, fun z hz => HDq.out z (List.mem_of_mem_take hz), by rw [hvm]; exact htm, ?_, HB9.out⟩, ?_⟩
                  · have hz := valN_lt zs HD.out
                    rw [← HL.out] at hz
                    have := pow_le_len htm hsm hz
                    omega
                  · rw [hvm, HVq.out, red_mod]; exact HV.out
                  · rw [rdList_eq (HQ.out.take m) hlm, HM.out, hvm]
                    exact hsm
end Go.Proofs.Ytkoefhbmkmepaaa
