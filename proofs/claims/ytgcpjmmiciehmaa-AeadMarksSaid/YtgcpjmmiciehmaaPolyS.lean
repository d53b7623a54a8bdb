/- CONTRACT: the reference's number made small. -/
import Derived.Test.YtgcpjmmiciehmaaPolyM
namespace Go.Proofs.Ytgcpjmmiciehmaa
open Go.RowKit
set_option linter.unusedVariables false
set_option linter.unusedSimpArgs false

/-- the digits that a slice shows -/
def rdList (w : World) : Value → List Nat
  | .slice (some a) n _ => (List.range n).map fun k => match w.cell? ⟨a.block, a.off + k, none⟩ with
    | some (.int _ z) => z.toNat
    | _ => 0
  | _ => []
theorem rdList_eq {w : World} {B n c : Nat} {A : Option Addr} {xs : List Nat} (h : Rd dN w B A xs) (hn : n = xs.length) : rdList w (.slice A n c) = xs := by
  subst hn
  cases A with
  | none =>
    cases xs with
    | nil => rfl
    | cons x xs => obtain ⟨b, o, e, -⟩ := h.at_ (k := 0) (by simp); cases e
  | some a =>
    refine List.ext_getElem (by simp [rdList]) fun k h1 h2 => ?_
    obtain ⟨b, o, e, -, hc⟩ := h.at_ (k := k) h2
    cases e
    simp [rdList, hc, dN]
theorem small_mod (V T L d : Nat) (hV : V = L + 340282366920938463463374607431768211456 * T) (hL : L < 340282366920938463463374607431768211456) :
    L + 340282366920938463463374607431768211456 * (T % 4) + 5 * (T / 4) = V % 1361129467683753853853498429727072845824 + 5 * (V / 1361129467683753853853498429727072845824) := by omega
theorem small_less (V : Nat) (h : 1361129467683753853853498429727072845824 ≤ V) : V % 1361129467683753853853498429727072845824 + 5 * (V / 1361129467683753853853498429727072845824) < V := by omega
theorem pow_le_len {m n V W : Nat} (hm : m = 0 ∨ 256 ^ (m - 1) ≤ W) (hW : W < V) (hV : V < 256 ^ n) : m ≤ n := by
  rcases hm with rfl | h
  · omega
  · have : 256 ^ (m - 1) < 256 ^ n := by omega
    have := (Nat.pow_lt_pow_iff_right (by omega : 1 < 256)).1 this
    omega
theorem dig_drop (zs : List Nat) (j k : Nat) : dig (zs.drop j) k = dig zs (j + k) := by simp [dig, List.getD]
theorem high_step (hs T : List Nat) (k n e : Nat) (hk : hs.length = k) (hn : n = dig T k / 4 + dig T (k + 1) % 4 * 64) (h : valN hs * 4 + e = valN (T.take k) + 256 ^ k * (dig T k % 4)) :
    valN (hs ++ [n]) * 4 + e = valN (T.take (k + 1)) + 256 ^ (k + 1) * (dig T (k + 1) % 4) := by
  rw [valN_snoc, hk, valN_take_dig, Nat.add_mul, Nat.pow_succ, Nat.mul_assoc, Nat.mul_assoc]
  have h1 : 256 ^ k * (n * 4) + 256 ^ k * (dig T k % 4) = 256 ^ k * dig T k + 256 ^ k * (256 * (dig T (k + 1) % 4)) := by
    rw [← Nat.mul_add, ← Nat.mul_add]; congr 1; omega
  omega
set_option maxRecDepth 100000 in
set_option maxHeartbeats 4000000 in
theorem small_any (w : World) (B n0 c0 : Nat) (A0 : Option Addr) (xs : List Nat) (hr : Rd dN w B A0 xs) (hB : B ≤ w.heap.size) (hn0 : n0 = xs.length) (hc0 : n0 ≤ c0) (hd : D256 xs) (htr : n0 = 0 ∨ 256 ^ (n0 - 1) ≤ valN xs) (hb : n0 ≤ 500) :
    Calls Try.prog 54 #[.slice A0 n0 c0] w fun e w' => ∃ A m c zs, e = .returned (.slice A m c) ∧ Rd dN w' w'.heap.size A zs ∧ m = zs.length ∧ m ≤ c ∧ m ≤ 17 ∧ D256 zs ∧ valN zs % prm = valN xs % prm ∧ valN zs < 1361129467683753853853498429727072845824 ∧ Below w.heap.size w w' := by
  obtain ⟨i0, hi0, hz0, hz1, hz2⟩ := info_parts infoIntR
  have R0 := Lib.hid (hr.more hB)
  have N0 := Lib.hid hn0
  have D0 := Lib.hid hd
  have T0 := Lib.hid htr
  clear hr hn0 hB hd htr
  go_enter Try.func54, Try.ntmps54
  go_wp2_with fail
  go_loopw [0, 3, 4, 5, 6, 7] (fun va _ _ _ _ _ wr => ∃ (A : Option Addr) (n c : Nat) (zs : List Nat), va = .slice A n c ∧ n ≤ c ∧ n ≤ 500 ∧ n = zs.length ∧ Rd dN wr wr.heap.size A zs ∧ D256 zs ∧ (n = 0 ∨ 256 ^ (n - 1) ≤ valN zs) ∧ valN zs % prm = valN xs % prm ∧ Below w.heap.size w wr) (fun va _ _ _ _ _ wr => valN (rdList wr va))
  case atStart => exact ⟨A0, n0, c0, xs, rfl, hc0, hb, N0.out, R0.out, D0.out, T0.out, rfl, Below.refl _ _⟩
  case round =>
    obtain ⟨A, n, c, zs, rfl, hnc, hnb, hl, hr, hd, ht, hv, hbw⟩ := hrel
    have HR := Lib.hid hr
    have HL := Lib.hid hl
    have HD := Lib.hid hd
    have HT := Lib.hid ht
    have HV := Lib.hid hv
    have HB := Lib.hid hbw
    have HM := Lib.hid (rdList_eq (c := c) hr hl)
    have hws := hbw.size
    clear hl hr hd ht hv hbw
    by_cases h17 : n ≤ 16
    · have h1 : ¬ ((n : Int) > 17) := by omega
      have h2 : ¬ ((n : Int) = 17) := by omega
      go_wp2_with fail
      go_ret
      exact ⟨A, n, c, rfl, zs, HR.out, HL.out, by omega, by omega, HD.out, HV.out, by
        have h1 := valN_lt zs HD.out
        rw [← HL.out] at h1
        have h2 : 256 ^ n ≤ 256 ^ 16 := Nat.pow_le_pow_right (by omega) h17
        omega, HB.out⟩
    · obtain ⟨t, ht⟩ : ∃ t, t = dig zs 16 := ⟨_, rfl⟩
      obtain ⟨b, off, rfl, hbb, hc16⟩ := HR.out.at_ (k := 16) (by rw [← HL.out]; omega)
      have hc16' : wr.cell? ⟨b, off + 16, none⟩ = some (.int .i64 (t : Int)) := by
        rw [hc16, ht]; simp [dN, dig, List.getD, show 16 < zs.length by rw [← HL.out]; omega]
      have ht256 : t < 256 := by rw [ht]; exact dig_lt HD.out _
      have HVt := Lib.hid (valN_take_drop zs 16 (by rw [← HL.out]; omega))
      have HLt := Lib.hid (valN_lt (zs.take 16) (fun x hx => HD.out x (List.mem_of_mem_take hx)))
      have HTd := Lib.hid ht
      by_cases hexit : n = 17 ∧ t ≤ 3
      · obtain ⟨hn17, ht3⟩ := hexit
        have ht3' : ¬ ((t : Int) > 3) := by omega
        have hE := Lib.hid (show valN zs < 1361129467683753853853498429727072845824 by
          have h1 := HVt.out
          have h2 := HLt.out
          have h3 : zs.drop 16 = [t] := by
            rw [ht]
            have : zs.length = 17 := by rw [← HL.out]; exact hn17
            rw [List.drop_eq_getElem_cons (by omega), List.drop_eq_nil_of_le (by omega)]
            simp [dig, List.getD, this]
          rw [h3] at h1
          rw [List.length_take, Nat.min_eq_left (by rw [← HL.out]; omega)] at h2
          simp only [valN] at h1
          omega)
        subst hn17
        clear hc16 ht
        go_wp2_with fail
        go_ret
        exact ⟨some ⟨b, off, none⟩, 17, c, rfl, zs, HR.out, HL.out, by omega, by omega, HD.out, HV.out, hE.out, HB.out⟩
      · have hbig := Lib.hid (show 1361129467683753853853498429727072845824 ≤ valN zs by
          by_cases h18 : 17 < n
          · rcases HT.out with h | h
            · omega
            · have : 256 ^ 17 ≤ 256 ^ (n - 1) := Nat.pow_le_pow_right (by omega) (by omega)
              omega
          · have h1 := dig_le_val zs 16
            rw [← ht] at h1
            have h2 : 4 ≤ t := by omega
            have h3 : 256 ^ 16 * 4 ≤ 256 ^ 16 * t := Nat.mul_le_mul_left _ h2
            omega)
        clear hc16 ht
        obtain ⟨wo, hwo⟩ : ∃ wo, wo = wr := ⟨_, rfl⟩
        have HRo := Lib.hid (show Rd dN wo wo.heap.size (some ⟨b, off, none⟩) zs by rw [hwo]; exact HR.out)
        have HBo := Lib.hid (show Below w.heap.size w wo by rw [hwo]; exact HB.out)
        have hwso : w.heap.size ≤ wo.heap.size := HBo.out.size
        have HMo := Lib.hid (show rdList wo (.slice (some ⟨b, off, none⟩) n c) = zs by rw [hwo]; exact HM.out)
        have Hstart := Lib.hid (show Below wo.heap.size wo wr by rw [hwo]; exact Below.refl _ _)
        clear hwo HR HB
        have hn17 : 17 ≤ n := by omega
        by_cases h18 : 17 < n
        · have h18' : (n : Int) > 17 := by omega
          go_wp2_with fail
          go_loopw [3, 5] (fun lv iv wr => ∃ i : Nat, i ≤ n ∧ iv = .int .i64 (i : Int) ∧ Own dN wr wo.heap.size 3 lv (zs.take (min i 16)) ∧ Below wo.heap.size wo wr) (fun _ iv _ => n - (intOf iv).toNat)
          case atStart => exact ⟨0, by omega, rfl, Own.nil_ _ _ _ _, Hstart.out⟩
          case round =>
            obtain ⟨i, hi, rfl, ho, hb⟩ := hrel
            have HO := Lib.hid ho
            have HB := Lib.hid hb
            have hz := hb.size
            obtain ⟨Al, cl, rfl, -, -, -, -⟩ := ho.shape' (n := min i 16) (by rw [List.length_take, ← HL.out]; omega)
            clear ho hb
            by_cases hlt : i < n
            · have hlt' : (i : Int) < (n : Int) := by omega
              by_cases hlt16 : i < 16
              · have hlt16' : (i : Int) < 16 := by omega
                obtain ⟨x, hx⟩ : ∃ x, x = dig zs i := ⟨_, rfl⟩
                obtain ⟨b', off', e', -, hci⟩ := (HRo.out.below HB.out).at_ (k := i) (by rw [← HL.out]; omega)
                cases e'
                have hci' : wr.cell? ⟨b, off + i, none⟩ = some (.int .i64 (x : Int)) := by
                  rw [hci, hx]; simp [dN, dig, List.getD, show i < zs.length by rw [← HL.out]; omega]
                have HXe := Lib.hid (show zs.take (min i 16) ++ [x] = zs.take (min (i + 1) 16) by
                  rw [Nat.min_eq_left (by omega), Nat.min_eq_left (by omega), List.take_add_one, hx]
                  simp [dig, List.getD, show i < zs.length by rw [← HL.out]; omega])
                clear hci hx
                go_wp2_with (at_builtin; refine wpList_append_rd rfl (.tmp 30) (.tmp 35) 97 rfl dN_one wo.heap.size 3 i0 _ 8 Try.underlying97 hi0 hz0 hz1 hz2 rfl _ _ rfl (HO.out.alloc _) (wr.heap.size + 1) _ 1 1 [x] rfl rfl (Rd.new dN wr 3 [x]) (by simp [maxLen]; omega) (by simp; omega) (by (first | omega | (simp; done) | (simp; omega) | (simp at *; omega))) ?_; intro v7 w7 hown7 hg7 hbb7)
                exact ⟨⟨i + 1, by omega, by simp, hown7.cast HXe.out, hbb7 _ _ (Nat.le_refl _) (HB.out.alloc (by omega) _)⟩, by simp [intOf]; omega⟩
              · have hlt16' : ¬ ((i : Int) < 16) := by omega
                go_wp2_with fail
                exact ⟨⟨i + 1, by omega, by simp, HO.out.cast (by rw [Nat.min_eq_right (by omega), Nat.min_eq_right (by omega)]), HB.out⟩, by simp [intOf]; omega⟩
            · have hlt' : ¬ ((i : Int) < (n : Int)) := by omega
              have HLo := Lib.hid (HO.out.cast (show zs.take (min i 16) = zs.take 16 by rw [Nat.min_eq_right (by omega)]))
              obtain ⟨b', off', e', -, hc16⟩ := (HRo.out.below HB.out).at_ (k := 16) (by rw [← HL.out]; omega)
              cases e'
              have hc16' : wr.cell? ⟨b, off + 16, none⟩ = some (.int .i64 (t : Int)) := by
                rw [hc16, HTd.out]; simp [dN, dig, List.getD, show 16 < zs.length by rw [← HL.out]; omega]
              have hz16 : (zs.take 16).length = 16 := by rw [List.length_take, ← HL.out]; omega
              have HZ16 := Lib.hid hz16
              have HRx := Lib.hid (show ∀ W : World, Rd dN (W.alloc (.cells #[.int .i64 ((t : Int) % 4)] 3)) (W.heap.size + 1) (some ⟨W.heap.size, 0, none⟩) [t % 4] from fun W => by
                have h := Rd.new dN W 3 [t % 4]
                rw [List.map_cons, List.map_nil, show dN (t % 4) = .int .i64 ((t : Int) % 4) from by unfold dN; rw [Int.natCast_emod]; rfl] at h
                exact h)
              clear hc16 hz16 HO
              go_wp2_with (at_builtin; refine wpList_append_rd rfl (.tmp 37) (.tmp 42) 97 rfl dN_one wo.heap.size 3 i0 _ 8 Try.underlying97 hi0 hz0 hz1 hz2 rfl _ _ rfl (HLo.out.alloc _) (wr.heap.size + 1) _ 1 1 [t % 4] rfl rfl (HRx.out wr) (by have := HZ16.out; simp [maxLen]; omega) (by have := HZ16.out; simp; omega) (by (first | omega | (simp; done) | (simp; omega) | (simp at *; omega))) ?_; intro v7 w7 hown7 hg7 hbb7)
              obtain ⟨A7, c7, rfl, -, -, -, -⟩ := hown7.shape' (n := 17) (by rw [List.length_append, HZ16.out]; rfl)
              have HB7 := Lib.hid (hbb7 _ _ (Nat.le_refl _) (HB.out.alloc (by omega) _) : Below wo.heap.size wo w7)
              have HLow := Lib.hid hown7
              have hz7 : wo.heap.size ≤ w7.heap.size := HB7.out.size
              clear hown7 hg7 hbb7 HLo hz HRx hc16' hlt' hlt
              go_loopw [4, 6, 7] (fun hv iv _ wr => ∃ (k I : Nat) (hs : List Nat), I = 16 + k ∧ I ≤ n ∧ iv = .int .i64 (I : Int) ∧ Own dN wr w7.heap.size 3 hv hs ∧ hs.length = k ∧ D256 hs ∧ valN hs * 4 + t % 4 = valN ((zs.drop 16).take k) + 256 ^ k * (dig (zs.drop 16) k % 4) ∧ Below w7.heap.size w7 wr) (fun _ iv _ _ => n - (intOf iv).toNat)
              case atStart => exact ⟨0, 16, [], by omega, by omega, rfl, Own.nil_ _ _ _ _, rfl, fun x hx => by simp at hx, by rw [dig_drop, HTd.out]; simp [valN], Below.refl _ _⟩
              case round =>
                obtain ⟨k, I, hs, hI, hIn, rfl, ho, hl, hd, hv, hb⟩ := hrel
                have HO := Lib.hid ho
                have HB2 := Lib.hid hb
                have HLh := Lib.hid hl
                have HDh := Lib.hid hd
                have HVh := Lib.hid hv
                have HI := Lib.hid hI
                have hzr := hb.size
                have hkb : k ≤ 500 := by omega
                obtain ⟨Ah, ch, rfl, -, -, -, -⟩ := ho.shape' (n := k) hl
                clear ho hb hl hd hv hI
                by_cases hlt : I < n
                · have hlt' : (I : Int) < (n : Int) := by omega
                  obtain ⟨x, hx⟩ : ∃ x, x = dig zs I := ⟨_, rfl⟩
                  obtain ⟨b', off', e', -, hci⟩ := ((HRo.out.below HB7.out).below (HB2.out.mono hz7)).at_ (k := I) (by rw [← HL.out]; omega)
                  cases e'
                  have hci' : wr.cell? ⟨b, off + I, none⟩ = some (.int .i64 (x : Int)) := by
                    rw [hci, hx]; simp [dN, dig, List.getD, show I < zs.length by rw [← HL.out]; omega]
                  have hx256 : x < 256 := by rw [hx]; exact dig_lt HD.out _
                  have HXd := Lib.hid (show dig (zs.drop 16) k = x by rw [dig_drop, ← HI.out, hx])
                  clear hci hx
                  by_cases hlt2 : I + 1 < n
                  · have hlt2' : (I : Int) + 1 < (n : Int) := by omega
                    obtain ⟨y, hy⟩ : ∃ y, y = dig zs (I + 1) := ⟨_, rfl⟩
                    obtain ⟨b', off', e', -, hcj⟩ := ((HRo.out.below HB7.out).below (HB2.out.mono hz7)).at_ (k := I + 1) (by rw [← HL.out]; omega)
                    cases e'
                    have hcj' : wr.cell? ⟨b, off + (I + 1), none⟩ = some (.int .i64 (y : Int)) := by
                      rw [hcj, hy]; simp [dN, dig, List.getD, show I + 1 < zs.length by rw [← HL.out]; omega]
                    have hy256 : y < 256 := by rw [hy]; exact dig_lt HD.out _
                    have HYd := Lib.hid (show dig (zs.drop 16) (k + 1) = y by rw [dig_drop, ← Nat.add_assoc, ← HI.out, hy])
                    obtain ⟨s, hs'⟩ : ∃ s, s = x / 4 + y % 4 * 64 := ⟨_, rfl⟩
                    have hs256 : s < 256 := by omega
                    have hsi : (x : Int) / 4 + (y : Int) % 4 * 64 = (s : Int) := by omega
                    have HSt := Lib.hid (high_step hs (zs.drop 16) k s (t % 4) HLh.out (by rw [HXd.out, HYd.out]; exact hs') HVh.out)
                    clear hcj hy hs'
                    go_wp2_with (at_builtin; refine wpList_append_rd rfl (.tmp 69) (.tmp 71) 97 rfl dN_one w7.heap.size 3 i0 _ 8 Try.underlying97 hi0 hz0 hz1 hz2 rfl _ _ rfl (HO.out.alloc _) (wr.heap.size + 1) _ 1 1 [s] rfl rfl (Rd.new dN wr 3 [s]) (by have := HLh.out; simp [maxLen]; omega) (by have := HLh.out; simp; omega) (by (first | omega | (simp; done) | (simp; omega) | (simp at *; omega))) ?_; intro v8 w8 hown8 hg8 hbb8)
                    refine ⟨⟨k + 1, I + 1, hs ++ [s], by have := HI.out; omega, by omega, by simp, hown8, by rw [List.length_append, HLh.out]; rfl, fun z hz => ?_, HSt.out, hbb8 _ _ (Nat.le_refl _) (HB2.out.alloc (by omega) _)⟩, by simp [intOf]; omega⟩
                    rcases List.mem_append.1 hz with h | h
                    · exact HDh.out z h
                    · rw [List.mem_singleton.1 h]; exact hs256
                  · have hlt2' : ¬ ((I : Int) + 1 < (n : Int)) := by omega
                    have HYd := Lib.hid (show dig (zs.drop 16) (k + 1) = 0 by rw [dig_drop, ← Nat.add_assoc, ← HI.out]; unfold dig; rw [List.getD, List.getElem?_eq_none (by rw [← HL.out]; omega)]; rfl)
                    obtain ⟨s, hs'⟩ : ∃ s, s = x / 4 := ⟨_, rfl⟩
                    have hs256 : s < 256 := by omega
                    have hsi : (x : Int) / 4 = (s : Int) := by omega
                    have HSt := Lib.hid (high_step hs (zs.drop 16) k s (t % 4) HLh.out (by rw [HXd.out, HYd.out, hs']; simp) HVh.out)
                    clear hs'
                    go_wp2_with (at_builtin; refine wpList_append_rd rfl (.tmp 69) (.tmp 71) 97 rfl dN_one w7.heap.size 3 i0 _ 8 Try.underlying97 hi0 hz0 hz1 hz2 rfl _ _ rfl (HO.out.alloc _) (wr.heap.size + 1) _ 1 1 [s] rfl rfl (Rd.new dN wr 3 [s]) (by have := HLh.out; simp [maxLen]; omega) (by have := HLh.out; simp; omega) (by (first | omega | (simp; done) | (simp; omega) | (simp at *; omega))) ?_; intro v8 w8 hown8 hg8 hbb8)
                    refine ⟨⟨k + 1, I + 1, hs ++ [s], by have := HI.out; omega, by omega, by simp, hown8, by rw [List.length_append, HLh.out]; rfl, fun z hz => ?_, HSt.out, hbb8 _ _ (Nat.le_refl _) (HB2.out.alloc (by omega) _)⟩, by simp [intOf]; omega⟩
                    rcases List.mem_append.1 hz with h | h
                    · exact HDh.out z h
                    · rw [List.mem_singleton.1 h]; exact hs256
                · obtain rfl : I = n := by omega
                  have HVT := Lib.hid (show valN hs * 4 + t % 4 = valN (zs.drop 16) by
                    have h := HVh.out
                    have hk : (zs.drop 16).length = k := by rw [List.length_drop, ← HL.out, HI.out]; omega
                    have hz : dig (zs.drop 16) k = 0 := by unfold dig; rw [List.getD, List.getElem?_eq_none (by rw [hk]; omega)]; rfl
                    rw [valN_take_all _ k (by rw [hk]; omega), hz] at h
                    omega)
                  go_wp2_with fail
                  have hsz1 : (wr.alloc (.cells #[.int .i64 5] 3)).heap.size = wr.heap.size + 1 := World.size_alloc ..
                  refine (rtimes_any (wr.alloc (.cells #[.int .i64 5] 3)) wr.heap.size k ch (wr.heap.size + 1) 1 1 Ah (some ⟨wr.heap.size, 0, none⟩) hs [5] (HO.out.rd.alloc (Nat.le_refl _) _) (by rw [hsz1]; omega) HLh.out.symm (Rd.new dN wr 3 [5]) (by rw [hsz1]; omega) rfl HDh.out (by intro x hx; rw [List.mem_singleton.1 hx]; omega) (by omega) (by omega)).mono ?_
                  rintro e w8 ⟨v8, ps, rfl, hop, hdp, hvp, hlp, hbp⟩
                  obtain ⟨A8, c8, rfl, -, -, -, -⟩ := hop.shape' (n := k + 2) hlp
                  have HB8 := Lib.hid (show Below w7.heap.size w7 w8 from (HB2.out.alloc (by omega) _).trans (hbp.mono (by rw [hsz1]; omega)))
                  have HP := Lib.hid hop.rd
                  have HDp := Lib.hid hdp
                  have HLp := Lib.hid hlp
                  have HVp := Lib.hid (show valN ps = 5 * valN hs by rw [hvp]; simp [valN]; omega)
                  have hsz8 : w7.heap.size ≤ w8.heap.size := HB8.out.size
                  clear hop hdp hvp hlp hbp hsz1
                  go_wp2_with fail
                  refine (plus_any w8 w7.heap.size 17 c7 w8.heap.size (k + 2) c8 A7 A8 (zs.take 16 ++ [t % 4]) ps (HLow.out.rd.below HB8.out) hsz8 (by rw [List.length_append, HZ16.out]; rfl) HP.out (Nat.le_refl _) HLp.out.symm (fun z hz => by
                    rcases List.mem_append.1 hz with h | h
                    · exact HD.out z (List.mem_of_mem_take h)
                    · rw [List.mem_singleton.1 h]; omega) HDp.out (by omega) (by omega)).mono ?_
                  rintro e w9 ⟨v9, qs, rfl, hoq, hdq, hvq, hlq, hbq⟩
                  obtain ⟨M, hM⟩ : ∃ M, M = qs.length := ⟨_, rfl⟩
                  obtain ⟨A9, c9, rfl, -, -, hc9, -⟩ := hoq.shape' (n := M) hM.symm
                  have HQ := Lib.hid hoq.rd
                  have HDq := Lib.hid hdq
                  have hMb : M ≤ 600 := by omega
                  have HM9 := Lib.hid hM
                  have HB9 := Lib.hid (show Below w.heap.size w w9 from HBo.out.trans ((HB7.out.mono hwso).trans ((HB8.out.mono (by omega)).trans (hbq.mono (by omega)))))
                  have HVq := Lib.hid (show valN qs = valN zs % 1361129467683753853853498429727072845824 + 5 * (valN zs / 1361129467683753853853498429727072845824) by
                    have h1 := small_mod (valN zs) (valN (zs.drop 16)) (valN (zs.take 16)) 0 HVt.out (by have h := HLt.out; rw [HZ16.out] at h; exact h)
                    have h2 := HVT.out
                    rw [hvq, valN_snoc, HZ16.out, HVp.out, ← h1, show t % 4 = valN (zs.drop 16) % 4 by omega, show valN hs = valN (zs.drop 16) / 4 by omega])
                  clear hoq hdq hvq hlq hbq hM
                  go_wp2_with fail
                  refine (trim_any w9 w9.heap.size M c9 A9 qs HQ.out HM9.out hc9 (by omega)).mono ?_
                  rintro e w10 ⟨m, rfl, hmM, hvm, htm, rfl⟩
                  go_wp2_with fail
                  have hlm : m = (qs.take m).length := by rw [List.length_take, ← HM9.out]; omega
                  have hsm := small_less (valN zs) hbig.out
                  rw [← HVq.out] at hsm
                  refine ⟨⟨A9, m, c9, qs.take m, rfl, by omega, ?_, hlm, HQ.out.take m, fun z hz => HDq.out z (List.mem_of_mem_take hz), by rw [hvm]; exact htm, ?_, HB9.out⟩, ?_⟩
                  · have hz := valN_lt zs HD.out
                    rw [← HL.out] at hz
                    have := pow_le_len htm hsm hz
                    omega
                  · rw [hvm, HVq.out, red_mod]; exact HV.out
                  · rw [rdList_eq (HQ.out.take m) hlm, HM.out, hvm]
                    exact hsm
        · obtain rfl : n = 17 := by omega
          have ht4 : (t : Int) > 3 := by omega
          clear h18
          go_wp2_with fail
          go_loopw [3, 5] (fun lv iv wr => ∃ i : Nat, i ≤ 17 ∧ iv = .int .i64 (i : Int) ∧ Own dN wr wo.heap.size 3 lv (zs.take (min i 16)) ∧ Below wo.heap.size wo wr) (fun _ iv _ => 17 - (intOf iv).toNat)
          case atStart => exact ⟨0, by omega, rfl, Own.nil_ _ _ _ _, Hstart.out⟩
          case round =>
            obtain ⟨i, hi, rfl, ho, hb⟩ := hrel
            have HO := Lib.hid ho
            have HB := Lib.hid hb
            have hz := hb.size
            obtain ⟨Al, cl, rfl, -, -, -, -⟩ := ho.shape' (n := min i 16) (by rw [List.length_take, ← HL.out]; omega)
            clear ho hb
            by_cases hlt : i < 17
            · have hlt' : (i : Int) < (17 : Int) := by omega
              by_cases hlt16 : i < 16
              · have hlt16' : (i : Int) < 16 := by omega
                obtain ⟨x, hx⟩ : ∃ x, x = dig zs i := ⟨_, rfl⟩
                obtain ⟨b', off', e', -, hci⟩ := (HRo.out.below HB.out).at_ (k := i) (by rw [← HL.out]; omega)
                cases e'
                have hci' : wr.cell? ⟨b, off + i, none⟩ = some (.int .i64 (x : Int)) := by
                  rw [hci, hx]; simp [dN, dig, List.getD, show i < zs.length by rw [← HL.out]; omega]
                have HXe := Lib.hid (show zs.take (min i 16) ++ [x] = zs.take (min (i + 1) 16) by
                  rw [Nat.min_eq_left (by omega), Nat.min_eq_left (by omega), List.take_add_one, hx]
                  simp [dig, List.getD, show i < zs.length by rw [← HL.out]; omega])
                clear hci hx
                go_wp2_with (at_builtin; refine wpList_append_rd rfl (.tmp 30) (.tmp 35) 97 rfl dN_one wo.heap.size 3 i0 _ 8 Try.underlying97 hi0 hz0 hz1 hz2 rfl _ _ rfl (HO.out.alloc _) (wr.heap.size + 1) _ 1 1 [x] rfl rfl (Rd.new dN wr 3 [x]) (by simp [maxLen]; omega) (by simp; omega) (by (first | omega | (simp; done) | (simp; omega) | (simp at *; omega))) ?_; intro v7 w7 hown7 hg7 hbb7)
                exact ⟨⟨i + 1, by omega, by simp, hown7.cast HXe.out, hbb7 _ _ (Nat.le_refl _) (HB.out.alloc (by omega) _)⟩, by simp [intOf]; omega⟩
              · have hlt16' : ¬ ((i : Int) < 16) := by omega
                go_wp2_with fail
                exact ⟨⟨i + 1, by omega, by simp, HO.out.cast (by rw [Nat.min_eq_right (by omega), Nat.min_eq_right (by omega)]), HB.out⟩, by simp [intOf]; omega⟩
            · have hlt' : ¬ ((i : Int) < (17 : Int)) := by omega
              have HLo := Lib.hid (HO.out.cast (show zs.take (min i 16) = zs.take 16 by rw [Nat.min_eq_right (by omega)]))
              obtain ⟨b', off', e', -, hc16⟩ := (HRo.out.below HB.out).at_ (k := 16) (by rw [← HL.out]; omega)
              cases e'
              have hc16' : wr.cell? ⟨b, off + 16, none⟩ = some (.int .i64 (t : Int)) := by
                rw [hc16, HTd.out]; simp [dN, dig, List.getD, show 16 < zs.length by rw [← HL.out]; omega]
              have hz16 : (zs.take 16).length = 16 := by rw [List.length_take, ← HL.out]; omega
              have HZ16 := Lib.hid hz16
              have HRx := Lib.hid (show ∀ W : World, Rd dN (W.alloc (.cells #[.int .i64 ((t : Int) % 4)] 3)) (W.heap.size + 1) (some ⟨W.heap.size, 0, none⟩) [t % 4] from fun W => by
                have h := Rd.new dN W 3 [t % 4]
                rw [List.map_cons, List.map_nil, show dN (t % 4) = .int .i64 ((t : Int) % 4) from by unfold dN; rw [Int.natCast_emod]; rfl] at h
                exact h)
              clear hc16 hz16 HO
              go_wp2_with (at_builtin; refine wpList_append_rd rfl (.tmp 37) (.tmp 42) 97 rfl dN_one wo.heap.size 3 i0 _ 8 Try.underlying97 hi0 hz0 hz1 hz2 rfl _ _ rfl (HLo.out.alloc _) (wr.heap.size + 1) _ 1 1 [t % 4] rfl rfl (HRx.out wr) (by have := HZ16.out; simp [maxLen]; omega) (by have := HZ16.out; simp; omega) (by (first | omega | (simp; done) | (simp; omega) | (simp at *; omega))) ?_; intro v7 w7 hown7 hg7 hbb7)
              obtain ⟨A7, c7, rfl, -, -, -, -⟩ := hown7.shape' (n := 17) (by rw [List.length_append, HZ16.out]; rfl)
              have HB7 := Lib.hid (hbb7 _ _ (Nat.le_refl _) (HB.out.alloc (by omega) _) : Below wo.heap.size wo w7)
              have HLow := Lib.hid hown7
              have hz7 : wo.heap.size ≤ w7.heap.size := HB7.out.size
              clear hown7 hg7 hbb7 HLo hz HRx hc16' hlt' hlt
              go_loopw [4, 6, 7] (fun hv iv _ wr => ∃ (k I : Nat) (hs : List Nat), I = 16 + k ∧ I ≤ 17 ∧ iv = .int .i64 (I : Int) ∧ Own dN wr w7.heap.size 3 hv hs ∧ hs.length = k ∧ D256 hs ∧ valN hs * 4 + t % 4 = valN ((zs.drop 16).take k) + 256 ^ k * (dig (zs.drop 16) k % 4) ∧ Below w7.heap.size w7 wr) (fun _ iv _ _ => 17 - (intOf iv).toNat)
              case atStart => exact ⟨0, 16, [], by omega, by omega, rfl, Own.nil_ _ _ _ _, rfl, fun x hx => by simp at hx, by rw [dig_drop, HTd.out]; simp [valN], Below.refl _ _⟩
              case round =>
                obtain ⟨k, I, hs, hI, hIn, rfl, ho, hl, hd, hv, hb⟩ := hrel
                have HO := Lib.hid ho
                have HB2 := Lib.hid hb
                have HLh := Lib.hid hl
                have HDh := Lib.hid hd
                have HVh := Lib.hid hv
                have HI := Lib.hid hI
                have hzr := hb.size
                have hkb : k ≤ 500 := by omega
                obtain ⟨Ah, ch, rfl, -, -, -, -⟩ := ho.shape' (n := k) hl
                clear ho hb hl hd hv hI
                by_cases hlt : I < 17
                · have hlt' : (I : Int) < (17 : Int) := by omega
                  obtain ⟨x, hx⟩ : ∃ x, x = dig zs I := ⟨_, rfl⟩
                  obtain ⟨b', off', e', -, hci⟩ := ((HRo.out.below HB7.out).below (HB2.out.mono hz7)).at_ (k := I) (by rw [← HL.out]; omega)
                  cases e'
                  have hci' : wr.cell? ⟨b, off + I, none⟩ = some (.int .i64 (x : Int)) := by
                    rw [hci, hx]; simp [dN, dig, List.getD, show I < zs.length by rw [← HL.out]; omega]
                  have hx256 : x < 256 := by rw [hx]; exact dig_lt HD.out _
                  have HXd := Lib.hid (show dig (zs.drop 16) k = x by rw [dig_drop, ← HI.out, hx])
                  clear hci hx
                  by_cases hlt2 : I + 1 < 17
                  · have hlt2' : (I : Int) + 1 < (17 : Int) := by omega
                    obtain ⟨y, hy⟩ : ∃ y, y = dig zs (I + 1) := ⟨_, rfl⟩
                    obtain ⟨b', off', e', -, hcj⟩ := ((HRo.out.below HB7.out).below (HB2.out.mono hz7)).at_ (k := I + 1) (by rw [← HL.out]; omega)
                    cases e'
                    have hcj' : wr.cell? ⟨b, off + (I + 1), none⟩ = some (.int .i64 (y : Int)) := by
                      rw [hcj, hy]; simp [dN, dig, List.getD, show I + 1 < zs.length by rw [← HL.out]; omega]
                    have hy256 : y < 256 := by rw [hy]; exact dig_lt HD.out _
                    have HYd := Lib.hid (show dig (zs.drop 16) (k + 1) = y by rw [dig_drop, ← Nat.add_assoc, ← HI.out, hy])
                    obtain ⟨s, hs'⟩ : ∃ s, s = x / 4 + y % 4 * 64 := ⟨_, rfl⟩
                    have hs256 : s < 256 := by omega
                    have hsi : (x : Int) / 4 + (y : Int) % 4 * 64 = (s : Int) := by omega
                    have HSt := Lib.hid (high_step hs (zs.drop 16) k s (t % 4) HLh.out (by rw [HXd.out, HYd.out]; exact hs') HVh.out)
                    clear hcj hy hs'
                    go_wp2_with (at_builtin; refine wpList_append_rd rfl (.tmp 69) (.tmp 71) 97 rfl dN_one w7.heap.size 3 i0 _ 8 Try.underlying97 hi0 hz0 hz1 hz2 rfl _ _ rfl (HO.out.alloc _) (wr.heap.size + 1) _ 1 1 [s] rfl rfl (Rd.new dN wr 3 [s]) (by have := HLh.out; simp [maxLen]; omega) (by have := HLh.out; simp; omega) (by (first | omega | (simp; done) | (simp; omega) | (simp at *; omega))) ?_; intro v8 w8 hown8 hg8 hbb8)
                    refine ⟨⟨k + 1, I + 1, hs ++ [s], by have := HI.out; omega, by omega, by simp, hown8, by rw [List.length_append, HLh.out]; rfl, fun z hz => ?_, HSt.out, hbb8 _ _ (Nat.le_refl _) (HB2.out.alloc (by omega) _)⟩, by simp [intOf]; omega⟩
                    rcases List.mem_append.1 hz with h | h
                    · exact HDh.out z h
                    · rw [List.mem_singleton.1 h]; exact hs256
                  · have hlt2' : ¬ ((I : Int) + 1 < (17 : Int)) := by omega
                    have HYd := Lib.hid (show dig (zs.drop 16) (k + 1) = 0 by rw [dig_drop, ← Nat.add_assoc, ← HI.out]; unfold dig; rw [List.getD, List.getElem?_eq_none (by rw [← HL.out]; omega)]; rfl)
                    obtain ⟨s, hs'⟩ : ∃ s, s = x / 4 := ⟨_, rfl⟩
                    have hs256 : s < 256 := by omega
                    have hsi : (x : Int) / 4 = (s : Int) := by omega
                    have HSt := Lib.hid (high_step hs (zs.drop 16) k s (t % 4) HLh.out (by rw [HXd.out, HYd.out, hs']; simp) HVh.out)
                    clear hs'
                    go_wp2_with (at_builtin; refine wpList_append_rd rfl (.tmp 69) (.tmp 71) 97 rfl dN_one w7.heap.size 3 i0 _ 8 Try.underlying97 hi0 hz0 hz1 hz2 rfl _ _ rfl (HO.out.alloc _) (wr.heap.size + 1) _ 1 1 [s] rfl rfl (Rd.new dN wr 3 [s]) (by have := HLh.out; simp [maxLen]; omega) (by have := HLh.out; simp; omega) (by (first | omega | (simp; done) | (simp; omega) | (simp at *; omega))) ?_; intro v8 w8 hown8 hg8 hbb8)
                    refine ⟨⟨k + 1, I + 1, hs ++ [s], by have := HI.out; omega, by omega, by simp, hown8, by rw [List.length_append, HLh.out]; rfl, fun z hz => ?_, HSt.out, hbb8 _ _ (Nat.le_refl _) (HB2.out.alloc (by omega) _)⟩, by simp [intOf]; omega⟩
                    rcases List.mem_append.1 hz with h | h
                    · exact HDh.out z h
                    · rw [List.mem_singleton.1 h]; exact hs256
                · obtain rfl : I = 17 := by omega
                  have HVT := Lib.hid (show valN hs * 4 + t % 4 = valN (zs.drop 16) by
                    have h := HVh.out
                    have hk : (zs.drop 16).length = k := by rw [List.length_drop, ← HL.out, HI.out]; omega
                    have hz : dig (zs.drop 16) k = 0 := by unfold dig; rw [List.getD, List.getElem?_eq_none (by rw [hk]; omega)]; rfl
                    rw [valN_take_all _ k (by rw [hk]; omega), hz] at h
                    omega)
                  go_wp2_with fail
                  have hsz1 : (wr.alloc (.cells #[.int .i64 5] 3)).heap.size = wr.heap.size + 1 := World.size_alloc ..
                  refine (rtimes_any (wr.alloc (.cells #[.int .i64 5] 3)) wr.heap.size k ch (wr.heap.size + 1) 1 1 Ah (some ⟨wr.heap.size, 0, none⟩) hs [5] (HO.out.rd.alloc (Nat.le_refl _) _) (by rw [hsz1]; omega) HLh.out.symm (Rd.new dN wr 3 [5]) (by rw [hsz1]; omega) rfl HDh.out (by intro x hx; rw [List.mem_singleton.1 hx]; omega) (by omega) (by omega)).mono ?_
                  rintro e w8 ⟨v8, ps, rfl, hop, hdp, hvp, hlp, hbp⟩
                  obtain ⟨A8, c8, rfl, -, -, -, -⟩ := hop.shape' (n := k + 2) hlp
                  have HB8 := Lib.hid (show Below w7.heap.size w7 w8 from (HB2.out.alloc (by omega) _).trans (hbp.mono (by rw [hsz1]; omega)))
                  have HP := Lib.hid hop.rd
                  have HDp := Lib.hid hdp
                  have HLp := Lib.hid hlp
                  have HVp := Lib.hid (show valN ps = 5 * valN hs by rw [hvp]; simp [valN]; omega)
                  have hsz8 : w7.heap.size ≤ w8.heap.size := HB8.out.size
                  clear hop hdp hvp hlp hbp hsz1
                  go_wp2_with fail
                  refine (plus_any w8 w7.heap.size 17 c7 w8.heap.size (k + 2) c8 A7 A8 (zs.take 16 ++ [t % 4]) ps (HLow.out.rd.below HB8.out) hsz8 (by rw [List.length_append, HZ16.out]; rfl) HP.out (Nat.le_refl _) HLp.out.symm (fun z hz => by
                    rcases List.mem_append.1 hz with h | h
                    · exact HD.out z (List.mem_of_mem_take h)
                    · rw [List.mem_singleton.1 h]; omega) HDp.out (by omega) (by omega)).mono ?_
                  rintro e w9 ⟨v9, qs, rfl, hoq, hdq, hvq, hlq, hbq⟩
                  obtain ⟨M, hM⟩ : ∃ M, M = qs.length := ⟨_, rfl⟩
                  obtain ⟨A9, c9, rfl, -, -, hc9, -⟩ := hoq.shape' (n := M) hM.symm
                  have HQ := Lib.hid hoq.rd
                  have HDq := Lib.hid hdq
                  have hMb : M ≤ 600 := by omega
                  have HM9 := Lib.hid hM
                  have HB9 := Lib.hid (show Below w.heap.size w w9 from HBo.out.trans ((HB7.out.mono hwso).trans ((HB8.out.mono (by omega)).trans (hbq.mono (by omega)))))
                  have HVq := Lib.hid (show valN qs = valN zs % 1361129467683753853853498429727072845824 + 5 * (valN zs / 1361129467683753853853498429727072845824) by
                    have h1 := small_mod (valN zs) (valN (zs.drop 16)) (valN (zs.take 16)) 0 HVt.out (by have h := HLt.out; rw [HZ16.out] at h; exact h)
                    have h2 := HVT.out
                    rw [hvq, valN_snoc, HZ16.out, HVp.out, ← h1, show t % 4 = valN (zs.drop 16) % 4 by omega, show valN hs = valN (zs.drop 16) / 4 by omega])
                  clear hoq hdq hvq hlq hbq hM
                  go_wp2_with fail
                  refine (trim_any w9 w9.heap.size M c9 A9 qs HQ.out HM9.out hc9 (by omega)).mono ?_
                  rintro e w10 ⟨m, rfl, hmM, hvm, htm, rfl⟩
                  go_wp2_with fail
                  have hlm : m = (qs.take m).length := by rw [List.length_take, ← HM9.out]; omega
                  have hsm := small_less (valN zs) hbig.out
                  rw [← HVq.out] at hsm
                  refine ⟨⟨A9, m, c9, qs.take m, rfl, by omega, ?_, hlm, HQ.out.take m, fun z hz => HDq.out z (List.mem_of_mem_take hz), by rw [hvm]; exact htm, ?_, HB9.out⟩, ?_⟩
                  · have hz := valN_lt zs HD.out
                    rw [← HL.out] at hz
                    have := pow_le_len htm hsm hz
                    omega
                  · rw [hvm, HVq.out, red_mod]; exact HV.out
                  · rw [rdList_eq (HQ.out.take m) hlm, HM.out, hvm]
                    exact hsm
end Go.Proofs.Ytgcpjmmiciehmaa
