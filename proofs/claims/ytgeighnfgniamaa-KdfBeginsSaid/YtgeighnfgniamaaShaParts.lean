/- the walk of ShaParts. -/
import Derived.Test.YtgeighnfgniamaaShaNone
namespace Go.Proofs.Ytgeighnfgniamaa
open Go.RowKit
set_option linter.unusedVariables false
set_option linter.unusedSimpArgs false

theorem mem3 {α : Type} {P : α → Prop} {a b c : α} (ha : P a) (hb : P b) (hc : P c) : ∀ u ∈ [a, b, c], P u := by
  intro u hu
  simp only [List.mem_cons, List.not_mem_nil, or_false] at hu
  rcases hu with rfl | rfl | rfl <;> assumption
theorem mem4 {α : Type} {P : α → Prop} {a b c d : α} (ha : P a) (hb : P b) (hc : P c) (hd : P d) : ∀ u ∈ [a, b, c, d], P u := by
  intro u hu
  simp only [List.mem_cons, List.not_mem_nil, or_false] at hu
  rcases hu with rfl | rfl | rfl | rfl <;> assumption
/-- an empty slice that the call made -/
theorem own_empty (w : World) : Own b8 (w.alloc (.cells #[] 5)) w.heap.size 5 (.slice (some ⟨w.heap.size, 0, none⟩) 0 0) [] :=
  ⟨by simp, .inr ⟨w.heap.size, 0, #[], rfl, Nat.le_refl _, heap_alloc_new w _, by simp, by simp [maxLen], by simp, by simp⟩⟩
set_option maxRecDepth 100000 in
set_option maxHeartbeats 2000000 in
theorem shaParts_walk (A1 : Option Addr) (n1 c1 : Nat) (xs : List (BitVec 8)) {W : World} (hr1 : Rd b8 W W.heap.size A1 xs) (hn1 : xs.length = n1) (hc1 : n1 ≤ c1) (hm1 : c1 ≤ maxLen)
    (A2 : Option Addr) (n2 c2 : Nat) (ys : List (BitVec 8)) (hr2 : Rd b8 W W.heap.size A2 ys) (hn2 : ys.length = n2) (hc2 : n2 ≤ c2) (hm2 : c2 ≤ maxLen)
    (A3 : Option Addr) (n3 c3 : Nat) (zs : List (BitVec 8)) (hr3 : Rd b8 W W.heap.size A3 zs) (hn3 : zs.length = n3) (hc3 : n3 ≤ c3) (hm3 : c3 ≤ maxLen) :
    Calls Try.prog 8 #[.slice A1 n1 c1, .slice A2 n2 c2, .slice A3 n3 c3] W fun e w' => e = .returned (.bool true) ∧ Below W.heap.size W w' := by
  obtain ⟨i0, hi0, hz0, hz1, hz2⟩ := info_parts infoU8
  have H1 := Lib.hid hn1
  have H2 := Lib.hid hn2
  have H3 := Lib.hid hn3
  have R1 := Lib.hid hr1
  have R2 := Lib.hid hr2
  have R3 := Lib.hid hr3
  clear hn1 hn2 hn3 hr1 hr2 hr3 hc1 hm1 hc2 hm2 hc3 hm3
  by_cases k1 : (n1 : Int) > 5000
  · go_enter Try.func8, Try.ntmps8
    go_wp2_with (go_at_call 21; refine (alive01_any _).mono ?_; rintro e w1 ⟨rfl, hb1⟩)
    go_ret
    exact ⟨rfl, hb1⟩
  by_cases k2 : (n2 : Int) > 5000
  · go_enter Try.func8, Try.ntmps8
    go_wp2_with (go_at_call 21; refine (alive01_any _).mono ?_; rintro e w1 ⟨rfl, hb1⟩)
    go_ret
    exact ⟨rfl, hb1⟩
  by_cases k3 : (n3 : Int) > 5000
  · go_enter Try.func8, Try.ntmps8
    go_wp2_with (go_at_call 21; refine (alive01_any _).mono ?_; rintro e w1 ⟨rfl, hb1⟩)
    go_ret
    exact ⟨rfl, hb1⟩
  have l1 : xs.length ≤ 5000 := by rw [H1.out]; omega
  have l2 : ys.length ≤ 5000 := by rw [H2.out]; omega
  have l3 : zs.length ≤ 5000 := by rw [H3.out]; omega
  obtain ⟨all, hall⟩ : ∃ a, a = xs ++ ys ++ zs := ⟨_, rfl⟩
  have hal : all.length ≤ 15000 := by rw [hall]; simp; omega
  have l123 : xs.length + ys.length + zs.length ≤ 15000 := by omega
  have hs3 : ∀ W', Below W.heap.size W W' → Calls Try.prog 15 #[.slice (some ⟨W'.heap.size, 0, none⟩) 3 3] (W'.alloc (.cells #[.slice A1 n1 c1, .slice A2 n2 c2, .slice A3 n3 c3] 22)) fun e w' => e = .returned (arrV b8 (sum32 all)) ∧ Below W'.heap.size W' w' := fun W' hb =>
    short_n W' W.heap.size 3 [((A1, n1, c1), xs), ((A2, n2, c2), ys), ((A3, n3, c3), zs)] _ rfl (mem3 (R1.out.below hb) (R2.out.below hb) (R3.out.below hb)) (mem3 (H1.out.symm) (H2.out.symm) (H3.out.symm)) hb.size rfl (by omega) all (by rw [hall]; simp) (by omega)
  have hs4 : ∀ W', Below W.heap.size W W' → Calls Try.prog 15 #[.slice (some ⟨W'.heap.size, 0, none⟩) 4 4] (W'.alloc (.cells #[.slice A1 n1 c1, .slice none 0 0, .slice A2 n2 c2, .slice A3 n3 c3] 22)) fun e w' => e = .returned (arrV b8 (sum32 all)) ∧ Below W'.heap.size W' w' := fun W' hb =>
    short_n W' W.heap.size 4 [((A1, n1, c1), xs), ((none, 0, 0), []), ((A2, n2, c2), ys), ((A3, n3, c3), zs)] _ rfl (mem4 (R1.out.below hb) (Rd.nil_ _ _ _ _) (R2.out.below hb) (R3.out.below hb)) (mem4 (H1.out.symm) (rfl) (H2.out.symm) (H3.out.symm)) hb.size rfl (by omega) all (by rw [hall]; simp) (by omega)
  have hl3 : ∀ W', Below W.heap.size W W' → Calls Try.prog 23 #[.slice (some ⟨W'.heap.size, 0, none⟩) 3 3] (W'.alloc (.cells #[.slice A1 n1 c1, .slice A2 n2 c2, .slice A3 n3 c3] 22)) fun e w' => e = .returned (arrV b8 (sum64 all)) ∧ Below W'.heap.size W' w' := fun W' hb =>
    long_n W' W.heap.size 3 [((A1, n1, c1), xs), ((A2, n2, c2), ys), ((A3, n3, c3), zs)] _ rfl (mem3 (R1.out.below hb) (R2.out.below hb) (R3.out.below hb)) (mem3 (H1.out.symm) (H2.out.symm) (H3.out.symm)) hb.size rfl (by omega) all (by rw [hall]; simp) (by omega)
  obtain ⟨S, hS⟩ : ∃ S, S = sum32 all := ⟨_, rfl⟩
  obtain ⟨L, hL⟩ : ∃ L, L = sum64 all := ⟨_, rfl⟩
  simp only [← hS, arrV_mk] at hs3 hs4
  simp only [← hL, arrV_mk] at hl3
  have hes : ∀ w, (binOp .eql 26 (.agg (S.map b8).toArray) (.agg (S.map b8).toArray)).run Try.prog w = .ok (.bool true) w := fun w => by
    rw [eql_sum w S S (by rw [hS, sum32_len]) (by rw [hS, sum32_len])]; simp
  have hel : ∀ w, (binOp .eql 35 (.agg (L.map b8).toArray) (.agg (L.map b8).toArray)).run Try.prog w = .ok (.bool true) w := fun w => by
    rw [eql_wide w L L (by rw [hL, sum64_len]) (by rw [hL, sum64_len])]; simp
  have HS3 := Lib.hid hs3
  have HS4 := Lib.hid hs4
  have HL3 := Lib.hid hl3
  have HS := Lib.hid hS
  have HL := Lib.hid hL
  have HAll := Lib.hid hall
  have HAl := Lib.hid hal
  clear hs3 hs4 hl3 hS hL hall hal l1 l2 l3
  go_enter Try.func8, Try.ntmps8
  go_wp2_with fail
  refine (alive01_any _).mono ?_
  rintro e w1 ⟨rfl, hb1⟩
  have hz1' := hb1.size
  have HB1 := Lib.hid hb1
  have HE := Lib.hid (own_empty w1)
  clear hb1
  go_wp2_with (first
    | (at_builtin; refine wpList_append_rd rfl (.tmp 23) (.tmp 24) 22 rfl b8_one w1.heap.size 5 i0 _ 1 Try.underlying22 hi0 hz0 hz1 hz2 rfl _ _ rfl HE.out W.heap.size A1 n1 c1 xs rfl H1.out.symm (R1.out.below (HB1.out.alloc hz1' _)) (by simp [maxLen]; omega) (by simp; omega) (by simp) ?_; intro v2 w2 hown2 hg2 hbb2; have HO2 := Lib.hid hown2; have HB2 := Lib.hid (hbb2 _ _ hz1' (HB1.out.alloc hz1' _)); have hs2 := hg2.size; simp only [World.size_alloc] at hs2; clear hown2 hg2 hbb2)
    | (at_builtin; refine wpList_append_rd rfl (.tmp 25) (.tmp 26) 22 rfl b8_one w1.heap.size 5 i0 _ 1 Try.underlying22 hi0 hz0 hz1 hz2 rfl _ _ rfl HO2.out W.heap.size A2 n2 c2 ys rfl H2.out.symm (R2.out.below HB2.out) (by simp [maxLen]; omega) (by simp; omega) (by omega) ?_; intro v3 w3 hown3 hg3 hbb3; have HO3 := Lib.hid hown3; have HB3 := Lib.hid (hbb3 _ _ hz1' HB2.out); have hs3 := hg3.size; clear hown3 hg3 hbb3)
    | (at_builtin; refine wpList_append_rd rfl (.tmp 27) (.tmp 28) 22 rfl b8_one w1.heap.size 5 i0 _ 1 Try.underlying22 hi0 hz0 hz1 hz2 rfl _ _ rfl HO3.out W.heap.size A3 n3 c3 zs rfl H3.out.symm (R3.out.below HB3.out) (by simp [maxLen]; omega) (by simp; omega) (by omega) ?_; intro v4 w4 hown4 hg4 hbb4; have HO4 := Lib.hid (hown4.cast (show [] ++ xs ++ ys ++ zs = all by rw [HAll.out]; simp)); have HB4 := Lib.hid (hbb4 _ _ hz1' HB3.out); clear hown4 hg4 hbb4; obtain ⟨m, hm⟩ : ∃ m, m = all.length := ⟨_, rfl⟩; obtain ⟨Av, cv, rfl, hrv, -, -, -⟩ := HO4.out.shape' hm.symm; have HRv := Lib.hid hrv; have HM := Lib.hid hm; clear hrv hm))
  have hs1 : ∀ W', Below w4.heap.size w4 W' → Calls Try.prog 15 #[.slice (some ⟨W'.heap.size, 0, none⟩) 1 1] (W'.alloc (.cells #[.slice Av m cv] 22)) fun e w' => e = .returned (.agg (S.map b8).toArray) ∧ Below W'.heap.size W' w' := fun W' hb => by
    have := short_one W' w4.heap.size m cv Av all (HRv.out.below hb) hb.size HM.out (by have := HAl.out; omega)
    rwa [arrV_mk, ← HS.out] at this
  have hl1 : ∀ W', Below w4.heap.size w4 W' → Calls Try.prog 23 #[.slice (some ⟨W'.heap.size, 0, none⟩) 1 1] (W'.alloc (.cells #[.slice Av m cv] 22)) fun e w' => e = .returned (.agg (L.map b8).toArray) ∧ Below W'.heap.size W' w' := fun W' hb => by
    have := long_one W' w4.heap.size m cv Av all (HRv.out.below hb) hb.size HM.out (by have := HAl.out; omega)
    rwa [arrV_mk, ← HL.out] at this
  have HS1 := Lib.hid hs1
  have HL1 := Lib.hid hl1
  clear hs1 hl1
  have HBa := Lib.hid (Below.refl w4.heap.size w4)
  go_wp2_with fail
  refine (HS3.out _ HB4.out).mono ?_
  rintro e w5 ⟨rfl, hb5⟩
  have HB5 := Lib.hid (HB4.out.trans (hb5.mono HB4.out.size))
  have HA5 := Lib.hid hb5
  clear hb5
  go_wp2_with fail
  refine (HS1.out _ HA5.out).mono ?_
  rintro e w6 ⟨rfl, hb6⟩
  have HB6 := Lib.hid (HB5.out.trans (hb6.mono HB5.out.size))
  have HA6 := Lib.hid (HA5.out.trans (hb6.mono HA5.out.size))
  clear hb6
  go_wp2_with fail
  refine (HL3.out _ HB6.out).mono ?_
  rintro e w7 ⟨rfl, hb7⟩
  have HB7 := Lib.hid (HB6.out.trans (hb7.mono HB6.out.size))
  have HA7 := Lib.hid (HA6.out.trans (hb7.mono HA6.out.size))
  clear hb7
  go_wp2_with fail
  refine (HL1.out _ HA7.out).mono ?_
  rintro e w8 ⟨rfl, hb8⟩
  have HB8 := Lib.hid (HB7.out.trans (hb8.mono HB7.out.size))
  have HA8 := Lib.hid (HA7.out.trans (hb8.mono HA7.out.size))
  clear hb8
  go_wp2_with fail
  refine (HS4.out _ HB8.out).mono ?_
  rintro e w9 ⟨rfl, hb9⟩
  have HB9 := Lib.hid (HB8.out.trans (hb9.mono HB8.out.size))
  have HA9 := Lib.hid (HA8.out.trans (hb9.mono HA8.out.size))
  clear hb9
  go_wp2_with fail
  refine (HS1.out _ HA9.out).mono ?_
  rintro e w10 ⟨rfl, hb10⟩
  have HB10 := Lib.hid (HB9.out.trans (hb10.mono HB9.out.size))
  clear hb10
  go_wp2_with fail
  go_ret
  exact ⟨rfl, HB10.out⟩
end Go.Proofs.Ytgeighnfgniamaa
