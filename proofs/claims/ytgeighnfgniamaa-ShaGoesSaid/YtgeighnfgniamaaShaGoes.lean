/- the walk of ShaGoes. -/
import Derived.Test.YtgeighnfgniamaaShaShort
import Derived.Test.YtgeighnfgniamaaShaParts
import Derived.Test.YtgeighnfgniamaaOver
namespace Go.Proofs.Ytgeighnfgniamaa
open Go.RowKit
set_option linter.unusedVariables false
set_option linter.unusedSimpArgs false

/-- .. while another row, laid before the rest, is written -/
theorem DigT.grownRow {α : Type} {f : α → Value} {w w' : World} {g B B' E : Nat} {t : List (BitVec 8)} {v : Value} {xs : List α} (h : DigT w g B t) (hg : w.grownBy w' v.ownBlock) (ho : Own f w B' E v xs) (hE : 86 ≠ E) (hB : ∀ b, v.ownBlock = some b → b < B) : DigT w' g B t := by
  obtain ⟨rv, h1, h2⟩ := h
  exact ⟨rv, h1.grown hg (h1.not_row hE ho), h2.kept' hg (fun b e hv => by have := hB b e; have := (h2.lt b hv).1; omega)⟩
theorem run_neq_sum (w : World) (xs ys : List (BitVec 8)) (hx : xs.length = 32) (hy : ys.length = 32) : (binOp .neq 26 (.agg (xs.map b8).toArray) (.agg (ys.map b8).toArray)).run Try.prog w = .ok (.bool (!(xs == ys))) w :=
  run_neq_b8 w 26 5 32 Try.underlying26 Try.underlying5 info8 xs ys hx hy

set_option maxRecDepth 100000 in
set_option maxHeartbeats 20000000 in
theorem shaGoes_walk (A : Option Addr) (n c : Nat) (ps : List Pt) {W : World} (hr : Rd sl W W.heap.size A (ps.map (·.1))) (hps : ∀ u ∈ ps, Rd b8 W W.heap.size u.1.1 u.2 ∧ u.1.2.1 = u.2.length) (hn : ps.length = n) (hc : n ≤ c) (hm : c ≤ maxLen) :
    Calls Try.prog 11 #[.slice A n c] W fun e w' => e = .returned (.bool true) ∧ Below W.heap.size W w' := by
  obtain ⟨i0, hi0, hz0, hz1, hz2⟩ := info_parts infoU8
  have hnm : n ≤ 9223372036854775807 := by simp only [maxLen] at hm; omega
  have HR := Lib.hid hr
  have HPs := Lib.hid hps
  have HN := Lib.hid hn
  clear hr hps hn hc hm
  go_enter Try.func11, Try.ntmps11
  go_wp2_with fail
  refine (alive01_any _).mono ?_
  rintro e w1 ⟨rfl, hb1⟩
  have hz1' := hb1.size
  have HB1 := Lib.hid hb1
  clear hb1
  go_wp2_with fail
  refine (new_any _).mono ?_
  rintro e w2 ⟨rfl, hd2, hb2⟩
  have hz2' := hb2.size
  have hgl := hd2.lt
  have HD2 := Lib.hid (show DigT w2 w1.heap.size 0 [] from DigT.nil_ hd2)
  have HB2 := Lib.hid (HB1.out.trans (hb2.mono hz1'))
  clear hd2 hb2
  have hlen := len_any w2 w1.heap.size 0 [] HD2.out
  rw [show (([] : List (BitVec 8)).length : Nat) = 0 from rfl] at hlen
  have HLen := Lib.hid hlen
  clear hlen
  go_wp2_with (go_at_call 32; refine HLen.out.mono ?_; rintro e w' ⟨rfl, rfl⟩)
  have HE := Lib.hid ((own_empty w2).less (Nat.zero_le _))
  have HD3 := Lib.hid (HD2.out.below ((Below.refl w2.heap.size w2).alloc (Nat.le_refl _) (.cells #[] 5)) (Nat.le_refl _))
  have HB3 := Lib.hid (HB2.out.alloc HB2.out.size (.cells #[] 5))
  clear HD2 HB2 HLen
  go_loopw [4, 21] (fun v i wr => ∃ k : Nat, k ≤ n ∧ i = .int .i64 (k : Int) ∧ lenTo ps k ≤ 500 * k ∧ (k ≤ 31) ∧ DigT wr w1.heap.size 0 (allTo ps k) ∧ Own b8 wr 0 5 v (allTo ps k) ∧ (∀ b, v.ownBlock = some b → W.heap.size ≤ b) ∧ Below W.heap.size W wr) (fun _ i _ => n - (intOf i).toNat)
  case atStart => exact ⟨0, by omega, rfl, by simp [lenTo], by omega, HD3.out, HE.out, fun b e => by simp [Value.ownBlock] at e; omega, HB3.out⟩
  case round =>
    clear HD3 HE HB3
    obtain ⟨k, hk, rfl, hlk, hk31, hd, ho, hob, hb⟩ := hrel
    obtain ⟨L, hL⟩ : ∃ L, L = (allTo ps k).length := ⟨_, rfl⟩
    obtain ⟨Av, cv, rfl, hrv, -, -, -⟩ := ho.shape' hL.symm
    have HD := Lib.hid hd
    have HO := Lib.hid ho
    have HOb := Lib.hid hob
    have HB := Lib.hid hb
    have HL := Lib.hid hL
    have hLb : L ≤ 15500 := by rw [hL, allTo_len]; omega
    have hz := hb.size
    have hgw := hd.lt
    clear hd ho hob hb hrv hL
    by_cases hlt : k < n
    · have hk' : k < ps.length := by rw [HN.out]; exact hlt
      obtain ⟨⟨⟨A', m, cc⟩, ys⟩, hu⟩ : ∃ u, ps[k] = u := ⟨_, rfl⟩
      have h1 := HR.out.at_ (k := k) (by rw [List.length_map]; exact hk')
      rw [List.getElem_map, hu] at h1
      obtain ⟨b0, off0, rfl, hb0, c0⟩ := h1
      have c0' : wr.cell? ⟨b0, off0 + k, none⟩ = some (.slice A' m cc) := (HB.out.cell (p := ⟨b0, off0 + k, none⟩) hb0).trans c0
      have h2 := HPs.out _ (List.getElem_mem hk')
      rw [hu] at h2
      have hsucc := allTo_succ ps k hk'
      have hlsucc := lenTo_succ ps k hk'
      rw [hu] at hsucc hlsucc
      simp only at h2 hsucc hlsucc
      have HY := Lib.hid h2.1
      have hml := h2.2
      have HYl := Lib.hid hml
      have HSu := Lib.hid hsucc
      have HLs := Lib.hid hlsucc
      clear h2 c0 hu hsucc hlsucc hml
      by_cases hk30 : (k : Int) > 30
      · go_wp2_with fail
        go_ret
        exact ⟨rfl, HB.out⟩
      by_cases hm500 : (m : Int) > 500
      · go_wp2_with fail
        go_ret
        exact ⟨rfl, HB.out⟩
      have hmb : m ≤ 500 := by omega
      have hkb : k ≤ 30 := by omega
      go_wp2_with fail
      refine (copy_any cc (HY.out.below HB.out) hz HYl.out.symm (by omega)).mono ?_
      rintro e w3 ⟨v3, rfl, hc3, hb3⟩
      obtain ⟨g3, c3, rfl, hg3, hg3l, -, -⟩ := hc3.shape' HYl.out.symm
      have hz3 := hb3.size
      have HC3 := Lib.hid hc3
      have HB3 := Lib.hid (HB.out.trans (hb3.mono hz))
      have HO3 := Lib.hid (HO.out.below hb3 (Nat.le_refl _))
      have hobl : ∀ b, (Value.slice Av L cv).ownBlock = some b → b < wr.heap.size := fun b e => (HO.out.lt b e).2
      have HObl := Lib.hid hobl
      have HD3 := Lib.hid (HD.out.below (B := 0) (C := wr.heap.size) (w' := w3) hb3 (Nat.le_refl _))
      have hadd := add_any w3 w1.heap.size 0 w3.heap.size m c3 (some ⟨g3, 0, none⟩) (allTo ps k) ys HD3.out (Nat.zero_le _) HC3.out.own.rd (Nat.le_refl _) HYl.out (fun a _ e => by cases e; show g3 ≠ _; omega) (by rw [← HL.out, ← HYl.out]; omega)
      rw [← HSu.out] at hadd
      have HAdd := Lib.hid hadd
      clear hc3 hb3 HD hadd hobl
      go_wp2_with fail
      refine HAdd.out.mono ?_
      rintro e w4 ⟨rfl, hd4, hg4⟩
      have hz4 := hg4.size
      have HD4 := Lib.hid hd4
      have HC4 := Lib.hid (HC3.out.kept hg4 (.inr (by simp [Value.ownBlock]; omega)))
      have hnr3 : some w1.heap.size ≠ (Value.slice Av L cv).ownBlock := by
        obtain ⟨rv, h1, -⟩ := HD3.out
        exact h1.not_row (by decide) HO3.out
      have HO4 := Lib.hid (HO3.out.kept hg4 (.inr (fun e => hnr3 e.symm)))
      have HB4 := Lib.hid (HB3.out.grown hg4 HB3.out.size (fun b e => by cases e; omega))
      clear hd4 hg4 HC3 HO3 HB3 HAdd HD3 hnr3
      go_wp2_with fail
      refine (kept_any cc HC4.out (HY.out.below HB4.out) HYl.out.symm rfl (by omega)).mono ?_
      rintro e w' ⟨rfl, rfl⟩
      have hov := over_any HC4.out.own (by rw [← HYl.out]; omega)
      have HOv := Lib.hid hov
      clear hov
      go_wp2_with fail
      refine HOv.out.mono ?_
      rintro e w5 ⟨rfl, hg5⟩
      have hz5 := hg5.size
      have HD5 := Lib.hid (HD4.out.grownRow hg5 HC4.out.own (by decide) (fun b e => by simp [Value.ownBlock] at e; omega))
      have HO5 := Lib.hid (HO4.out.kept' hg5 (fun b e hv => by have := HObl.out b hv; simp [Value.ownBlock] at e; omega))
      have HB5 := Lib.hid (HB4.out.grown hg5 HB4.out.size (fun b e => by simp [Value.ownBlock] at e; omega))
      clear hg5 HOv HD4 HO4 HB4 HC4
      go_wp2_with (at_builtin; refine wpList_append_rd rfl (.tmp 44) (.tmp 45) 22 rfl b8_one 0 5 i0 _ 1 Try.underlying22 hi0 hz0 hz1 hz2 rfl _ _ rfl HO5.out W.heap.size A' m cc ys rfl HYl.out (HY.out.below HB5.out) (by have := HL.out; have := HYl.out; simp [maxLen]; omega) (by have := HL.out; have := HYl.out; simp; omega) (Nat.zero_le _) ?_; intro v6 w6 hown6 hg6 hbb6; have HO6 := Lib.hid (hown6.cast HSu.out.symm); have HG6 := Lib.hid hg6; clear hown6 hg6 hbb6; obtain ⟨L6, hL6⟩ : ∃ L6, L6 = (allTo ps (k + 1)).length := ⟨_, rfl⟩; obtain ⟨A6, c6, rfl, hr6, -, -, -⟩ := HO6.out.shape' hL6.symm; have HR6 := Lib.hid hr6; have HL6 := Lib.hid hL6; clear hr6 hL6)
      have HOb6 := Lib.hid (show ∀ b, (Value.slice A6 L6 c6).ownBlock = some b → W.heap.size ≤ b from by
        intro b e
        rcases HG6.out.at_ with h | h
        · exact HOb.out b (h.symm.trans e)
        · rw [e] at h; cases h; omega)
      have HD6 := Lib.hid (HD5.out.grownRow HG6.out.by_ HO5.out (by decide) (fun b e => Nat.lt_of_lt_of_le (HObl.out b e) (by omega)))
      have HB6 := Lib.hid (HB5.out.grown HG6.out.by_ HB5.out.size (fun b e => HOb.out b e))
      have hz6 := HG6.out.size
      have hL6 : L6 = L + m := by have h1 := HL6.out; have h2 := congrArg List.length HSu.out; rw [List.length_append, ← HL.out, ← HYl.out] at h2; omega
      have hlk1 : lenTo ps (k + 1) ≤ 500 * (k + 1) := by have := HLs.out; have := HYl.out; omega
      have hL6b : L6 ≤ 15500 + 500 := by omega
      clear HD5 HB5 HO5 HOb HObl HG6 HL HLs hL6
      obtain ⟨S, hS⟩ : ∃ S, S = sum32 (allTo ps (k + 1)) := ⟨_, rfl⟩
      have hes : ∀ w, (binOp .neq 26 (.agg (S.map b8).toArray) (.agg (S.map b8).toArray)).run Try.prog w = .ok (.bool false) w := fun w => by
        rw [run_neq_sum w S S (by rw [hS, sum32_len]) (by rw [hS, sum32_len])]; simp
      have HS := Lib.hid hS
      clear hS
      have hs := sum_any w6 w1.heap.size _ _ HD6.out (by rw [← HL6.out]; omega)
      rw [arrV_mk, ← HS.out] at hs
      have HSm := Lib.hid hs
      clear hs
      go_wp2_with fail
      refine HSm.out.mono ?_
      rintro e w7 ⟨rfl, hb7⟩
      have hz7 := hb7.size
      have HO7 := Lib.hid (HO6.out.below hb7 (Nat.le_refl _))
      have HD7 := Lib.hid (HD6.out.below (C := w6.heap.size) (w' := w7) hb7 (Nat.le_refl _))
      have HB7 := Lib.hid (HB6.out.trans (hb7.mono HB6.out.size))
      have hs := refShort_any w7 w7.heap.size c6 L6 A6 _ HO7.out.rd (Nat.le_refl _) HL6.out (by omega)
      rw [arrV_mk, ← HS.out] at hs
      have HSh := Lib.hid hs
      clear hs hb7 HSm HD6 HB6 HO6
      go_wp2_with fail
      refine HSh.out.mono ?_
      rintro e w8 ⟨rfl, hb8⟩
      have hz8 := hb8.size
      have HO8 := Lib.hid (HO7.out.below hb8 (Nat.le_refl _))
      have HD8 := Lib.hid (HD7.out.below (C := w7.heap.size) (w' := w8) hb8 (Nat.le_refl _))
      have HB8 := Lib.hid (HB7.out.trans (hb8.mono HB7.out.size))
      have hlen := len_any w8 w1.heap.size _ _ HD8.out
      rw [← HL6.out] at hlen
      have HLn := Lib.hid hlen
      clear hb8 HSh HD7 HB7 HO7 hlen
      go_wp2_with fail
      refine HLn.out.mono ?_
      rintro e w' ⟨rfl, rfl⟩
      go_wp2_with fail
      go_roundw
      · exact ⟨k + 1, by omega, by simp, hlk1, by omega, HD8.out.less (Nat.zero_le _), HO8.out.less (Nat.zero_le _), HOb6.out, HB8.out⟩
      · simp only [intOf]; omega
    · have hkn : k = n := by omega
      subst hkn
      clear hlt
      obtain ⟨S, hS⟩ : ∃ S, S = sum32 (allTo ps k) := ⟨_, rfl⟩
      have hes : ∀ w, (binOp .eql 26 (.agg (S.map b8).toArray) (.agg (S.map b8).toArray)).run Try.prog w = .ok (.bool true) w := fun w => by
        rw [eql_sum w S S (by rw [hS, sum32_len]) (by rw [hS, sum32_len])]; simp
      have HS := Lib.hid hS
      clear hS
      have hs := sum_any wr w1.heap.size _ _ HD.out (by rw [← HL.out]; omega)
      rw [arrV_mk, ← HS.out] at hs
      have HSm := Lib.hid hs
      clear hs
      go_wp2_with fail
      refine HSm.out.mono ?_
      rintro e w7 ⟨rfl, hb7⟩
      have hz7 := hb7.size
      have HO7 := Lib.hid (HO.out.below hb7 (Nat.le_refl _))
      have HB7 := Lib.hid (HB.out.trans (hb7.mono HB.out.size))
      have hs := refShort_any w7 w7.heap.size cv L Av _ HO7.out.rd (Nat.le_refl _) HL.out (by omega)
      rw [arrV_mk, ← HS.out] at hs
      have HSh := Lib.hid hs
      clear hs hb7 HSm
      go_wp2_with fail
      refine HSh.out.mono ?_
      rintro e w8 ⟨rfl, hb8⟩
      have HB8 := Lib.hid (HB7.out.trans (hb8.mono HB7.out.size))
      clear hb8
      go_wp2_with fail
      go_ret
      exact ⟨rfl, HB8.out⟩
end Go.Proofs.Ytgeighnfgniamaa
