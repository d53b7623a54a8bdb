/- CONTRACTS: slices.Grow (of nil), slices.Concat, slices.Clone, at bytes. -/
import Derived.Test.YtmncihhofppkdaaDoorBase
import Derived.Lib.AppendZeros
namespace Go.Proofs.YtmncihhofppkdaaDoor
open Go.RowKit
set_option linter.unusedVariables false
set_option linter.unusedSimpArgs false

set_option maxRecDepth 100000 in
theorem grow_nil (n : Nat) (hn : n ≤ 100000000) (w : World) : Calls Tryd.prog 70 #[.slice none 0 0, .int .i64 (n : Int)] w fun e w' => ∃ v, e = .returned v ∧ Own b8 w' w.heap.size 5 v [] ∧ Below w.heap.size w w' := by
  obtain ⟨i0, hi0, hz0, hz1, hz2⟩ := info_parts infoU8
  by_cases h0 : n = 0
  · subst h0
    go_enter Tryd.func70, Tryd.ntmps70
    go_wp2
    go_ret
    exact ⟨_, rfl, Own.nil_ _ _ _ _, Below.refl _ _⟩
  · have hpos : 0 < n := by omega
    have hnn : ¬ ((n : Int) < 0) := by omega
    have hrz := fun ty => Lib.run_append_nil_zeros (P := Tryd.prog) w 30 3 ty 5 i0 _ .i64 .i64 Tryd.underlying30 Tryd.underlying3 hi0 hz0 n hpos (by omega) (by omega) (by rw [hz2]; omega)
    have hge := grownCap_ge w n 0 5
    have hmx := grownCap_le_maxLen w n 0 5 (by unfold maxLen; omega)
    generalize grownCap w n 0 5 = G at hrz hge hmx
    have HRZ := Lib.hid hrz
    have HMX := Lib.hid hmx
    clear hrz h0 hmx
    have hp : decide ((n : Int) > 0) = true := by simp; omega
    go_enter Tryd.func70, Tryd.ntmps70
    go_wp2_with (at_builtin; refine Lib.wpList_append_run _ rfl _ _ _ _ rfl _ _ rfl rfl _ _ (HRZ.out _) ?_)
    all_goals
      go_ret
      refine ⟨_, rfl, ⟨by simp, .inr ⟨w.heap.size, G, _, rfl, Nat.le_refl _, heap_alloc_new w.drew _, Nat.zero_le _, HMX.out, ?_, by simp⟩⟩, by (repeat' (first | assumption | exact Below.refl _ _ | refine Below.drew ?_ | refine Below.alloc ?_ ?_ _ | omega | (simp; done) | (simp; omega)))⟩
      simp only [Array.size_append, size_zeroCells]
      simp [Value.cells]
      omega

/-- parts of a text: slices, and what they read as -/
abbrev Pt := Sl × List (BitVec 8)
def lenTo (ps : List Pt) (k : Nat) : Nat := ((ps.take k).map fun p => p.2.length).sum
def allTo (ps : List Pt) (k : Nat) : List (BitVec 8) := (ps.take k).flatMap fun p => p.2
theorem allTo_succ (ps : List Pt) (k : Nat) (hk : k < ps.length) : allTo ps (k + 1) = allTo ps k ++ ps[k].2 := by
  unfold allTo
  rw [List.take_succ_eq_append_getElem hk, List.flatMap_append]; simp
theorem lenTo_succ (ps : List Pt) (k : Nat) (hk : k < ps.length) : lenTo ps (k + 1) = lenTo ps k + ps[k].2.length := by
  unfold lenTo
  rw [List.take_succ_eq_append_getElem hk, List.map_append, List.sum_append]; simp
theorem allTo_len (ps : List Pt) (k : Nat) : (allTo ps k).length = lenTo ps k := by
  unfold allTo lenTo
  rw [List.length_flatMap]
theorem lenTo_all (ps : List Pt) : lenTo ps ps.length = (ps.flatMap fun p => p.2).length := by
  rw [← allTo_len]; unfold allTo; rw [List.take_length]
theorem lenTo_mono (ps : List Pt) (k j : Nat) (h : k ≤ j) : lenTo ps k ≤ lenTo ps j := by
  unfold lenTo
  have : ps.take k = (ps.take j).take k := by rw [List.take_take, Nat.min_eq_left h]
  rw [this]
  clear this h
  generalize ps.take j = l
  induction l generalizing k with
  | nil => simp
  | cons a l ih => cases k with
    | zero => simp
    | succ k => simp only [List.take_succ_cons, List.map_cons, List.sum_cons]; have := ih k; omega
/-- the parts lie in memory: the slices in a row, each part readable -/
structure Pts (w : World) (B : Nat) (b off : Nat) (ps : List Pt) : Prop where
  row : ∀ k u, ps[k]? = some u → w.cell? ⟨b, off + k, none⟩ = some (sl u.1)
  lt : b < w.heap.size
  rd : ∀ u ∈ ps, Rd b8 w B u.1.1 u.2
  len : ∀ u ∈ ps, u.1.2.1 = u.2.length
theorem Pts.below {w w' : World} {B C b off : Nat} {ps : List Pt} (h : Pts w B b off ps) (hb : Below C w w') (hB : B ≤ C) (hbC : b < C) : Pts w' B b off ps :=
  ⟨fun k u hu => (hb.cell (p := ⟨b, off + k, none⟩) hbC).trans (h.row k u hu), by have := hb.size; have := h.lt; omega, fun u hu => (h.rd u hu).below (hb.mono hB), h.len⟩

set_option maxRecDepth 100000 in
theorem concat_any (w : World) (B b off c n : Nat) (ps : List Pt) (hp : Pts w B b off ps) (hB : B ≤ w.heap.size) (hn : n = ps.length) (hn2 : n ≤ 100000) (htot : (ps.flatMap fun p => p.2).length ≤ 50000000) :
    Calls Tryd.prog 63 #[.slice (some ⟨b, off, none⟩) n c] w fun e w' => ∃ v, e = .returned v ∧ Own b8 w' w.heap.size 5 v (ps.flatMap fun p => p.2) ∧ Below w.heap.size w w' := by
  obtain ⟨i0, hi0, hz0, hz1, hz2⟩ := info_parts infoU8
  have HP := Lib.hid hp
  have HN := Lib.hid hn
  have HT := Lib.hid htot
  clear hp hn htot
  go_enter Tryd.func63, Tryd.ntmps63
  go_wp2_with fail
  go_loop [3, 11] (fun t i => ∃ k : Nat, k ≤ n ∧ i = .int .i64 k ∧ t = .int .i64 (lenTo ps k : Nat)) (fun _ i => n - (intOf i).toNat)
  case atStart => exact ⟨0, by omega, rfl, rfl⟩
  case round =>
    obtain ⟨k, hk, rfl, rfl⟩ := hrel
    by_cases hlt : k < n
    · have hk' : k < ps.length := by rw [← HN.out]; exact hlt
      obtain ⟨⟨⟨A, m, cc⟩, xs⟩, hu⟩ : ∃ u, ps[k] = u := ⟨_, rfl⟩
      have h1 := HP.out.row k _ (List.getElem?_eq_getElem hk')
      have h2 := HP.out.len _ (List.getElem_mem hk')
      have h3 := lenTo_succ ps k hk'
      have h4 := lenTo_mono ps (k + 1) ps.length (by omega)
      rw [lenTo_all] at h4
      have h5 := HT.out
      rw [hu] at h1 h2 h3
      simp only [sl] at h1 h2 h3
      have hneg : ¬ (((lenTo ps k : Nat) : Int) + (m : Int) < 0) := by omega
      have hbnd : ((lenTo ps k : Nat) : Int) + (m : Int) ≤ 50000000 := by omega
      have H3 := Lib.hid (show lenTo ps (k + 1) = lenTo ps k + m by omega)
      clear h2 h3 h4 h5 hu
      go_wp2_with fail
      go_round
      case rel => exact ⟨k + 1, by omega, by go_num, by rw [H3.out]; go_num⟩
      case measure => simp [intOf]; omega
    · obtain rfl : k = n := by omega
      have hl : lenTo ps k ≤ 50000000 := by rw [HN.out, lenTo_all]; exact HT.out
      generalize lenTo ps k = tot at hl
      go_wp2_with fail
      refine (grow_nil tot (by omega) _).mono ?_
      rintro e w1 ⟨v1, rfl, hown, hb1⟩
      have HO := Lib.hid hown
      have HB := Lib.hid hb1
      clear hown hb1
      go_wp2_with fail
      go_loopw [6, 27] (fun v i wr => ∃ j : Nat, j ≤ k ∧ i = .int .i64 j ∧ Own b8 wr w.heap.size 5 v (allTo ps j) ∧ Below w.heap.size w wr) (fun _ i _ => k - (intOf i).toNat)
      case atStart => exact ⟨0, by omega, rfl, HO.out, HB.out⟩
      case round =>
        clear HO HB
        obtain ⟨j, hj, rfl, hown, hb⟩ := hrel
        by_cases hlt2 : j < k
        · have hj' : j < ps.length := by rw [← HN.out]; exact hlt2
          have hp2 := HP.out.below hb hB HP.out.lt
          have h1 := hp2.row j _ (List.getElem?_eq_getElem hj')
          have h2 := hp2.len _ (List.getElem_mem hj')
          have h3 := hp2.rd _ (List.getElem_mem hj')
          have h4 := lenTo_mono ps (j + 1) ps.length (by omega)
          rw [lenTo_all, lenTo_succ ps j hj'] at h4
          have h5 := HT.out
          have h6 := allTo_succ ps j hj'
          obtain ⟨⟨⟨A, m, cc⟩, xs⟩, hu⟩ : ∃ u, ps[j] = u := ⟨_, rfl⟩
          rw [hu] at h1 h2 h3 h4 h6
          simp only [sl] at h1 h2 h3 h4 h6
          have H2 := Lib.hid h2
          have H3 := Lib.hid h3
          have H6 := Lib.hid h6
          have HO := Lib.hid hown
          have HB := Lib.hid hb
          have hlen := allTo_len ps j
          have HL := Lib.hid (show (allTo ps j).length + xs.length ≤ 50000000 by omega)
          have hz := hb.size
          clear hp2 h2 h3 h4 h5 h6 hu hown hb hlen
          go_wp2_with (at_builtin; refine wpList_append_rd rfl _ _ 30 rfl b8_one w.heap.size 5 i0 _ 1 Tryd.underlying30 hi0 hz0 hz1 hz2 rfl _ _ rfl HO.out B A m cc xs rfl H2.out H3.out (by have := HL.out; unfold maxLen; omega) (by have := HL.out; omega) hz ?_; intro v7 w7 hown7 hg7 hbb7)
          go_roundw
          case rel => exact ⟨j + 1, by omega, by go_num, by rw [H6.out]; exact hown7, hbb7 _ _ (Nat.le_refl _) HB.out⟩
          case measure => simp [intOf]; omega
        · obtain rfl : j = k := by omega
          go_wp2_with fail
          go_ret
          exact ⟨_, rfl, hown.cast (by unfold allTo; rw [HN.out, List.take_length]), hb⟩

end Go.Proofs.YtmncihhofppkdaaDoor
