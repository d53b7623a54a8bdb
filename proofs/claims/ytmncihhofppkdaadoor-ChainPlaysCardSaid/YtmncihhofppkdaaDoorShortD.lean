/- CONTRACT: the short digest of parts; a digest's count; a nil digest. -/
import Derived.Test.YtmncihhofppkdaaDoorSum
namespace Go.Proofs.YtmncihhofppkdaaDoor
open Go.RowKit
set_option linter.unusedVariables false
set_option linter.unusedSimpArgs false
theorem add_none (w : World) (v : Value) : Calls Tryd.prog 73 #[.pointer none, v] w fun e w' => e = .returned (.tuple #[]) ∧ w = w' := by
  go_enter Tryd.func73, Tryd.ntmps73
  go_wp2
  refine bodyPost_ret (results_none rfl _ _ _) rfl ?_
  exact ⟨rfl, rfl⟩

set_option maxRecDepth 100000 in
set_option maxHeartbeats 1000000 in
theorem short_any (w : World) (B b off c n : Nat) (ps : List Pt) (hp : Pts w B b off ps) (hB : B ≤ w.heap.size) (hn : n = ps.length) (hn2 : n ≤ 100000) (xs : List (BitVec 8)) (hxs : xs = ps.flatMap fun p => p.2) (htot : xs.length ≤ 50000000) :
    Calls Tryd.prog 76 #[.slice (some ⟨b, off, none⟩) n c] w fun e w' => e = .returned (arrV b8 (sum32 xs)) ∧ Below w.heap.size w w' := by
  have HP := Lib.hid hp
  have HN := Lib.hid hn
  have HT := Lib.hid htot
  have HX := Lib.hid hxs
  have HO0 := Lib.hid (Arr.new b8 w 23 (List.replicate 32 0#8))
  clear hp hn htot hxs
  go_enter Tryd.func76, Tryd.ntmps76
  go_wp2_with fail
  refine (new_any _).mono ?_
  rintro e w1 ⟨rfl, hd1, hb1⟩
  have hz1 := hb1.size
  rw [World.size_alloc] at hd1 hb1 hz1
  have HD1 := Lib.hid (show DigT w1 (w.heap.size + 1) (w.heap.size + 1) (allTo ps 0) from DigT.nil_ hd1)
  have HO1 := Lib.hid (HO0.out.below hb1 (by omega))
  have HB1 := Lib.hid (Below.trans ((Below.refl _ w).alloc (Nat.le_refl _) _) (hb1.mono (Nat.le_succ _)))
  clear hd1 hb1 HO0
  go_wp2_with fail
  go_loopw [9] (fun v wr => ∃ k : Nat, k ≤ n ∧ v = .int .i64 k ∧ DigT wr (w.heap.size + 1) (w.heap.size + 1) (allTo ps k) ∧ Arr b8 wr w.heap.size 23 (List.replicate 32 0#8) ∧ Below w.heap.size w wr) (fun v _ => n - (intOf v).toNat)
  case atStart => exact ⟨0, by omega, rfl, HD1.out, HO1.out, HB1.out⟩
  case round =>
    clear HD1 HO1 HB1
    obtain ⟨k, hk, rfl, hd, ho, hb⟩ := hrel
    have HD := Lib.hid hd
    have HO := Lib.hid ho
    have HB := Lib.hid hb
    have hz := hd.lt
    clear hd ho hb
    by_cases hlt : k < n
    · have hk' : k < ps.length := by rw [← HN.out]; exact hlt
      have hp2 := HP.out.below HB.out hB HP.out.lt
      have h1 := hp2.row k _ (List.getElem?_eq_getElem hk')
      have h2 := hp2.len _ (List.getElem_mem hk')
      have h3 := hp2.rd _ (List.getElem_mem hk')
      have h4 := lenTo_mono ps (k + 1) ps.length (by omega)
      rw [lenTo_all, lenTo_succ ps k hk', ← HX.out] at h4
      have h5 := HT.out
      have h6 := allTo_succ ps k hk'
      have h7 := allTo_len ps k
      obtain ⟨⟨⟨A, m, cc⟩, ys⟩, hu⟩ : ∃ u, ps[k] = u := ⟨_, rfl⟩
      rw [hu] at h1 h2 h3 h4 h6
      simp only [sl] at h1 h2 h3 h4 h6
      have hc := add_any wr (w.heap.size + 1) (w.heap.size + 1) B m cc A (allTo ps k) ys HD.out (by omega) h3 (by omega) h2 (fun a hl e => by
        obtain ⟨b', off', e', hb', -⟩ := h3 hl
        rw [e] at e'; cases e'
        show b' ≠ _; omega) (by omega)
      rw [← h6] at hc
      have HC := Lib.hid hc
      clear hp2 h2 h3 h4 h5 h6 h7 hu hc
      go_wp2_with fail
      refine HC.out.mono ?_
      rintro e w2 ⟨rfl, hd2, hg2⟩
      have HD2 := Lib.hid (hd2.less (B' := w.heap.size + 1) (by omega))
      have HO2 := Lib.hid (HO.out.grown hg2 (by simp))
      have HB2 := Lib.hid (HB.out.grown hg2 HB.out.size (fun k e => by cases e; omega))
      clear hd2 hg2
      go_wp2_with fail
      go_roundw
      case rel => exact ⟨k + 1, by omega, by go_num, HD2.out, HO2.out, HB2.out⟩
      case measure => simp [intOf]; omega
    · obtain rfl : k = n := by omega
      have hall : allTo ps k = xs := by unfold allTo; rw [HN.out, List.take_length, HX.out]
      have hd := HD.out
      rw [hall] at hd
      have hs := sum_any wr (w.heap.size + 1) (w.heap.size + 1) xs hd HT.out
      rw [arrV_mk] at hs
      have HS := Lib.hid hs
      have HSl := Lib.hid (show (sum32 xs).length = 32 from rfl)
      clear hall hd hs
      go_wp2_with fail
      refine HS.out.mono ?_
      rintro e w2 ⟨rfl, hb2⟩
      have HO2 := Lib.hid (HO.out.below hb2 (by omega))
      have HB2 := Lib.hid (HB.out.trans (hb2.mono HB.out.size))
      clear hb2 HO HB HD HS
      go_wp2_with (refine wpList_store_arr rfl 23 _ _ rfl w.heap.size rfl (sum32 xs) rfl _ _ HO2.out rfl (by rw [size32, HSl.out]) b8_one' ?_; intro w9 hx9 hg9)
      refine bodyPost_ret (v := .agg ((sum32 xs).map b8).toArray) (results_arr (g := w.heap.size) rfl _ _ _ _ _ rfl hx9 Tryd.underlying23 rfl (by rw [size32, HSl.out])) rfl ?_
      exact ⟨rfl, HB2.out.grown hg9 HB2.out.size (fun k e => by cases e; exact Nat.le_refl _)⟩
end Go.Proofs.YtmncihhofppkdaaDoor
