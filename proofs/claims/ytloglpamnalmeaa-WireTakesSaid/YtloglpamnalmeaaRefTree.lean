/- CONTRACTS: burrowref09.TreeGood, Tree, PutTree. -/
import Derived.Test.YtloglpamnalmeaaPutTree
import Derived.Test.YtloglpamnalmeaaNodeC
import Derived.Test.YtloglpamnalmeaaPack
namespace Go.Proofs.Ytloglpamnalmeaa
open Go.RowKit
set_option linter.unusedVariables false
set_option linter.unusedSimpArgs false

set_option maxRecDepth 100000 in
set_option maxHeartbeats 2000000 in
theorem treeGood_any {w : World} {B : Nat} {A : Option Addr} {n c : Nat} {ts : List TN} (hr : RdT w B A ts) (hB : B ≤ w.heap.size) (hn : ts.length = n) (hmax : n ≤ 4611686018427387904) :
    Calls Try.prog 68 #[.slice A n c] w fun e w' => e = .returned (.bool (!treeBad ts)) ∧ Below w.heap.size w w' := by
  have HR := Lib.hid hr
  have HN := Lib.hid hn
  obtain ⟨q, hq⟩ : ∃ q, q = treeBad ts := ⟨_, rfl⟩
  rw [← hq]
  have HQ := Lib.hid hq
  clear hr hn hq
  by_cases hwh : wholeB n = true
  · have HWh := Lib.hid hwh
    have hcase : n = 1 ∨ n = 3 ∨ n = 7 ∨ n = 15 ∨ n = 31 ∨ n = 63 := by unfold wholeB at hwh; simp at hwh; omega
    clear hwh
    rcases hcase with h | h | h | h | h | h
    · have hf1 : ((n : Int) != 1) = false := by simp; omega
      have hf3 : ((n : Int) != 3) = true := by simp; omega
      have hf7 : ((n : Int) != 7) = true := by simp; omega
      have hf15 : ((n : Int) != 15) = true := by simp; omega
      have hf31 : ((n : Int) != 31) = true := by simp; omega
      have hf63 : ((n : Int) != 63) = true := by simp; omega
      have hy : n ≤ 300 := by omega
      clear h
      go_enter Try.func68, Try.ntmps68
      go_wp2_with fail
      clear hf1 hf3 hf7 hf15 hf31 hf63
      go_loopw [4] (fun iv wr => ∃ k : Nat, k ≤ n ∧ iv = .int .i64 (k : Int) ∧ nodesBad (ts.take k) = false ∧ Below w.heap.size w wr) (fun iv _ => n - (intOf iv).toNat)
      case atStart => exact ⟨0, by omega, rfl, rfl, Below.refl _ _⟩
      case round =>
        obtain ⟨k, hk, rfl, hnb, hb⟩ := hrel
        have HB := Lib.hid hb
        have HNb := Lib.hid hnb
        have hszr := hb.size
        by_cases hlt : k < n
        · have hlt' : (k : Int) < (n : Int) := by omega
          obtain ⟨t, ht⟩ : ∃ t, ts[k]? = some t := ⟨ts[k]'(by rw [HN.out]; omega), List.getElem?_eq_getElem _⟩
          obtain ⟨b, off, e1, hbb, hc1⟩ := (HR.out.below (hb.mono hB)).elem ht
          subst e1
          have HT := Lib.hid ht
          have HC := Lib.hid hc1
          have hmem := List.mem_of_getElem? ht
          have HOk := Lib.hid (HR.out.ok t hmem)
          have HUm := Lib.hid ((HR.out.um t hmem).below (hb.mono hB))
          have HLen := Lib.hid (show t.cells.length = 99 from nodeC_len HOk.out t.A t.c)
          have hw1 : IntKind.i64.wrap ((k : Int) + 1) = (k : Int) + 1 := IntWalk.i64_in _ (by omega)
          obtain ⟨bt, hbt⟩ : ∃ bt, bt = nodeBad t.x := ⟨_, rfl⟩
          have HG := Lib.hid (nodeGood_any t.x HOk.out (w := wr) (c := t.c) HUm.out (by omega))
          rw [← hbt] at HG
          have HBt := Lib.hid hbt
          clear hb ht hc1 hmem hnb hbt
          go_wp2_with (refine wpList_load_midw (by first | rfl | go_simp) 50 (.tmp 36) rfl b (off + k * 99) rfl t.cells _ HC.out Try.underlying50 rfl (by rw [HLen.out]; exact infoNode) ?_)
          refine HG.out.mono ?_
          rintro e w2 ⟨rfl, hb2⟩
          have HB2 := Lib.hid (HB.out.trans (hb2.mono hszr))
          clear hb2
          cases bt with
          | true =>
            go_wp2_with fail
            go_ret
            refine ⟨?_, HB2.out⟩
            have e : nodesBad ts = true := nodesBad_take ts (k + 1) (by rw [nodesBad_succ ts k t HT.out, ← HBt.out]; simp)
            rw [HQ.out, treeBad, e]; simp
          | false =>
            go_wp2_with fail
            exact ⟨⟨k + 1, by omega, by congr 1, by rw [nodesBad_succ ts k t HT.out, ← HBt.out, HNb.out]; rfl, HB2.out⟩, by show n - ((k : Int) + 1).toNat < n - (k : Int).toNat; omega⟩
        · obtain rfl : k = n := by omega
          clear hb hnb
          go_wp2_with fail
          go_ret
          refine ⟨?_, HB.out⟩
          have e : ts.take k = ts := List.take_of_length_le (by rw [HN.out]; omega)
          have h := HNb.out
          rw [e] at h
          rw [HQ.out, treeBad, HN.out, h, HWh.out]; rfl
    · have hf1 : ((n : Int) != 1) = true := by simp; omega
      have hf3 : ((n : Int) != 3) = false := by simp; omega
      have hf7 : ((n : Int) != 7) = true := by simp; omega
      have hf15 : ((n : Int) != 15) = true := by simp; omega
      have hf31 : ((n : Int) != 31) = true := by simp; omega
      have hf63 : ((n : Int) != 63) = true := by simp; omega
      have hy : n ≤ 300 := by omega
      clear h
      go_enter Try.func68, Try.ntmps68
      go_wp2_with fail
      clear hf1 hf3 hf7 hf15 hf31 hf63
      go_loopw [4] (fun iv wr => ∃ k : Nat, k ≤ n ∧ iv = .int .i64 (k : Int) ∧ nodesBad (ts.take k) = false ∧ Below w.heap.size w wr) (fun iv _ => n - (intOf iv).toNat)
      case atStart => exact ⟨0, by omega, rfl, rfl, Below.refl _ _⟩
      case round =>
        obtain ⟨k, hk, rfl, hnb, hb⟩ := hrel
        have HB := Lib.hid hb
        have HNb := Lib.hid hnb
        have hszr := hb.size
        by_cases hlt : k < n
        · have hlt' : (k : Int) < (n : Int) := by omega
          obtain ⟨t, ht⟩ : ∃ t, ts[k]? = some t := ⟨ts[k]'(by rw [HN.out]; omega), List.getElem?_eq_getElem _⟩
          obtain ⟨b, off, e1, hbb, hc1⟩ := (HR.out.below (hb.mono hB)).elem ht
          subst e1
          have HT := Lib.hid ht
          have HC := Lib.hid hc1
          have hmem := List.mem_of_getElem? ht
          have HOk := Lib.hid (HR.out.ok t hmem)
          have HUm := Lib.hid ((HR.out.um t hmem).below (hb.mono hB))
          have HLen := Lib.hid (show t.cells.length = 99 from nodeC_len HOk.out t.A t.c)
          have hw1 : IntKind.i64.wrap ((k : Int) + 1) = (k : Int) + 1 := IntWalk.i64_in _ (by omega)
          obtain ⟨bt, hbt⟩ : ∃ bt, bt = nodeBad t.x := ⟨_, rfl⟩
          have HG := Lib.hid (nodeGood_any t.x HOk.out (w := wr) (c := t.c) HUm.out (by omega))
          rw [← hbt] at HG
          have HBt := Lib.hid hbt
          clear hb ht hc1 hmem hnb hbt
          go_wp2_with (refine wpList_load_midw (by first | rfl | go_simp) 50 (.tmp 36) rfl b (off + k * 99) rfl t.cells _ HC.out Try.underlying50 rfl (by rw [HLen.out]; exact infoNode) ?_)
          refine HG.out.mono ?_
          rintro e w2 ⟨rfl, hb2⟩
          have HB2 := Lib.hid (HB.out.trans (hb2.mono hszr))
          clear hb2
          cases bt with
          | true =>
            go_wp2_with fail
            go_ret
            refine ⟨?_, HB2.out⟩
            have e : nodesBad ts = true := nodesBad_take ts (k + 1) (by rw [nodesBad_succ ts k t HT.out, ← HBt.out]; simp)
            rw [HQ.out, treeBad, e]; simp
          | false =>
            go_wp2_with fail
            exact ⟨⟨k + 1, by omega, by congr 1, by rw [nodesBad_succ ts k t HT.out, ← HBt.out, HNb.out]; rfl, HB2.out⟩, by show n - ((k : Int) + 1).toNat < n - (k : Int).toNat; omega⟩
        · obtain rfl : k = n := by omega
          clear hb hnb
          go_wp2_with fail
          go_ret
          refine ⟨?_, HB.out⟩
          have e : ts.take k = ts := List.take_of_length_le (by rw [HN.out]; omega)
          have h := HNb.out
          rw [e] at h
          rw [HQ.out, treeBad, HN.out, h, HWh.out]; rfl
    · have hf1 : ((n : Int) != 1) = true := by simp; omega
      have hf3 : ((n : Int) != 3) = true := by simp; omega
      have hf7 : ((n : Int) != 7) = false := by simp; omega
      have hf15 : ((n : Int) != 15) = true := by simp; omega
      have hf31 : ((n : Int) != 31) = true := by simp; omega
      have hf63 : ((n : Int) != 63) = true := by simp; omega
      have hy : n ≤ 300 := by omega
      clear h
      go_enter Try.func68, Try.ntmps68
      go_wp2_with fail
      clear hf1 hf3 hf7 hf15 hf31 hf63
      go_loopw [4] (fun iv wr => ∃ k : Nat, k ≤ n ∧ iv = .int .i64 (k : Int) ∧ nodesBad (ts.take k) = false ∧ Below w.heap.size w wr) (fun iv _ => n - (intOf iv).toNat)
      case atStart => exact ⟨0, by omega, rfl, rfl, Below.refl _ _⟩
      case round =>
        obtain ⟨k, hk, rfl, hnb, hb⟩ := hrel
        have HB := Lib.hid hb
        have HNb := Lib.hid hnb
        have hszr := hb.size
        by_cases hlt : k < n
        · have hlt' : (k : Int) < (n : Int) := by omega
          obtain ⟨t, ht⟩ : ∃ t, ts[k]? = some t := ⟨ts[k]'(by rw [HN.out]; omega), List.getElem?_eq_getElem _⟩
          obtain ⟨b, off, e1, hbb, hc1⟩ := (HR.out.below (hb.mono hB)).elem ht
          subst e1
          have HT := Lib.hid ht
          have HC := Lib.hid hc1
          have hmem := List.mem_of_getElem? ht
          have HOk := Lib.hid (HR.out.ok t hmem)
          have HUm := Lib.hid ((HR.out.um t hmem).below (hb.mono hB))
          have HLen := Lib.hid (show t.cells.length = 99 from nodeC_len HOk.out t.A t.c)
          have hw1 : IntKind.i64.wrap ((k : Int) + 1) = (k : Int) + 1 := IntWalk.i64_in _ (by omega)
          obtain ⟨bt, hbt⟩ : ∃ bt, bt = nodeBad t.x := ⟨_, rfl⟩
          have HG := Lib.hid (nodeGood_any t.x HOk.out (w := wr) (c := t.c) HUm.out (by omega))
          rw [← hbt] at HG
          have HBt := Lib.hid hbt
          clear hb ht hc1 hmem hnb hbt
          go_wp2_with (refine wpList_load_midw (by first | rfl | go_simp) 50 (.tmp 36) rfl b (off + k * 99) rfl t.cells _ HC.out Try.underlying50 rfl (by rw [HLen.out]; exact infoNode) ?_)
          refine HG.out.mono ?_
          rintro e w2 ⟨rfl, hb2⟩
          have HB2 := Lib.hid (HB.out.trans (hb2.mono hszr))
          clear hb2
          cases bt with
          | true =>
            go_wp2_with fail
            go_ret
            refine ⟨?_, HB2.out⟩
            have e : nodesBad ts = true := nodesBad_take ts (k + 1) (by rw [nodesBad_succ ts k t HT.out, ← HBt.out]; simp)
            rw [HQ.out, treeBad, e]; simp
          | false =>
            go_wp2_with fail
            exact ⟨⟨k + 1, by omega, by congr 1, by rw [nodesBad_succ ts k t HT.out, ← HBt.out, HNb.out]; rfl, HB2.out⟩, by show n - ((k : Int) + 1).toNat < n - (k : Int).toNat; omega⟩
        · obtain rfl : k = n := by omega
          clear hb hnb
          go_wp2_with fail
          go_ret
          refine ⟨?_, HB.out⟩
          have e : ts.take k = ts := List.take_of_length_le (by rw [HN.out]; omega)
          have h := HNb.out
          rw [e] at h
          rw [HQ.out, treeBad, HN.out, h, HWh.out]; rfl
    · have hf1 : ((n : Int) != 1) = true := by simp; omega
      have hf3 : ((n : Int) != 3) = true := by simp; omega
      have hf7 : ((n : Int) != 7) = true := by simp; omega
      have hf15 : ((n : Int) != 15) = false := by simp; omega
      have hf31 : ((n : Int) != 31) = true := by simp; omega
      have hf63 : ((n : Int) != 63) = true := by simp; omega
      have hy : n ≤ 300 := by omega
      clear h
      go_enter Try.func68, Try.ntmps68
      go_wp2_with fail
      clear hf1 hf3 hf7 hf15 hf31 hf63
      go_loopw [4] (fun iv wr => ∃ k : Nat, k ≤ n ∧ iv = .int .i64 (k : Int) ∧ nodesBad (ts.take k) = false ∧ Below w.heap.size w wr) (fun iv _ => n - (intOf iv).toNat)
      case atStart => exact ⟨0, by omega, rfl, rfl, Below.refl _ _⟩
      case round =>
        obtain ⟨k, hk, rfl, hnb, hb⟩ := hrel
        have HB := Lib.hid hb
        have HNb := Lib.hid hnb
        have hszr := hb.size
        by_cases hlt : k < n
        · have hlt' : (k : Int) < (n : Int) := by omega
          obtain ⟨t, ht⟩ : ∃ t, ts[k]? = some t := ⟨ts[k]'(by rw [HN.out]; omega), List.getElem?_eq_getElem _⟩
          obtain ⟨b, off, e1, hbb, hc1⟩ := (HR.out.below (hb.mono hB)).elem ht
          subst e1
          have HT := Lib.hid ht
          have HC := Lib.hid hc1
          have hmem := List.mem_of_getElem? ht
          have HOk := Lib.hid (HR.out.ok t hmem)
          have HUm := Lib.hid ((HR.out.um t hmem).below (hb.mono hB))
          have HLen := Lib.hid (show t.cells.length = 99 from nodeC_len HOk.out t.A t.c)
          have hw1 : IntKind.i64.wrap ((k : Int) + 1) = (k : Int) + 1 := IntWalk.i64_in _ (by omega)
          obtain ⟨bt, hbt⟩ : ∃ bt, bt = nodeBad t.x := ⟨_, rfl⟩
          have HG := Lib.hid (nodeGood_any t.x HOk.out (w := wr) (c := t.c) HUm.out (by omega))
          rw [← hbt] at HG
          have HBt := Lib.hid hbt
          clear hb ht hc1 hmem hnb hbt
          go_wp2_with (refine wpList_load_midw (by first | rfl | go_simp) 50 (.tmp 36) rfl b (off + k * 99) rfl t.cells _ HC.out Try.underlying50 rfl (by rw [HLen.out]; exact infoNode) ?_)
          refine HG.out.mono ?_
          rintro e w2 ⟨rfl, hb2⟩
          have HB2 := Lib.hid (HB.out.trans (hb2.mono hszr))
          clear hb2
          cases bt with
          | true =>
            go_wp2_with fail
            go_ret
            refine ⟨?_, HB2.out⟩
            have e : nodesBad ts = true := nodesBad_take ts (k + 1) (by rw [nodesBad_succ ts k t HT.out, ← HBt.out]; simp)
            rw [HQ.out, treeBad, e]; simp
          | false =>
            go_wp2_with fail
            exact ⟨⟨k + 1, by omega, by congr 1, by rw [nodesBad_succ ts k t HT.out, ← HBt.out, HNb.out]; rfl, HB2.out⟩, by show n - ((k : Int) + 1).toNat < n - (k : Int).toNat; omega⟩
        · obtain rfl : k = n := by omega
          clear hb hnb
          go_wp2_with fail
          go_ret
          refine ⟨?_, HB.out⟩
          have e : ts.take k = ts := List.take_of_length_le (by rw [HN.out]; omega)
          have h := HNb.out
          rw [e] at h
          rw [HQ.out, treeBad, HN.out, h, HWh.out]; rfl
    · have hf1 : ((n : Int) != 1) = true := by simp; omega
      have hf3 : ((n : Int) != 3) = true := by simp; omega
      have hf7 : ((n : Int) != 7) = true := by simp; omega
      have hf15 : ((n : Int) != 15) = true := by simp; omega
      have hf31 : ((n : Int) != 31) = false := by simp; omega
      have hf63 : ((n : Int) != 63) = true := by simp; omega
      have hy : n ≤ 300 := by omega
      clear h
      go_enter Try.func68, Try.ntmps68
      go_wp2_with fail
      clear hf1 hf3 hf7 hf15 hf31 hf63
      go_loopw [4] (fun iv wr => ∃ k : Nat, k ≤ n ∧ iv = .int .i64 (k : Int) ∧ nodesBad (ts.take k) = false ∧ Below w.heap.size w wr) (fun iv _ => n - (intOf iv).toNat)
      case atStart => exact ⟨0, by omega, rfl, rfl, Below.refl _ _⟩
      case round =>
        obtain ⟨k, hk, rfl, hnb, hb⟩ := hrel
        have HB := Lib.hid hb
        have HNb := Lib.hid hnb
        have hszr := hb.size
        by_cases hlt : k < n
        · have hlt' : (k : Int) < (n : Int) := by omega
          obtain ⟨t, ht⟩ : ∃ t, ts[k]? = some t := ⟨ts[k]'(by rw [HN.out]; omega), List.getElem?_eq_getElem _⟩
          obtain ⟨b, off, e1, hbb, hc1⟩ := (HR.out.below (hb.mono hB)).elem ht
          subst e1
          have HT := Lib.hid ht
          have HC := Lib.hid hc1
          have hmem := List.mem_of_getElem? ht
          have HOk := Lib.hid (HR.out.ok t hmem)
          have HUm := Lib.hid ((HR.out.um t hmem).below (hb.mono hB))
          have HLen := Lib.hid (show t.cells.length = 99 from nodeC_len HOk.out t.A t.c)
          have hw1 : IntKind.i64.wrap ((k : Int) + 1) = (k : Int) + 1 := IntWalk.i64_in _ (by omega)
          obtain ⟨bt, hbt⟩ : ∃ bt, bt = nodeBad t.x := ⟨_, rfl⟩
          have HG := Lib.hid (nodeGood_any t.x HOk.out (w := wr) (c := t.c) HUm.out (by omega))
          rw [← hbt] at HG
          have HBt := Lib.hid hbt
          clear hb ht hc1 hmem hnb hbt
          go_wp2_with (refine wpList_load_midw (by first | rfl | go_simp) 50 (.tmp 36) rfl b (off + k * 99) rfl t.cells _ HC.out Try.underlying50 rfl (by rw [HLen.out]; exact infoNode) ?_)
          refine HG.out.mono ?_
          rintro e w2 ⟨rfl, hb2⟩
          have HB2 := Lib.hid (HB.out.trans (hb2.mono hszr))
          clear hb2
          cases bt with
          | true =>
            go_wp2_with fail
            go_ret
            refine ⟨?_, HB2.out⟩
            have e : nodesBad ts = true := nodesBad_take ts (k + 1) (by rw [nodesBad_succ ts k t HT.out, ← HBt.out]; simp)
            rw [HQ.out, treeBad, e]; simp
          | false =>
            go_wp2_with fail
            exact ⟨⟨k + 1, by omega, by congr 1, by rw [nodesBad_succ ts k t HT.out, ← HBt.out, HNb.out]; rfl, HB2.out⟩, by show n - ((k : Int) + 1).toNat < n - (k : Int).toNat; omega⟩
        · obtain rfl : k = n := by omega
          clear hb hnb
          go_wp2_with fail
          go_ret
          refine ⟨?_, HB.out⟩
          have e : ts.take k = ts := List.take_of_length_le (by rw [HN.out]; omega)
          have h := HNb.out
          rw [e] at h
          rw [HQ.out, treeBad, HN.out, h, HWh.out]; rfl
    · have hf1 : ((n : Int) != 1) = true := by simp; omega
      have hf3 : ((n : Int) != 3) = true := by simp; omega
      have hf7 : ((n : Int) != 7) = true := by simp; omega
      have hf15 : ((n : Int) != 15) = true := by simp; omega
      have hf31 : ((n : Int) != 31) = true := by simp; omega
      have hf63 : ((n : Int) != 63) = false := by simp; omega
      have hy : n ≤ 300 := by omega
      clear h
      go_enter Try.func68, Try.ntmps68
      go_wp2_with fail
      clear hf1 hf3 hf7 hf15 hf31 hf63
      go_loopw [4] (fun iv wr => ∃ k : Nat, k ≤ n ∧ iv = .int .i64 (k : Int) ∧ nodesBad (ts.take k) = false ∧ Below w.heap.size w wr) (fun iv _ => n - (intOf iv).toNat)
      case atStart => exact ⟨0, by omega, rfl, rfl, Below.refl _ _⟩
      case round =>
        obtain ⟨k, hk, rfl, hnb, hb⟩ := hrel
        have HB := Lib.hid hb
        have HNb := Lib.hid hnb
        have hszr := hb.size
        by_cases hlt : k < n
        · have hlt' : (k : Int) < (n : Int) := by omega
          obtain ⟨t, ht⟩ : ∃ t, ts[k]? = some t := ⟨ts[k]'(by rw [HN.out]; omega), List.getElem?_eq_getElem _⟩
          obtain ⟨b, off, e1, hbb, hc1⟩ := (HR.out.below (hb.mono hB)).elem ht
          subst e1
          have HT := Lib.hid ht
          have HC := Lib.hid hc1
          have hmem := List.mem_of_getElem? ht
          have HOk := Lib.hid (HR.out.ok t hmem)
          have HUm := Lib.hid ((HR.out.um t hmem).below (hb.mono hB))
          have HLen := Lib.hid (show t.cells.length = 99 from nodeC_len HOk.out t.A t.c)
          have hw1 : IntKind.i64.wrap ((k : Int) + 1) = (k : Int) + 1 := IntWalk.i64_in _ (by omega)
          obtain ⟨bt, hbt⟩ : ∃ bt, bt = nodeBad t.x := ⟨_, rfl⟩
          have HG := Lib.hid (nodeGood_any t.x HOk.out (w := wr) (c := t.c) HUm.out (by omega))
          rw [← hbt] at HG
          have HBt := Lib.hid hbt
          clear hb ht hc1 hmem hnb hbt
          go_wp2_with (refine wpList_load_midw (by first | rfl | go_simp) 50 (.tmp 36) rfl b (off + k * 99) rfl t.cells _ HC.out Try.underlying50 rfl (by rw [HLen.out]; exact infoNode) ?_)
          refine HG.out.mono ?_
          rintro e w2 ⟨rfl, hb2⟩
          have HB2 := Lib.hid (HB.out.trans (hb2.mono hszr))
          clear hb2
          cases bt with
          | true =>
            go_wp2_with fail
            go_ret
            refine ⟨?_, HB2.out⟩
            have e : nodesBad ts = true := nodesBad_take ts (k + 1) (by rw [nodesBad_succ ts k t HT.out, ← HBt.out]; simp)
            rw [HQ.out, treeBad, e]; simp
          | false =>
            go_wp2_with fail
            exact ⟨⟨k + 1, by omega, by congr 1, by rw [nodesBad_succ ts k t HT.out, ← HBt.out, HNb.out]; rfl, HB2.out⟩, by show n - ((k : Int) + 1).toNat < n - (k : Int).toNat; omega⟩
        · obtain rfl : k = n := by omega
          clear hb hnb
          go_wp2_with fail
          go_ret
          refine ⟨?_, HB.out⟩
          have e : ts.take k = ts := List.take_of_length_le (by rw [HN.out]; omega)
          have h := HNb.out
          rw [e] at h
          rw [HQ.out, treeBad, HN.out, h, HWh.out]; rfl
  · have hf1 : ((n : Int) != 1) = true := by unfold wholeB at hwh; simp at hwh ⊢; omega
    have hf3 : ((n : Int) != 3) = true := by unfold wholeB at hwh; simp at hwh ⊢; omega
    have hf7 : ((n : Int) != 7) = true := by unfold wholeB at hwh; simp at hwh ⊢; omega
    have hf15 : ((n : Int) != 15) = true := by unfold wholeB at hwh; simp at hwh ⊢; omega
    have hf31 : ((n : Int) != 31) = true := by unfold wholeB at hwh; simp at hwh ⊢; omega
    have hf63 : ((n : Int) != 63) = true := by unfold wholeB at hwh; simp at hwh ⊢; omega
    have e : wholeB n = false := by simpa using hwh
    have HE := Lib.hid e
    clear hwh e
    go_enter Try.func68, Try.ntmps68
    go_wp2_with fail
    go_ret
    refine ⟨?_, Below.refl _ _⟩
    rw [HQ.out, treeBad, HN.out, HE.out]; simp

theorem nodesB_len {ts : List TN} (h : ∀ t ∈ ts, t.x.Ok) (h2 : ∀ t ∈ ts, t.x.um.length ≤ 300) : (nodesB ts).length ≤ ts.length * 400 := by
  unfold nodesB
  induction ts with
  | nil => simp
  | cons t ts ih =>
    rw [List.flatMap_cons, List.length_append, nodeB_len (h t (by simp)), List.length_cons, Nat.add_mul]
    have := ih (fun x hx => h x (by simp [hx])) (fun x hx => h2 x (by simp [hx]))
    have := h2 t (by simp)
    omega
set_option maxRecDepth 100000 in
set_option maxHeartbeats 2000000 in
theorem refTree_any {w : World} {B : Nat} {A : Option Addr} {n c : Nat} {ts : List TN} (hr : RdT w B A ts) (hB : B ≤ w.heap.size) (hn : ts.length = n) (hy : n ≤ 300) (hu : ∀ t ∈ ts, t.x.um.length ≤ 300) :
    Calls Try.prog 69 #[.slice A n c] w fun e w' => ∃ v, e = .returned v ∧ Own b8 w' w.heap.size 5 v (treeB ts) ∧ Below w.heap.size w w' := by
  obtain ⟨i0, hi0, hz0, hz1, hz2⟩ := info_parts infoU8
  have HR := Lib.hid hr
  have HN := Lib.hid hn
  have HU := Lib.hid hu
  have hf := beAt0 (n : Int)
  have HL0 := Lib.hid (show Own b8 (w.alloc (.cells #[.int .u8 (bv (beAt (n : Int) 0))] 5)) w.heap.size 5 (.slice (some ⟨w.heap.size, 0, none⟩) 1 1) [beAt (n : Int) 0] from Own.lit b8 w w.heap.size 5 [beAt (n : Int) 0] (Nat.le_refl _) (by simp [maxLen]))
  have HB0 := Lib.hid ((Below.refl w.heap.size w).alloc (Nat.le_refl _) (.cells #[.int .u8 (bv (beAt (n : Int) 0))] 5))
  clear hr hn hu
  go_enter Try.func69, Try.ntmps69
  go_wp2_with fail
  go_loopw [3, 4] (fun rv iv wr => ∃ k : Nat, k ≤ n ∧ iv = .int .i64 (k : Int) ∧ Own b8 wr w.heap.size 5 rv ([beAt (n : Int) 0] ++ nodesB (ts.take k)) ∧ Below w.heap.size w wr) (fun _ iv _ => n - (intOf iv).toNat)
  case atStart => exact ⟨0, by omega, rfl, HL0.out.cast (by simp [nodesB]), HB0.out⟩
  case round =>
    obtain ⟨k, hk, rfl, ho, hb⟩ := hrel
    have HB := Lib.hid hb
    have HO := Lib.hid ho
    have hszr := hb.size
    by_cases hlt : k < n
    · have hlt' : (k : Int) < (n : Int) := by omega
      obtain ⟨t, ht⟩ : ∃ t, ts[k]? = some t := ⟨ts[k]'(by rw [HN.out]; omega), List.getElem?_eq_getElem _⟩
      obtain ⟨b, off, e1, hbb, hc1⟩ := (HR.out.below (hb.mono hB)).elem ht
      subst e1
      have HT := Lib.hid ht
      have HC := Lib.hid hc1
      have hmem := List.mem_of_getElem? ht
      have HOk := Lib.hid (HR.out.ok t hmem)
      have HUm := Lib.hid ((HR.out.um t hmem).below (hb.mono hB))
      have HLen := Lib.hid (show t.cells.length = 99 from nodeC_len HOk.out t.A t.c)
      have hw1 : IntKind.i64.wrap ((k : Int) + 1) = (k : Int) + 1 := IntWalk.i64_in _ (by omega)
      have hul := HU.out t hmem
      have HG := Lib.hid (refNode_any t.x HOk.out (w := wr) (c := t.c) HUm.out (by omega) (by omega))
      have hkl : (nodesB (ts.take k)).length ≤ 120000 := by
        have h1 := nodesB_len (ts := ts.take k) (fun x hx => HR.out.ok x (List.mem_of_mem_take hx)) (fun x hx => HU.out x (List.mem_of_mem_take hx))
        rw [List.length_take] at h1
        have h2 : min k ts.length * 400 ≤ 300 * 400 := Nat.mul_le_mul_right _ (by omega)
        omega
      have HOl := Lib.hid (show ([beAt (n : Int) 0] ++ nodesB (ts.take k)).length ≤ 120001 by rw [List.length_append]; simp; omega)
      clear hb ht hc1 hmem ho
      go_wp2_with (refine wpList_load_midw (by first | rfl | go_simp) 50 (.tmp 18) rfl b (off + k * 99) rfl t.cells _ HC.out Try.underlying50 rfl (by rw [HLen.out]; exact infoNode) ?_)
      refine HG.out.mono ?_
      rintro e w2 ⟨v2, rfl, ho2, hb2⟩
      have HB2 := Lib.hid (HB.out.trans (hb2.mono hszr))
      obtain ⟨A2, c2, rfl, hr2, -, -, -⟩ := ho2.shape' (nodeB_len HOk.out)
      have HR2 := Lib.hid hr2
      have HO12 := Lib.hid (HO.out.below hb2 (Nat.le_refl _))
      have hsz2 := HB2.out.size
      clear hb2 ho2 hr2
      go_wp2_with (at_builtin; refine wpList_append_rd rfl (.tmp 15) (.tmp 20) 24 rfl b8_one w.heap.size 5 i0 _ 1 Try.underlying24 hi0 hz0 hz1 hz2 rfl _ _ rfl HO12.out w2.heap.size A2 (99 + t.x.um.length) c2 (nodeB t.x) rfl (nodeB_len HOk.out).symm HR2.out (by rw [nodeB_len HOk.out]; have := HOl.out; simp only [maxLen]; omega) (by rw [nodeB_len HOk.out]; have := HOl.out; omega) (by omega) ?_; intro v3 w3 hown3 hg3 hbb3; have HO3 := Lib.hid hown3; have HB3 := Lib.hid (hbb3 _ _ (Nat.le_refl _) HB2.out); clear hown3 hg3 hbb3)
      refine ⟨⟨k + 1, by omega, rfl, HO3.out.cast ?_, HB3.out⟩, by show n - ((k : Int) + 1).toNat < n - (k : Int).toNat; omega⟩
      rw [nodesB_succ ts k t HT.out, List.append_assoc]
    · obtain rfl : k = n := by omega
      clear hb ho
      go_wp2_with fail
      go_ret
      have e : ts.take k = ts := List.take_of_length_le (by rw [HN.out]; omega)
      have h := HO.out
      rw [e] at h
      exact ⟨_, rfl, h.cast (by rw [treeB, HN.out]; simp [be]), HB.out⟩
set_option maxRecDepth 100000 in
set_option maxHeartbeats 2000000 in
theorem refPutTree_any {w : World} {B : Nat} {A : Option Addr} {n c : Nat} {ts : List TN} (hr : RdT w B A ts) (hB : B ≤ w.heap.size) (hn : ts.length = n) (hy : n ≤ 300) (hu : ∀ t ∈ ts, t.x.um.length ≤ 300) :
    Calls Try.prog 27 #[.slice A n c] w fun e w' => ∃ v, e = .returned (.tuple #[v, .bool (!(treeBad ts || decide (65536 < (treeB ts).length)))]) ∧ Own b8 w' w.heap.size 5 v (if (treeBad ts || decide (65536 < (treeB ts).length)) then [] else treeB ts) ∧ Below w.heap.size w w' := by
  have HG := Lib.hid (treeGood_any (c := c) hr hB hn (by omega))
  have HTr := Lib.hid (fun W (hb : Below w.heap.size w W) => refTree_any (c := c) (hr.below (hb.mono hB)) (by have := hb.size; omega) hn hy hu)
  obtain ⟨q, hq⟩ : ∃ q, q = treeBad ts := ⟨_, rfl⟩
  rw [← hq] at HG ⊢
  obtain ⟨N, hN⟩ : ∃ N, N = (treeB ts).length := ⟨_, rfl⟩
  rw [← hN]
  have HNl := Lib.hid hN
  clear hr hn hu hq hN
  cases q with
  | true =>
    go_enter Try.func27, Try.ntmps27
    go_wp2_with fail
    refine HG.out.mono ?_
    rintro e w1 ⟨rfl, hb1⟩
    have HB1 := Lib.hid hb1
    clear hb1
    go_wp2_with fail
    go_ret2
    exact ⟨_, rfl, Own.nil_ _ _ _ _, HB1.out⟩
  | false =>
    by_cases hbig : 65536 < N
    · rw [show decide (65536 < N) = true by simp [hbig]]
      go_enter Try.func27, Try.ntmps27
      go_wp2_with fail
      refine HG.out.mono ?_
      rintro e w1 ⟨rfl, hb1⟩
      have HB1 := Lib.hid hb1
      have hz1 := hb1.size
      clear hb1
      go_wp2_with fail
      refine (HTr.out w1 HB1.out).mono ?_
      rintro e w2 ⟨v2, rfl, ho2, hb2⟩
      have HB2 := Lib.hid (HB1.out.trans (hb2.mono hz1))
      obtain ⟨A2, c2, rfl, hr2, -, -, -⟩ := ho2.shape' HNl.out.symm
      have HO2 := Lib.hid (ho2.less hz1)
      clear ho2 hb2 hr2
      go_wp2_with fail
      refine (fits_big A2 N c2 w2 hbig).mono ?_
      rintro e w3 ⟨rfl, rfl⟩
      go_wp2_with fail
      go_ret2
      exact ⟨_, rfl, Own.nil_ _ _ _ _, HB2.out⟩
    · rw [show decide (65536 < N) = false by simp; omega]
      go_enter Try.func27, Try.ntmps27
      go_wp2_with fail
      refine HG.out.mono ?_
      rintro e w1 ⟨rfl, hb1⟩
      have HB1 := Lib.hid hb1
      have hz1 := hb1.size
      clear hb1
      go_wp2_with fail
      refine (HTr.out w1 HB1.out).mono ?_
      rintro e w2 ⟨v2, rfl, ho2, hb2⟩
      have HB2 := Lib.hid (HB1.out.trans (hb2.mono hz1))
      obtain ⟨A2, c2, rfl, hr2, -, -, -⟩ := ho2.shape' HNl.out.symm
      have HO2 := Lib.hid (ho2.less hz1)
      clear ho2 hb2 hr2
      go_wp2_with fail
      refine (fits_ok A2 N c2 w2 hbig).mono ?_
      rintro e w3 ⟨rfl, rfl⟩
      go_wp2_with fail
      go_ret2
      exact ⟨_, rfl, HO2.out, HB2.out⟩
end Go.Proofs.Ytloglpamnalmeaa
