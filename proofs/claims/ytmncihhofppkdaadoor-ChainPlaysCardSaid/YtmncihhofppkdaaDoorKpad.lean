/- CONTRACT: kdf.padded. -/
import Derived.Test.YtmncihhofppkdaaDoorShaL
import Derived.Laws.CopyOwn
namespace Go.Proofs.YtmncihhofppkdaaDoor
open Go.RowKit
set_option linter.unusedVariables false
set_option linter.unusedSimpArgs false

def keyB (key : List (BitVec 8)) : List (BitVec 8) := if 64 < key.length then sum32 key else key
theorem keyB_le (key : List (BitVec 8)) : (keyB key).length ≤ 64 := by
  unfold keyB
  split
  · rw [sum32_len]; omega
  · omega
def kfill (kk : List (BitVec 8)) : List (BitVec 8) := kk ++ List.replicate (64 - kk.length) 0#8
theorem kfill_len (kk : List (BitVec 8)) (h : kk.length ≤ 64) : (kfill kk).length = 64 := by
  unfold kfill; rw [List.length_append, List.length_replicate]; omega
def kpad (key : List (BitVec 8)) (x : BitVec 8) : List (BitVec 8) := (kfill (keyB key)).map (· ^^^ x)
theorem kpad_len (key : List (BitVec 8)) (x : BitVec 8) : (kpad key x).length = 64 := by
  unfold kpad; rw [List.length_map, kfill_len _ (keyB_le key)]
def xorTo (l : List (BitVec 8)) (x : BitVec 8) (k : Nat) : List (BitVec 8) := (l.take k).map (· ^^^ x) ++ l.drop k
theorem xorTo_len (l : List (BitVec 8)) (x : BitVec 8) (k : Nat) : (xorTo l x k).length = l.length := by
  unfold xorTo; rw [List.length_append, List.length_map, ← List.length_append, List.take_append_drop]
theorem xorTo_at (l : List (BitVec 8)) (x : BitVec 8) (k : Nat) (hk : k < l.length) : (xorTo l x k).getD k 0#8 = l.getD k 0#8 := by
  unfold xorTo
  rw [List.getD, List.getElem?_append_right (by rw [List.length_map, List.length_take]; omega), List.length_map, List.length_take, Nat.min_eq_left (by omega), Nat.sub_self, List.getElem?_drop]; rfl
theorem xorTo_set (l : List (BitVec 8)) (x : BitVec 8) (k : Nat) (hk : k < l.length) : (xorTo l x k).set k (l.getD k 0#8 ^^^ x) = xorTo l x (k + 1) := by
  have hl : ((l.take k).map (· ^^^ x)).length = k := by rw [List.length_map, List.length_take]; omega
  unfold xorTo
  rw [List.set_append_right _ _ (by omega), hl, Nat.sub_self, List.take_succ_eq_append_getElem hk, List.map_append, List.append_assoc]
  have e : l.getD k 0#8 = l[k] := by simp [List.getD, List.getElem?_eq_getElem hk]
  rw [List.drop_eq_getElem_cons hk, List.set_cons_zero, e]
  rfl
theorem xorTo_all (l : List (BitVec 8)) (x : BitVec 8) (k : Nat) (hk : l.length ≤ k) : xorTo l x k = l.map (· ^^^ x) := by
  unfold xorTo; rw [List.take_of_length_le hk, List.drop_of_length_le hk, List.append_nil]
/-- a row without spare room is a block known whole -/
theorem own_arr {α : Type} {f : α → Value} {w : World} {B E g n : Nat} {xs : List α} (h : Own f w B E (.slice (some ⟨g, 0, none⟩) n n) xs) : Arr f w g E xs := by
  have hn := h.len
  rcases h.2 with ⟨e, _⟩ | ⟨g', cap, cur, e, hb, hg, hnc, hcm, hs, ht⟩
  · cases e
  · injection e with e1 e2 e3
    injection e1 with e1
    injection e1 with e1
    subst e1; subst e3
    unfold Arr
    rw [hg]
    congr 2
    apply Array.ext'
    rw [List.take_of_length_le (by rw [Array.length_toList, hs, hn]; exact Nat.le_refl _)] at ht
    rw [ht]
theorem arr_own {α : Type} {f : α → Value} {w : World} {B E g n : Nat} {xs : List α} (h : Arr f w g E xs) (hn : n = xs.length) (hB : B ≤ g) (hm : n ≤ maxLen) : Own f w B E (.slice (some ⟨g, 0, none⟩) n n) xs := by
  subst hn
  exact ⟨by simp, .inr ⟨g, xs.length, _, rfl, hB, h, Nat.le_refl _, hm, by simp, by rw [List.take_of_length_le (by simp)]⟩⟩
theorem splice_fill' (kk : List (BitVec 8)) (m : Nat) : splice ((List.replicate m 0#8).map b8) 0 (kk.map b8) = (kk ++ List.replicate (m - kk.length) 0#8).map b8 := by
  unfold splice
  simp [List.drop_replicate]
theorem splice_fill (kk : List (BitVec 8)) (h : kk.length ≤ 64) : splice ((List.replicate 64 0#8).map b8) 0 (kk.map b8) = (kfill kk).map b8 := splice_fill' kk 64
theorem sizeU8 : (Tryd.prog.info? 5).map (·.size) = some 1 := by kernel_rfl
set_option maxRecDepth 100000 in
set_option maxHeartbeats 1000000 in
theorem kpad_small (w : World) (B n c : Nat) (A : Option Addr) (key : List (BitVec 8)) (x : BitVec 8) (hr : Rd b8 w B A key) (hB : B ≤ w.heap.size) (hn : n = key.length) (hs : n ≤ 64) :
    Calls Tryd.prog 74 #[.slice A n c, .int .u8 (bv x)] w fun e w' => ∃ v, e = .returned v ∧ Own b8 w' w.heap.size 5 v (kpad key x) ∧ Below w.heap.size w w' := by
  obtain ⟨i0, hi0, hz0, hz1, hz2⟩ := info_parts infoU8
  have HR := Lib.hid hr
  have HKn := Lib.hid hn
  have HKl := Lib.hid (show key.length ≤ 64 by omega)
  have HKb := Lib.hid (show keyB key = key from if_neg (by omega))
  clear hr hn
  go_enter Tryd.func74, Tryd.ntmps74
  go_wp2_with (first
    | (refine wpList_make_full _ rfl (.const (.int .i64 64)) (.const (.int .i64 64)) 30 rfl w.heap.size 5 i0 _ 1 Tryd.underlying30 hi0 hz0 hz1 .i64 .i64 64 64 64 rfl rfl rfl rfl (by rw [hz2]; omega) (by simp [maxLen]) (by omega) ?_; intro w3 hown3 hg3; have HO3 := Lib.hid (own_arr (own_zeros' hown3)); have HG3 := Lib.hid (show Below w.heap.size w w3 from (Below.refl w.heap.size w).grown hg3 (by omega) (fun k e => by cases e)); have HR3 := Lib.hid (show Rd b8 w3 B A key from (HR.out).grown hg3 hB (fun a e => by simp)); have hs3 := hg3.size; clear hown3 hg3)
    | (refine wpList_copy_splice (o := ⟨some 18, _, _, _, _, _⟩) rfl (.tmp 16) (.tmp 17) 30 30 rfl 5 Tryd.underlying30 sizeU8 (some ⟨w.heap.size, 0, none⟩) A 64 64 n c rfl rfl w.heap.size 0 ((List.replicate 64 0#8).map b8) 5 HO3.out ((key).map b8) (by rw [List.length_map, ← HKn.out]; exact (Nat.min_eq_left (by have := HKl.out; have := HKn.out; omega)).symm) (fun hp => ⟨rfl, by obtain ⟨b', off', e', hb', hc'⟩ := HR3.out (by simpa using hp); exact ⟨_, e', HR3.out.cells e'⟩⟩) (by rw [List.length_map, List.length_map, List.length_replicate]; have := HKl.out; omega) (fun v hv => by obtain ⟨x, -, rfl⟩ := List.mem_map.1 hv; exact b8_one x) w.heap.size w HG3.out (Below.size (Below.refl w.heap.size w)) ?_; intro w4 hx4 hb4; have HX4 := Lib.hid (show Arr b8 w4 w.heap.size 5 (kfill (key)) from by have := hx4.out; rw [splice_fill _ HKl.out] at this; exact this); have HB4 := Lib.hid hb4; clear hx4 hb4))
  have HF := Lib.hid (show Arr b8 w4 w.heap.size 5 (xorTo (kfill (key)) x 0) from HX4.out.cast (by unfold xorTo; simp))
  have HFl := Lib.hid (kfill_len (key) HKl.out)
  clear HX4 HO3 HG3 HR3
  go_loopw [21] (fun v wr => ∃ k : Nat, k ≤ 64 ∧ v = .int .i64 k ∧ Arr b8 wr w.heap.size 5 (xorTo (kfill (key)) x k) ∧ Below w.heap.size w wr) (fun v _ => 64 - (intOf v).toNat)
  case atStart => exact ⟨0, by omega, rfl, HF.out, HB4.out⟩
  case round =>
    clear HF HB4
    obtain ⟨k, hk, rfl, ha, hb⟩ := hrel
    have HA := Lib.hid ha
    have HB := Lib.hid hb
    clear ha hb
    by_cases hlt : k < 64
    · have c1 := HA.out.cellD (k := k) (by rw [xorTo_len, HFl.out]; exact hlt) 0#8
      have f1 := HA.out.frozen k
      have hs := xorTo_set (kfill (key)) x k (by rw [HFl.out]; exact hlt)
      rw [xorTo_at _ _ _ (by rw [HFl.out]; exact hlt)] at c1
      generalize (kfill (key)).getD k 0#8 = y at c1 hs
      simp only [b8] at c1
      have lk : (k : Int) < 64 := by omega
      have Hs := Lib.hid hs
      clear hs
      go_wp2_with fail
      go_roundw
      case rel => exact ⟨k + 1, by omega, by go_num, (HA.out.set_ k (y ^^^ x)).cast Hs.out, HB.out.setCell (p := ⟨w.heap.size, k, none⟩) (Below.size (Below.refl w.heap.size w)) _⟩
      case measure => simp [intOf]; omega
    · obtain rfl : k = 64 := by omega
      rw [show (((64 : Nat)) : Int) = 64 from rfl]
      go_wp2_with fail
      go_ret
      refine ⟨_, rfl, arr_own (HA.out.cast ?_) (by rw [kpad_len]) (Below.size (Below.refl w.heap.size w)) (by simp [maxLen]), HB.out⟩
      rw [xorTo_all _ _ _ (by rw [HFl.out]; exact Nat.le_refl _)]
      unfold kpad
      rw [HKb.out]
set_option maxRecDepth 100000 in
set_option maxHeartbeats 1000000 in
theorem kpad_great (w : World) (B n c : Nat) (A : Option Addr) (key : List (BitVec 8)) (x : BitVec 8) (hr : Rd b8 w B A key) (hB : B ≤ w.heap.size) (hn : n = key.length) (hs : 64 < n) (hbig : n ≤ 50000000) :
    Calls Tryd.prog 74 #[.slice A n c, .int .u8 (bv x)] w fun e w' => ∃ v, e = .returned v ∧ Own b8 w' w.heap.size 5 v (kpad key x) ∧ Below w.heap.size w w' := by
  obtain ⟨i0, hi0, hz0, hz1, hz2⟩ := info_parts infoU8
  obtain ⟨S, hS⟩ : ∃ S, S = sum32 key := ⟨_, rfl⟩
  have hsh := short_one w B n c A key hr hB hn (by omega)
  rw [← hS, arrV_mk] at hsh
  have hSl : S.length = 32 := by rw [hS, sum32_len]
  have HSh := Lib.hid hsh
  have HKl := Lib.hid (show S.length ≤ 64 by omega)
  have HKn := Lib.hid (show 32 = S.length by omega)
  have HKb := Lib.hid (show keyB key = S by unfold keyB; rw [if_pos (by omega), hS])
  clear hr hn hsh hS hSl
  go_enter Tryd.func74, Tryd.ntmps74
  go_wp2_with fail
  refine HSh.out.mono ?_
  rintro e w1 ⟨rfl, hb1⟩
  have hz1' := hb1.size
  have HB1 := Lib.hid hb1
  have HS0 := Lib.hid (Arr.new b8 w1 23 (List.replicate 32 0#8))
  clear hb1
  go_wp2_with (first
    | (refine wpList_store_arr rfl 23 (.tmp 5) (.tmp 13) rfl w1.heap.size rfl S rfl _ _ HS0.out (by rw [← HKn.out]; rfl) (by rw [size32, HKn.out]) b8_one' ?_; intro w2 hx2 hg2; have HX2 := Lib.hid (hx2.rd 0); have HB2 := Lib.hid ((HB1.out.alloc hz1' (.cells ((List.replicate 32 0#8).map b8).toArray 23)).grown hg2 (by simp; omega) (fun k e => by cases e; exact hz1')); have hz2' : w1.heap.size < w2.heap.size := hx2.lt; clear hx2 hg2 HS0 HB1)
    | (refine wpList_make_full _ rfl (.const (.int .i64 64)) (.const (.int .i64 64)) 30 rfl w.heap.size 5 i0 _ 1 Tryd.underlying30 hi0 hz0 hz1 .i64 .i64 64 64 64 rfl rfl rfl rfl (by rw [hz2]; omega) (by simp [maxLen]) (by omega) ?_; intro w3 hown3 hg3; have HO3 := Lib.hid (own_arr (own_zeros' hown3)); have HG3 := Lib.hid (show Below w.heap.size w w3 from (HB2.out).grown hg3 (by omega) (fun k e => by cases e)); have HR3 := Lib.hid (show Rd b8 w3 (w1.heap.size + 1) (some ⟨w1.heap.size, 0, none⟩) S from (HX2.out).grown hg3 hz2' (fun a e => by simp)); have hs3 := hg3.size; clear hown3 hg3)
    | (refine wpList_copy_splice (o := ⟨some 18, _, _, _, _, _⟩) rfl (.tmp 16) (.tmp 17) 30 30 rfl 5 Tryd.underlying30 sizeU8 (some ⟨w2.heap.size, 0, none⟩) (some ⟨w1.heap.size, 0, none⟩) 64 64 32 32 rfl rfl w2.heap.size 0 ((List.replicate 64 0#8).map b8) 5 HO3.out ((S).map b8) (by rw [List.length_map, ← HKn.out]; exact (Nat.min_eq_left (by have := HKl.out; have := HKn.out; omega)).symm) (fun hp => ⟨rfl, by obtain ⟨b', off', e', hb', hc'⟩ := HR3.out (by simpa using hp); exact ⟨_, e', HR3.out.cells e'⟩⟩) (by rw [List.length_map, List.length_map, List.length_replicate]; have := HKl.out; omega) (fun v hv => by obtain ⟨x, -, rfl⟩ := List.mem_map.1 hv; exact b8_one x) w.heap.size w HG3.out (Below.size (HB2.out)) ?_; intro w4 hx4 hb4; have HX4 := Lib.hid (show Arr b8 w4 w2.heap.size 5 (kfill (S)) from by have := hx4.out; rw [splice_fill _ HKl.out] at this; exact this); have HB4 := Lib.hid hb4; clear hx4 hb4))
  have HF := Lib.hid (show Arr b8 w4 w2.heap.size 5 (xorTo (kfill (S)) x 0) from HX4.out.cast (by unfold xorTo; simp))
  have HFl := Lib.hid (kfill_len (S) HKl.out)
  clear HX4 HO3 HG3 HR3
  go_loopw [21] (fun v wr => ∃ k : Nat, k ≤ 64 ∧ v = .int .i64 k ∧ Arr b8 wr w2.heap.size 5 (xorTo (kfill (S)) x k) ∧ Below w.heap.size w wr) (fun v _ => 64 - (intOf v).toNat)
  case atStart => exact ⟨0, by omega, rfl, HF.out, HB4.out⟩
  case round =>
    clear HF HB4
    obtain ⟨k, hk, rfl, ha, hb⟩ := hrel
    have HA := Lib.hid ha
    have HB := Lib.hid hb
    clear ha hb
    by_cases hlt : k < 64
    · have c1 := HA.out.cellD (k := k) (by rw [xorTo_len, HFl.out]; exact hlt) 0#8
      have f1 := HA.out.frozen k
      have hs := xorTo_set (kfill (S)) x k (by rw [HFl.out]; exact hlt)
      rw [xorTo_at _ _ _ (by rw [HFl.out]; exact hlt)] at c1
      generalize (kfill (S)).getD k 0#8 = y at c1 hs
      simp only [b8] at c1
      have lk : (k : Int) < 64 := by omega
      have Hs := Lib.hid hs
      clear hs
      go_wp2_with fail
      go_roundw
      case rel => exact ⟨k + 1, by omega, by go_num, (HA.out.set_ k (y ^^^ x)).cast Hs.out, HB.out.setCell (p := ⟨w2.heap.size, k, none⟩) (Below.size (HB2.out)) _⟩
      case measure => simp [intOf]; omega
    · obtain rfl : k = 64 := by omega
      rw [show (((64 : Nat)) : Int) = 64 from rfl]
      go_wp2_with fail
      go_ret
      refine ⟨_, rfl, arr_own (HA.out.cast ?_) (by rw [kpad_len]) (Below.size (HB2.out)) (by simp [maxLen]), HB.out⟩
      rw [xorTo_all _ _ _ (by rw [HFl.out]; exact Nat.le_refl _)]
      unfold kpad
      rw [HKb.out]
theorem kpad_any (w : World) (B n c : Nat) (A : Option Addr) (key : List (BitVec 8)) (x : BitVec 8) (hr : Rd b8 w B A key) (hB : B ≤ w.heap.size) (hn : n = key.length) (hbig : n ≤ 50000000) :
    Calls Tryd.prog 74 #[.slice A n c, .int .u8 (bv x)] w fun e w' => ∃ v, e = .returned v ∧ Own b8 w' w.heap.size 5 v (kpad key x) ∧ Below w.heap.size w w' := by
  by_cases h : n ≤ 64
  · exact kpad_small w B n c A key x hr hB hn h
  · exact kpad_great w B n c A key x hr hB hn (by omega) hbig
end Go.Proofs.YtmncihhofppkdaaDoor
