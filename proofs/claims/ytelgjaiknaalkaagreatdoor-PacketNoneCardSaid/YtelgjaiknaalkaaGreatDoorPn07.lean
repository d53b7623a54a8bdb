/- PLAIN LEMMAS: whole arrays loaded and stored inside a fence; arrays of bytes compared. No program, no conditions. -/
import Derived.Test.YtelgjaiknaalkaaGreatDoorPn02
import Derived.Test.YtelgjaiknaalkaaGreatDoorPn06
import Derived.Stop.BytesEq
import Derived.TacticsIn
import Derived.RangeFuncCalls
import Derived.Lib.SlBytesConst
import Derived.Laws.CopyOwn
import Derived.Test.YtelgjaiknaalkaaGreatDoorPn04
import Derived.Test.YtelgjaiknaalkaaGreatDoorPn05
namespace Go.Proofs.YtelgjaiknaalkaaGreatDoor
open Go.RowKit
open Go.Extern.Stop (cell)
attribute [local go_sem] Oper.semAt_some
theorem semAt_exec (ro : Option Nat) (ρ : Operand → Value) (o : Oper) (h : ∀ c, o.op ≠ .defer c) : Oper.semAt ro ρ o = execOp ρ o := by
  cases ro with
  | none => unfold Oper.semAt; rfl
  | some l => exact Oper.semAt_some l ρ o h
section
variable {F : Fence} {n : Nat} {P : Program} {α : Type} {f : α → Value} {ops : Array Oper} {rest : List Oper} {op : Oper} {a : Act} {w : World} {Q : Exit → Act → World → Prop}
theorem wpListIn_load_arr (hgd : Region.wanted op (yielded ops a.tmps) = true) (ty : TypeId) (x : Operand) (ho : op.op = .load ty x)
    (g : Nat) (hx : a.eval x = .pointer (some ⟨g, 0, none⟩)) (T : TypeId) (xs : List α) (hA : Arr f w g T xs) (d : TypeDesc)
    (hu : P.underlying ty = some d) (hd : d.isRow = true) (hi : (P.info? ty).map (·.size) = some xs.length)
    (h : wpListIn F n P ops Q rest (a.put op.dst (.agg (xs.map f).toArray)) w) : wpListIn F n P ops Q (op :: rest) a w := by
  refine wpListIn_step fun K hK => ?_
  rw [if_pos hgd]
  have hl := run_loadVar_mid (P := P) w g 0 ty (xs.map f) d hA.whole hu hd (by rw [hi, List.length_map])
  unfold Oper.wpIn
  refine ⟨fun f' hf' => by simp [Oper.about, ho] at hf', ?_⟩
  rw [semAt_exec _ _ _ (fun c => by rw [ho]; simp)]
  unfold execOp
  simp only [ho, hx, Instr.loadAt, Instr.sureAddr, Sem.run_bind, Sem.run_pure, Result.andThen_ok, hl, Oper.uponIn_value]
  exact hK _ _ h
theorem wpListIn_store_arr (hgd : Region.wanted op (yielded ops a.tmps) = true) (ty : TypeId) (x y : Operand) (ho : op.op = .store ty x y)
    (g : Nat) (hx : a.eval x = .pointer (some ⟨g, 0, none⟩)) (ys : List α) (hy : a.eval y = .agg (ys.map f).toArray) (T : TypeId) (xs : List α) (hA : Arr f w g T xs) (hl : xs.length = ys.length)
    (hi : (P.info? ty).map (·.size) = some ys.length) (h1 : ∀ u, (f u).oneCell' = true)
    (h : ∀ w', Arr f w' g T ys → w.grownBy w' (some g) → wpListIn F n P ops Q rest (a.put op.dst undef) w') : wpListIn F n P ops Q (op :: rest) a w := by
  obtain ⟨h2, h3⟩ := arr_setCells (f := f) ys [] xs w hl hA
  refine wpListIn_step fun K hK => ?_
  rw [if_pos hgd]
  have hs := run_storeVar_mid (P := P) w g 0 ty (ys.map f).toArray (hA.there (by simp [hl])) (by rw [hi]; simp) (all_oneCell_toArray (fun v hv => by obtain ⟨u, _, rfl⟩ := List.mem_map.1 hv; exact h1 u))
  unfold Oper.wpIn
  refine ⟨fun f' hf' => by simp [Oper.about, ho] at hf', ?_⟩
  rw [semAt_exec _ _ _ (fun c => by rw [ho]; simp)]
  unfold execOp
  simp only [ho, hx, hy, Instr.storeAt, Instr.sureAddr, Sem.run_bind, Sem.run_pure, Result.andThen_ok, hs, Oper.uponIn_skip]
  exact hK _ _ (h _ h2 h3)
end
/-- a byte as the library has it -/
def u8 (x : BitVec 8) : UInt8 := UInt8.ofNat x.toNat
theorem map_b8_cell (xs : List (BitVec 8)) : xs.map b8 = (xs.map u8).map cell := by
  rw [List.map_map]
  refine List.map_congr_left fun x _ => ?_
  show Value.int .u8 (bv x) = Value.int .u8 ((u8 x).toNat : Int)
  have : (u8 x).toNat = x.toNat := by
    unfold u8
    rw [UInt8.toNat_ofNat']
    have := x.isLt
    omega
  rw [this]; rfl
theorem u8_beq (xs ys : List (BitVec 8)) : (xs.map u8 == ys.map u8) = (xs == ys) := by
  rw [Bool.eq_iff_iff, beq_iff_eq, beq_iff_eq]
  exact ⟨fun h => map_inj' _ (fun _ _ h => u8_inj h) _ _ h, fun h => by rw [h]⟩
theorem run_neq_b8 {P : Program} (w : World) (t e : TypeId) (n : Nat) (ht : P.underlying t = some (.array n e)) (he : P.underlying e = some (.int .u8)) (hsz : ∀ w, (sizeOf e).run P w = .ok 1 w) (xs ys : List (BitVec 8)) (hx : xs.length = n) (hy : ys.length = n) :
    (binOp .neq t (.agg (xs.map b8).toArray) (.agg (ys.map b8).toArray)).run P w = .ok (.bool (!(xs == ys))) w := by
  rw [map_b8_cell, map_b8_cell, run_neq_struct, run_equalIn_bytes w 9998 t e n ht he hsz (xs.map u8) (ys.map u8) (by simpa using hx) (by simpa using hy), u8_beq]
  rfl
end Go.Proofs.YtelgjaiknaalkaaGreatDoor
namespace Go.Proofs.YtelgjaiknaalkaaGreatDoor
open Go.RowKit
set_option linter.unusedVariables false
set_option linter.unusedSimpArgs false
attribute [local go_sem] Oper.semAt_some

section
variable {gs gk go b c NP bs bn : Nat} {P : List (BitVec 8)} {s : S8 64} {W W' : World}
end
end Go.Proofs.YtelgjaiknaalkaaGreatDoor
namespace Go.Proofs.YtelgjaiknaalkaaGreatDoor
open Go.RowKit
set_option linter.unusedVariables false
set_option linter.unusedSimpArgs false
theorem pts_new (W : World) (B : Nat) (ps : List Pt) (hr : ∀ u ∈ ps, Rd b8 W B u.1.1 u.2) (hl : ∀ u ∈ ps, u.1.2.1 = u.2.length) (hB : B ≤ W.heap.size) : Pts (W.alloc (.cells (ps.map fun u => sl u.1).toArray 28)) B W.heap.size 0 ps :=
  ⟨fun k u hu => by
    rw [Nat.zero_add, cell_of_row _ W.heap.size k _ 28 (0, 0) (heap_alloc_new W _)]
    simp [hu], by simp, fun u hu => (hr u hu).alloc hB _, hl⟩
theorem short_n (W : World) (B n : Nat) (ps : List Pt) (cs : Array Value) (hcs : cs = (ps.map fun u => sl u.1).toArray) (hr : ∀ u ∈ ps, Rd b8 W B u.1.1 u.2) (hl : ∀ u ∈ ps, u.1.2.1 = u.2.length) (hB : B ≤ W.heap.size) (hn : n = ps.length) (hn2 : n ≤ 100000) (xs : List (BitVec 8)) (hxs : xs = ps.flatMap fun p => p.2) (htot : xs.length ≤ 50000000) :
    Calls Tryz.prog 151 #[.slice (some ⟨W.heap.size, 0, none⟩) n n] (W.alloc (.cells cs 28)) fun e w' => e = .returned (arrV b8 (sum32 xs)) ∧ Below W.heap.size W w' := by
  subst hcs
  refine (short_any _ B W.heap.size 0 n n ps (pts_new W B ps hr hl hB) (by simp; omega) hn hn2 xs hxs htot).mono ?_
  rintro e w' ⟨rfl, hb⟩
  exact ⟨rfl, ((Below.refl _ W).alloc (Nat.le_refl _) _).trans (hb.mono (by simp))⟩
theorem short_one (W : World) (B n c : Nat) (A : Option Addr) (xs : List (BitVec 8)) (hr : Rd b8 W B A xs) (hB : B ≤ W.heap.size) (hn : n = xs.length) (htot : xs.length ≤ 50000000) :
    Calls Tryz.prog 151 #[.slice (some ⟨W.heap.size, 0, none⟩) 1 1] (W.alloc (.cells #[.slice A n c] 28)) fun e w' => e = .returned (arrV b8 (sum32 xs)) ∧ Below W.heap.size W w' :=
  short_n W B 1 [((A, n, c), xs)] _ rfl (by simpa using hr) (by simpa using hn) hB rfl (by omega) xs (by simp) htot
theorem sum32_len (xs : List (BitVec 8)) : (sum32 xs).length = 32 := by
  unfold sum32
  generalize Sha.pieces _ _ _ _ = R
  exact out32_len R
end Go.Proofs.YtelgjaiknaalkaaGreatDoor
namespace Go.Proofs.YtelgjaiknaalkaaGreatDoor
open Go.RowKit
set_option linter.unusedVariables false
set_option linter.unusedSimpArgs false
def keyB (key : List (BitVec 8)) : List (BitVec 8) := if 64 < key.length then sum32 key else key
theorem keyB_le (key : List (BitVec 8)) : (keyB key).length ≤ 64 := by
  unfold keyB
  split
  · rw [sum32_len]; omega
  · omega
def kfill (kk : List (BitVec 8)) : List (BitVec 8) := kk ++ List.replicate (64 - kk.length) 0#8
theorem kfill_len (kk : List (BitVec 8)) (h : kk.length ≤ 64) : (kfill kk).length = 64 := by
  unfold kfill; rw [List.length_append, List.length_replicate]; omega
def kpad (key : List (BitVec 8)) (x : BitVec 8) : List (BitVec 8) := (kfill (keyB key)).map (· ^^^ x)
theorem kpad_len (key : List (BitVec 8)) (x : BitVec 8) : (kpad key x).length = 64 := by
  unfold kpad; rw [List.length_map, kfill_len _ (keyB_le key)]
def xorTo (l : List (BitVec 8)) (x : BitVec 8) (k : Nat) : List (BitVec 8) := (l.take k).map (· ^^^ x) ++ l.drop k
theorem xorTo_len (l : List (BitVec 8)) (x : BitVec 8) (k : Nat) : (xorTo l x k).length = l.length := by
  unfold xorTo; rw [List.length_append, List.length_map, ← List.length_append, List.take_append_drop]
theorem xorTo_at (l : List (BitVec 8)) (x : BitVec 8) (k : Nat) (hk : k < l.length) : (xorTo l x k).getD k 0#8 = l.getD k 0#8 := by
  unfold xorTo
  rw [List.getD, List.getElem?_append_right (by rw [List.length_map, List.length_take]; omega), List.length_map, List.length_take, Nat.min_eq_left (by omega), Nat.sub_self, List.getElem?_drop]; rfl
theorem xorTo_set (l : List (BitVec 8)) (x : BitVec 8) (k : Nat) (hk : k < l.length) : (xorTo l x k).set k (l.getD k 0#8 ^^^ x) = xorTo l x (k + 1) := by
  have hl : ((l.take k).map (· ^^^ x)).length = k := by rw [List.length_map, List.length_take]; omega
  unfold xorTo
  rw [List.set_append_right _ _ (by omega), hl, Nat.sub_self, List.take_succ_eq_append_getElem hk, List.map_append, List.append_assoc]
  have e : l.getD k 0#8 = l[k] := by simp [List.getD, List.getElem?_eq_getElem hk]
  rw [List.drop_eq_getElem_cons hk, List.set_cons_zero, e]
  rfl
theorem xorTo_all (l : List (BitVec 8)) (x : BitVec 8) (k : Nat) (hk : l.length ≤ k) : xorTo l x k = l.map (· ^^^ x) := by
  unfold xorTo; rw [List.take_of_length_le hk, List.drop_of_length_le hk, List.append_nil]
/-- a row without spare room is a block known whole -/
theorem own_arr {α : Type} {f : α → Value} {w : World} {B E g n : Nat} {xs : List α} (h : Own f w B E (.slice (some ⟨g, 0, none⟩) n n) xs) : Arr f w g E xs := by
  have hn := h.len
  rcases h.2 with ⟨e, _⟩ | ⟨g', cap, cur, e, hb, hg, hnc, hcm, hs, ht⟩
  · cases e
  · injection e with e1 e2 e3
    injection e1 with e1
    injection e1 with e1
    subst e1; subst e3
    unfold Arr
    rw [hg]
    congr 2
    apply Array.ext'
    rw [List.take_of_length_le (by rw [Array.length_toList, hs, hn]; exact Nat.le_refl _)] at ht
    rw [ht]
theorem arr_own {α : Type} {f : α → Value} {w : World} {B E g n : Nat} {xs : List α} (h : Arr f w g E xs) (hn : n = xs.length) (hB : B ≤ g) (hm : n ≤ maxLen) : Own f w B E (.slice (some ⟨g, 0, none⟩) n n) xs := by
  subst hn
  exact ⟨by simp, .inr ⟨g, xs.length, _, rfl, hB, h, Nat.le_refl _, hm, by simp, by rw [List.take_of_length_le (by simp)]⟩⟩
theorem splice_fill' (kk : List (BitVec 8)) (m : Nat) : splice ((List.replicate m 0#8).map b8) 0 (kk.map b8) = (kk ++ List.replicate (m - kk.length) 0#8).map b8 := by
  unfold splice
  simp [List.drop_replicate]
theorem splice_fill (kk : List (BitVec 8)) (h : kk.length ≤ 64) : splice ((List.replicate 64 0#8).map b8) 0 (kk.map b8) = (kfill kk).map b8 := splice_fill' kk 64
theorem sizeU8 : (Tryz.prog.info? 5).map (·.size) = some 1 := by kernel_rfl
set_option maxRecDepth 100000 in
set_option maxHeartbeats 1000000 in
theorem kpad_small (w : World) (B n c : Nat) (A : Option Addr) (key : List (BitVec 8)) (x : BitVec 8) (hr : Rd b8 w B A key) (hB : B ≤ w.heap.size) (hn : n = key.length) (hs : n ≤ 64) :
    Calls Tryz.prog 149 #[.slice A n c, .int .u8 (bv x)] w fun e w' => ∃ v, e = .returned v ∧ Own b8 w' w.heap.size 5 v (kpad key x) ∧ Below w.heap.size w w' := by
  obtain ⟨i0, hi0, hz0, hz1, hz2⟩ := info_parts infoU8
  have HR := Lib.hid hr
  have HKn := Lib.hid hn
  have HKl := Lib.hid (show key.length ≤ 64 by omega)
  have HKb := Lib.hid (show keyB key = key from if_neg (by omega))
  clear hr hn
  go_enter Tryz.func149, Tryz.ntmps149
  go_wp2_with (first
    | (refine wpList_make_full _ rfl (.const (.int .i64 64)) (.const (.int .i64 64)) 28 rfl w.heap.size 5 i0 _ 1 Tryz.underlying28 hi0 hz0 hz1 .i64 .i64 64 64 64 rfl rfl rfl rfl (by rw [hz2]; omega) (by simp [maxLen]) (by omega) ?_; intro w3 hown3 hg3; have HO3 := Lib.hid (own_arr (own_zeros' hown3)); have HG3 := Lib.hid (show Below w.heap.size w w3 from (Below.refl w.heap.size w).grown hg3 (by omega) (fun k e => by cases e)); have HR3 := Lib.hid (show Rd b8 w3 B A key from (HR.out).grown hg3 hB (fun a e => by simp)); have hs3 := hg3.size; clear hown3 hg3)
    | (refine wpList_copy_splice (o := ⟨some 18, _, _, _, _, _⟩) rfl (.tmp 16) (.tmp 17) 28 28 rfl 5 Tryz.underlying28 sizeU8 (some ⟨w.heap.size, 0, none⟩) A 64 64 n c rfl rfl w.heap.size 0 ((List.replicate 64 0#8).map b8) 5 HO3.out ((key).map b8) (by rw [List.length_map, ← HKn.out]; exact (Nat.min_eq_left (by have := HKl.out; have := HKn.out; omega)).symm) (fun hp => ⟨rfl, by obtain ⟨b', off', e', hb', hc'⟩ := HR3.out (by simpa using hp); exact ⟨_, e', HR3.out.cells e'⟩⟩) (by rw [List.length_map, List.length_map, List.length_replicate]; have := HKl.out; omega) (fun v hv => by obtain ⟨x, -, rfl⟩ := List.mem_map.1 hv; exact b8_one x) w.heap.size w HG3.out (Below.size (Below.refl w.heap.size w)) ?_; intro w4 hx4 hb4; have HX4 := Lib.hid (show Arr b8 w4 w.heap.size 5 (kfill (key)) from by have := hx4.out; rw [splice_fill _ HKl.out] at this; exact this); have HB4 := Lib.hid hb4; clear hx4 hb4))
  have HF := Lib.hid (show Arr b8 w4 w.heap.size 5 (xorTo (kfill (key)) x 0) from HX4.out.cast (by unfold xorTo; simp))
  have HFl := Lib.hid (kfill_len (key) HKl.out)
  clear HX4 HO3 HG3 HR3
  go_loopw [21] (fun v wr => ∃ k : Nat, k ≤ 64 ∧ v = .int .i64 k ∧ Arr b8 wr w.heap.size 5 (xorTo (kfill (key)) x k) ∧ Below w.heap.size w wr) (fun v _ => 64 - (intOf v).toNat)
  case atStart => exact ⟨0, by omega, rfl, HF.out, HB4.out⟩
  case round =>
    clear HF HB4
    obtain ⟨k, hk, rfl, ha, hb⟩ := hrel
    have HA := Lib.hid ha
    have HB := Lib.hid hb
    clear ha hb
    by_cases hlt : k < 64
    · have c1 := HA.out.cellD (k := k) (by rw [xorTo_len, HFl.out]; exact hlt) 0#8
      have f1 := HA.out.frozen k
      have hs := xorTo_set (kfill (key)) x k (by rw [HFl.out]; exact hlt)
      rw [xorTo_at _ _ _ (by rw [HFl.out]; exact hlt)] at c1
      generalize (kfill (key)).getD k 0#8 = y at c1 hs
      simp only [b8] at c1
      have lk : (k : Int) < 64 := by omega
      have Hs := Lib.hid hs
      clear hs
      go_wp2_with fail
      go_roundw
      case rel => exact ⟨k + 1, by omega, by go_num, (HA.out.set_ k (y ^^^ x)).cast Hs.out, HB.out.setCell (p := ⟨w.heap.size, k, none⟩) (Below.size (Below.refl w.heap.size w)) _⟩
      case measure => simp [intOf]; omega
    · obtain rfl : k = 64 := by omega
      rw [show (((64 : Nat)) : Int) = 64 from rfl]
      go_wp2_with fail
      go_ret
      refine ⟨_, rfl, arr_own (HA.out.cast ?_) (by rw [kpad_len]) (Below.size (Below.refl w.heap.size w)) (by simp [maxLen]), HB.out⟩
      rw [xorTo_all _ _ _ (by rw [HFl.out]; exact Nat.le_refl _)]
      unfold kpad
      rw [HKb.out]
set_option maxRecDepth 100000 in
set_option maxHeartbeats 1000000 in
theorem kpad_great (w : World) (B n c : Nat) (A : Option Addr) (key : List (BitVec 8)) (x : BitVec 8) (hr : Rd b8 w B A key) (hB : B ≤ w.heap.size) (hn : n = key.length) (hs : 64 < n) (hbig : n ≤ 50000000) :
    Calls Tryz.prog 149 #[.slice A n c, .int .u8 (bv x)] w fun e w' => ∃ v, e = .returned v ∧ Own b8 w' w.heap.size 5 v (kpad key x) ∧ Below w.heap.size w w' := by
  obtain ⟨i0, hi0, hz0, hz1, hz2⟩ := info_parts infoU8
  obtain ⟨S, hS⟩ : ∃ S, S = sum32 key := ⟨_, rfl⟩
  have hsh := short_one w B n c A key hr hB hn (by omega)
  rw [← hS, arrV_mk] at hsh
  have hSl : S.length = 32 := by rw [hS, sum32_len]
  have HSh := Lib.hid hsh
  have HKl := Lib.hid (show S.length ≤ 64 by omega)
  have HKn := Lib.hid (show 32 = S.length by omega)
  have HKb := Lib.hid (show keyB key = S by unfold keyB; rw [if_pos (by omega), hS])
  clear hr hn hsh hS hSl
  go_enter Tryz.func149, Tryz.ntmps149
  go_wp2_with fail
  refine HSh.out.mono ?_
  rintro e w1 ⟨rfl, hb1⟩
  have hz1' := hb1.size
  have HB1 := Lib.hid hb1
  have HS0 := Lib.hid (Arr.new b8 w1 23 (List.replicate 32 0#8))
  clear hb1
  go_wp2_with (first
    | (refine wpList_store_arr rfl 23 (.tmp 5) (.tmp 13) rfl w1.heap.size rfl S rfl _ _ HS0.out (by rw [← HKn.out]; rfl) (by rw [size32, HKn.out]) b8_one' ?_; intro w2 hx2 hg2; have HX2 := Lib.hid (hx2.rd 0); have HB2 := Lib.hid ((HB1.out.alloc hz1' (.cells ((List.replicate 32 0#8).map b8).toArray 23)).grown hg2 (by simp; omega) (fun k e => by cases e; exact hz1')); have hz2' : w1.heap.size < w2.heap.size := hx2.lt; clear hx2 hg2 HS0 HB1)
    | (refine wpList_make_full _ rfl (.const (.int .i64 64)) (.const (.int .i64 64)) 28 rfl w.heap.size 5 i0 _ 1 Tryz.underlying28 hi0 hz0 hz1 .i64 .i64 64 64 64 rfl rfl rfl rfl (by rw [hz2]; omega) (by simp [maxLen]) (by omega) ?_; intro w3 hown3 hg3; have HO3 := Lib.hid (own_arr (own_zeros' hown3)); have HG3 := Lib.hid (show Below w.heap.size w w3 from (HB2.out).grown hg3 (by omega) (fun k e => by cases e)); have HR3 := Lib.hid (show Rd b8 w3 (w1.heap.size + 1) (some ⟨w1.heap.size, 0, none⟩) S from (HX2.out).grown hg3 hz2' (fun a e => by simp)); have hs3 := hg3.size; clear hown3 hg3)
    | (refine wpList_copy_splice (o := ⟨some 18, _, _, _, _, _⟩) rfl (.tmp 16) (.tmp 17) 28 28 rfl 5 Tryz.underlying28 sizeU8 (some ⟨w2.heap.size, 0, none⟩) (some ⟨w1.heap.size, 0, none⟩) 64 64 32 32 rfl rfl w2.heap.size 0 ((List.replicate 64 0#8).map b8) 5 HO3.out ((S).map b8) (by rw [List.length_map, ← HKn.out]; exact (Nat.min_eq_left (by have := HKl.out; have := HKn.out; omega)).symm) (fun hp => ⟨rfl, by obtain ⟨b', off', e', hb', hc'⟩ := HR3.out (by simpa using hp); exact ⟨_, e', HR3.out.cells e'⟩⟩) (by rw [List.length_map, List.length_map, List.length_replicate]; have := HKl.out; omega) (fun v hv => by obtain ⟨x, -, rfl⟩ := List.mem_map.1 hv; exact b8_one x) w.heap.size w HG3.out (Below.size (HB2.out)) ?_; intro w4 hx4 hb4; have HX4 := Lib.hid (show Arr b8 w4 w2.heap.size 5 (kfill (S)) from by have := hx4.out; rw [splice_fill _ HKl.out] at this; exact this); have HB4 := Lib.hid hb4; clear hx4 hb4))
  have HF := Lib.hid (show Arr b8 w4 w2.heap.size 5 (xorTo (kfill (S)) x 0) from HX4.out.cast (by unfold xorTo; simp))
  have HFl := Lib.hid (kfill_len (S) HKl.out)
  clear HX4 HO3 HG3 HR3
  go_loopw [21] (fun v wr => ∃ k : Nat, k ≤ 64 ∧ v = .int .i64 k ∧ Arr b8 wr w2.heap.size 5 (xorTo (kfill (S)) x k) ∧ Below w.heap.size w wr) (fun v _ => 64 - (intOf v).toNat)
  case atStart => exact ⟨0, by omega, rfl, HF.out, HB4.out⟩
  case round =>
    clear HF HB4
    obtain ⟨k, hk, rfl, ha, hb⟩ := hrel
    have HA := Lib.hid ha
    have HB := Lib.hid hb
    clear ha hb
    by_cases hlt : k < 64
    · have c1 := HA.out.cellD (k := k) (by rw [xorTo_len, HFl.out]; exact hlt) 0#8
      have f1 := HA.out.frozen k
      have hs := xorTo_set (kfill (S)) x k (by rw [HFl.out]; exact hlt)
      rw [xorTo_at _ _ _ (by rw [HFl.out]; exact hlt)] at c1
      generalize (kfill (S)).getD k 0#8 = y at c1 hs
      simp only [b8] at c1
      have lk : (k : Int) < 64 := by omega
      have Hs := Lib.hid hs
      clear hs
      go_wp2_with fail
      go_roundw
      case rel => exact ⟨k + 1, by omega, by go_num, (HA.out.set_ k (y ^^^ x)).cast Hs.out, HB.out.setCell (p := ⟨w2.heap.size, k, none⟩) (Below.size (HB2.out)) _⟩
      case measure => simp [intOf]; omega
    · obtain rfl : k = 64 := by omega
      rw [show (((64 : Nat)) : Int) = 64 from rfl]
      go_wp2_with fail
      go_ret
      refine ⟨_, rfl, arr_own (HA.out.cast ?_) (by rw [kpad_len]) (Below.size (HB2.out)) (by simp [maxLen]), HB.out⟩
      rw [xorTo_all _ _ _ (by rw [HFl.out]; exact Nat.le_refl _)]
      unfold kpad
      rw [HKb.out]
theorem kpad_any (w : World) (B n c : Nat) (A : Option Addr) (key : List (BitVec 8)) (x : BitVec 8) (hr : Rd b8 w B A key) (hB : B ≤ w.heap.size) (hn : n = key.length) (hbig : n ≤ 50000000) :
    Calls Tryz.prog 149 #[.slice A n c, .int .u8 (bv x)] w fun e w' => ∃ v, e = .returned v ∧ Own b8 w' w.heap.size 5 v (kpad key x) ∧ Below w.heap.size w w' := by
  by_cases h : n ≤ 64
  · exact kpad_small w B n c A key x hr hB hn h
  · exact kpad_great w B n c A key x hr hB hn (by omega) hbig
end Go.Proofs.YtelgjaiknaalkaaGreatDoor
namespace Go.Proofs.YtelgjaiknaalkaaGreatDoor
open Go.RowKit
set_option linter.unusedVariables false
set_option linter.unusedSimpArgs false
def tagV (key text : List (BitVec 8)) : List (BitVec 8) := sum32 (kpad key 92#8 ++ sum32 (kpad key 54#8 ++ text))
theorem tagV_len (key text : List (BitVec 8)) : (tagV key text).length = 32 := sum32_len _
theorem short_two (W : World) (B n c m d : Nat) (A C : Option Addr) (xs ys : List (BitVec 8)) (hr : Rd b8 W B A xs) (hr2 : Rd b8 W B C ys) (hB : B ≤ W.heap.size) (hn : n = xs.length) (hm : m = ys.length) (htot : xs.length + ys.length ≤ 50000000) :
    Calls Tryz.prog 151 #[.slice (some ⟨W.heap.size, 0, none⟩) 2 2] (W.alloc (.cells #[.slice A n c, .slice C m d] 28)) fun e w' => e = .returned (arrV b8 (sum32 (xs ++ ys))) ∧ Below W.heap.size W w' :=
  short_n W B 2 [((A, n, c), xs), ((C, m, d), ys)] _ rfl (by simpa using ⟨hr, hr2⟩) (by simpa using ⟨hn, hm⟩) hB rfl (by omega) (xs ++ ys) (by simp) (by simpa using htot)

set_option maxRecDepth 100000 in
set_option maxHeartbeats 1000000 in
theorem tag_any (w : World) (Bk n c : Nat) (A : Option Addr) (key : List (BitVec 8)) (hk : Rd b8 w Bk A key) (hBk : Bk ≤ w.heap.size) (hn : n = key.length) (hkb : key.length ≤ 40000000)
    (B b off d m : Nat) (ps : List Pt) (hp : Pts w B b off ps) (hB : B ≤ w.heap.size) (hm : m = ps.length) (hm2 : m ≤ 100000) (xs : List (BitVec 8)) (hxs : xs = ps.flatMap fun p => p.2) (htot : xs.length ≤ 40000000) :
    Calls Tryz.prog 142 #[.slice A n c, .slice (some ⟨b, off, none⟩) m d] w fun e w' => e = .returned (arrV b8 (tagV key xs)) ∧ Below w.heap.size w w' := by
  have HK := Lib.hid hk
  have HN := Lib.hid hn
  have HP := Lib.hid hp
  have HM := Lib.hid hm
  have HX := Lib.hid hxs
  have HT := Lib.hid htot
  have hnb : n ≤ 40000000 := by omega
  have HO0 := Lib.hid (Arr.new b8 w 23 (List.replicate 32 0#8))
  clear hk hn hp hm hxs htot hkb
  go_enter Tryz.func142, Tryz.ntmps142
  go_wp2_with fail
  refine (new_any _).mono ?_
  rintro e w1 ⟨rfl, hd1, hb1⟩
  have hz1 := hb1.size
  rw [World.size_alloc] at hd1 hb1 hz1
  have HD1 := Lib.hid (show DigT w1 (w.heap.size + 1) (w.heap.size + 1) [] from DigT.nil_ hd1)
  have hl1 : w.heap.size + 1 < w1.heap.size := hd1.lt
  have HO1 := Lib.hid (HO0.out.below hb1 (by omega))
  have HB1 := Lib.hid (Below.trans ((Below.refl _ w).alloc (Nat.le_refl _) _) (hb1.mono (Nat.le_succ _)))
  clear hd1 hb1 HO0
  have hpk := fun x W (hW : Below w.heap.size w W) => kpad_any W Bk n c A key x (HK.out.below (hW.mono hBk)) (Nat.le_trans hBk hW.size) HN.out (by omega)
  have HPk := Lib.hid hpk
  clear hpk
  have hpk1 := HPk.out 54#8 w1 HB1.out
  rw [show bv 54#8 = 54 from rfl] at hpk1
  have HPk1 := Lib.hid hpk1
  clear hpk1
  go_wp2_with fail
  refine HPk1.out.mono ?_
  rintro e w2 ⟨v2, rfl, hown2, hb2⟩
  obtain ⟨g2, c2, rfl, hg2, hg2l, -⟩ := hown2.form' (kpad_len key 54#8) (by omega)
  have hz2 := hb2.size
  have HD2 := Lib.hid (HD1.out.below hb2 (Nat.le_refl _))
  have HO2 := Lib.hid (HO1.out.below hb2 (by omega))
  have HB2 := Lib.hid (HB1.out.trans (hb2.mono (by omega)))
  have hadd := add_any w2 (w.heap.size + 1) (w.heap.size + 1) w2.heap.size 64 c2 (some ⟨g2, 0, none⟩) [] (kpad key 54#8) HD2.out (by omega) hown2.rd (Nat.le_refl _) (by rw [kpad_len]) (fun a _ e => by cases e; show g2 ≠ _; omega) (by rw [kpad_len]; simp)
  rw [List.nil_append] at hadd
  have HAdd := Lib.hid hadd
  clear hown2 hb2 hadd HD1 HO1 HB1 HPk1
  go_wp2_with fail
  refine HAdd.out.mono ?_
  rintro e w3 ⟨rfl, hd3, hg3⟩
  have hz3 := hg3.size
  have HD3 := Lib.hid (show DigT w3 (w.heap.size + 1) (w.heap.size + 1) (kpad key 54#8 ++ allTo ps 0) from (by unfold allTo; simpa using hd3.less (B' := w.heap.size + 1) (by omega)))
  have HO3 := Lib.hid (HO2.out.grown hg3 (by simp))
  have HB3 := Lib.hid (HB2.out.grown hg3 HB2.out.size (fun k e => by cases e; omega))
  clear hd3 hg3 HD2 HO2 HB2 HAdd
  go_wp2_with fail
  go_loopw [16] (fun v wr => ∃ k : Nat, k ≤ m ∧ v = .int .i64 k ∧ DigT wr (w.heap.size + 1) (w.heap.size + 1) (kpad key 54#8 ++ allTo ps k) ∧ Arr b8 wr w.heap.size 23 (List.replicate 32 0#8) ∧ Below w.heap.size w wr) (fun v _ => m - (intOf v).toNat)
  case atStart => exact ⟨0, by omega, rfl, HD3.out, HO3.out, HB3.out⟩
  case round =>
    clear HD3 HO3 HB3
    obtain ⟨k, hk, rfl, hd, ho, hb⟩ := hrel
    have HD := Lib.hid hd
    have HO := Lib.hid ho
    have HB := Lib.hid hb
    have hz := hd.lt
    clear hd ho hb
    by_cases hlt : k < m
    · have hk' : k < ps.length := by rw [← HM.out]; exact hlt
      have hp2 := HP.out.below HB.out hB HP.out.lt
      have h1 := hp2.row k _ (List.getElem?_eq_getElem hk')
      have h2 := hp2.len _ (List.getElem_mem hk')
      have h3 := hp2.rd _ (List.getElem_mem hk')
      have h4 := lenTo_mono ps (k + 1) ps.length (by omega)
      rw [lenTo_all, lenTo_succ ps k hk', ← HX.out] at h4
      have h5 := HT.out
      have h6 := allTo_succ ps k hk'
      have h7 := allTo_len ps k
      obtain ⟨⟨⟨A', m', cc⟩, ys⟩, hu⟩ : ∃ u, ps[k] = u := ⟨_, rfl⟩
      rw [hu] at h1 h2 h3 h4 h6
      simp only [sl] at h1 h2 h3 h4 h6
      have hc := add_any wr (w.heap.size + 1) (w.heap.size + 1) B m' cc A' (kpad key 54#8 ++ allTo ps k) ys HD.out (by omega) h3 (by omega) h2 (fun a hl e => by
        obtain ⟨b', off', e', hb', -⟩ := h3 hl
        rw [e] at e'; cases e'
        show b' ≠ _; omega) (by rw [List.length_append, kpad_len]; omega)
      rw [List.append_assoc, ← h6] at hc
      have HC := Lib.hid hc
      clear hp2 h2 h3 h4 h5 h6 h7 hu hc
      go_wp2_with fail
      refine HC.out.mono ?_
      rintro e w2 ⟨rfl, hd2, hg2⟩
      have HD2 := Lib.hid (hd2.less (B' := w.heap.size + 1) (by omega))
      have HO2 := Lib.hid (HO.out.grown hg2 (by simp))
      have HB2 := Lib.hid (HB.out.grown hg2 HB.out.size (fun k e => by cases e; omega))
      clear hd2 hg2
      go_wp2_with fail
      go_roundw
      case rel => exact ⟨k + 1, by omega, by go_num, HD2.out, HO2.out, HB2.out⟩
      case measure => simp [intOf]; omega
    · obtain rfl : k = m := by omega
      have hall : allTo ps k = xs := by unfold allTo; rw [HM.out, List.take_length, HX.out]
      have hd := HD.out
      rw [hall] at hd
      obtain ⟨S, hS⟩ : ∃ S, S = sum32 (kpad key 54#8 ++ xs) := ⟨_, rfl⟩
      have hs := sum_any wr (w.heap.size + 1) (w.heap.size + 1) (kpad key 54#8 ++ xs) hd (by rw [List.length_append, kpad_len]; have := HT.out; omega)
      rw [arrV_mk, ← hS] at hs
      have HS := Lib.hid hs
      have HSe := Lib.hid hS
      have HSl := Lib.hid (show S.length = 32 by rw [hS]; exact sum32_len _)
      clear hall hd hs hS
      go_wp2_with fail
      refine HS.out.mono ?_
      rintro e w5 ⟨rfl, hb5⟩
      have hz5 := hb5.size
      have HO5 := Lib.hid (HO.out.below hb5 (by omega))
      have HB5 := Lib.hid (HB.out.trans (hb5.mono HB.out.size))
      have HT5 := Lib.hid (Arr.new b8 w5 23 (List.replicate 32 0#8))
      clear hb5 HO HB HD HS
      go_wp2_with (refine wpList_store_arr rfl 23 (.tmp 8) (.tmp 25) rfl w5.heap.size rfl S rfl _ _ HT5.out (by rw [HSl.out]; rfl) (by rw [size32, HSl.out]) b8_one' ?_; intro w6 hx6 hg6)
      have hz6 : w5.heap.size < w6.heap.size := hx6.lt
      have HS6 := Lib.hid hx6
      have HO6 := Lib.hid ((HO5.out.alloc (.cells ((List.replicate 32 0#8).map b8).toArray 23)).grown hg6 (by simp; omega))
      have HB6 := Lib.hid ((HB5.out.alloc HB5.out.size (.cells ((List.replicate 32 0#8).map b8).toArray 23)).grown hg6 (by simp; omega) (fun k e => by cases e; omega))
      clear hx6 hg6 HT5 HO5 HB5
      have hpk2 := HPk.out 92#8 w6.drew HB6.out.drew
      rw [show bv 92#8 = 92 from rfl] at hpk2
      have HPk2 := Lib.hid hpk2
      obtain ⟨Z, hZ⟩ : ∃ Z, Z = (tagV key xs).map b8 := ⟨_, rfl⟩
      have hZl : Z.length = 32 := by rw [hZ, List.length_map, tagV_len]
      have hZi : (Tryz.prog.info? 23).map (·.size) = some Z.length := by rw [hZl]; exact size32
      have hZo : ∀ v ∈ Z, v.oneCell' = true := by rw [hZ]; intro v hv; obtain ⟨u, -, rfl⟩ := List.mem_map.1 hv; exact b8_one u
      have hsh : ∀ (W : World) (g7 c7 : Nat), Rd b8 W W.heap.size (some ⟨g7, 0, none⟩) (kpad key 92#8) → Rd b8 W W.heap.size (some ⟨w5.heap.size, 0, none⟩) S → Calls Tryz.prog 151 #[.slice (some ⟨W.heap.size, 0, none⟩) 2 2] (W.alloc (.cells #[.slice (some ⟨g7, 0, none⟩) 64 c7, .slice (some ⟨w5.heap.size, 0, none⟩) 32 32] 28)) fun e w' => e = .returned (.agg Z.toArray) ∧ Below W.heap.size W w' := fun W g7 c7 h1 h2 => by
        have := short_two W W.heap.size 64 c7 32 32 _ _ _ _ h1 h2 (Nat.le_refl _) (by rw [kpad_len]) HSl.out.symm (by rw [kpad_len, HSl.out]; omega)
        rwa [arrV_mk, HSe.out, show sum32 (kpad key 92#8 ++ sum32 (kpad key 54#8 ++ xs)) = tagV key xs from rfl, ← hZ] at this
      have HSh := Lib.hid hsh
      have HZ := Lib.hid hZ
      clear hpk2 hsh hZ
      go_frame
      go_region_held3 (fun _ => True) (trivial)
        (first
          | (go_simp; refine HPk2.out.mono ?_; rintro e w7 ⟨v7, rfl, hown7, hb7⟩; obtain ⟨g7, c7, rfl, hg7, hg7l, -⟩ := hown7.form' (kpad_len key 92#8) (by omega); have HO7 := Lib.hid (hown7.less (Nat.zero_le _)); have hz7 : w6.heap.size ≤ w7.heap.size := hb7.size; have HB7 := Lib.hid hb7; clear hown7 hb7)
          | (go_simp; refine (HSh.out w7 g7 c7 HO7.out.rd (((HS6.out.drew.below HB7.out hz6).rd 0).more (by omega))).mono ?_; rintro e w8 ⟨rfl, hb8⟩; have HA8 := Lib.hid ((HO6.out.drew.below HB7.out (by show w.heap.size < w6.heap.size; omega)).below hb8 (by omega)); have ht8 : w8.there w.heap.size 0 32 := HA8.out.there (Nat.le_refl _); have HB8 := Lib.hid hb8; clear hb8))
      obtain ⟨hx9, hg9⟩ := arr_setCells (f := b8) (tagV key xs) [] _ w8 (by rw [tagV_len]; rfl) HA8.out
      rw [← HZ.out] at hx9 hg9
      go_wp2_with fail
      refine bodyPost_ret (v := arrV b8 (tagV key xs)) (results_arr (g := w.heap.size) rfl _ _ _ _ _ rfl hx9 Tryz.underlying23 rfl (by rw [tagV_len]; exact size32)) rfl ?_
      refine ⟨rfl, ?_⟩
      have hb68 : Below w6.heap.size w6 w8 := (((Below.refl _ w6).drew).trans HB7.out).trans (HB8.out.mono hz7)
      have hbw := HB6.out.trans (hb68.mono HB6.out.size)
      exact hbw.grown hg9 hbw.size (fun k e => by cases e; omega)
theorem tag_three (W : World) (Bk n c B m1 d1 m2 d2 m3 d3 : Nat) (A C1 C2 C3 : Option Addr) (key xs ys zs : List (BitVec 8)) (hk : Rd b8 W Bk A key) (hBk : Bk ≤ W.heap.size) (hn : n = key.length) (hkb : key.length ≤ 40000000) (hr1 : Rd b8 W B C1 xs) (hr2 : Rd b8 W B C2 ys) (hr3 : Rd b8 W B C3 zs) (hB : B ≤ W.heap.size) (hm1 : m1 = xs.length) (hm2 : m2 = ys.length) (hm3 : m3 = zs.length) (htot : xs.length + ys.length + zs.length ≤ 40000000) :
    Calls Tryz.prog 142 #[.slice A n c, .slice (some ⟨W.heap.size, 0, none⟩) 3 3] (W.alloc (.cells #[.slice C1 m1 d1, .slice C2 m2 d2, .slice C3 m3 d3] 28)) fun e w' => e = .returned (arrV b8 (tagV key (xs ++ ys ++ zs))) ∧ Below W.heap.size W w' := by
  refine (tag_any _ Bk n c A key (hk.alloc hBk _) (by simp; omega) hn hkb B W.heap.size 0 3 3 _ (pts_new W B [((C1, m1, d1), xs), ((C2, m2, d2), ys), ((C3, m3, d3), zs)] (by simpa using ⟨hr1, hr2, hr3⟩) (by simpa using ⟨hm1, hm2, hm3⟩) hB) (by simp; omega) rfl (by omega) (xs ++ ys ++ zs) (by simp) (by simp; omega)).mono ?_
  rintro e w' ⟨rfl, hb⟩
  exact ⟨rfl, ((Below.refl _ W).alloc (Nat.le_refl _) _).trans (hb.mono (by simp))⟩
end Go.Proofs.YtelgjaiknaalkaaGreatDoor
namespace Go.Proofs.YtelgjaiknaalkaaGreatDoor
open Go.RowKit
set_option linter.unusedVariables false
set_option linter.unusedSimpArgs false
theorem Grew.apart {α : Type} {f : α → Value} {w w' : World} {v v' u : Value} {B E : Nat} {ys : List α} (hg : Grew w w' v v') (hne : ∀ b, v.ownBlock = some b → u.ownBlock ≠ some b) (hu : Own f w B E u ys) : ∀ b, v'.ownBlock = some b → u.ownBlock ≠ some b := by
  intro b e1 e2
  rcases hg.at_ with e | e
  · rw [e] at e1; exact hne b e1 e2
  · rw [e] at e1; injection e1 with e1; have := (hu.lt b e2).2; omega
end Go.Proofs.YtelgjaiknaalkaaGreatDoor
namespace Go.Proofs.YtelgjaiknaalkaaGreatDoor
open Go.RowKit
set_option linter.unusedVariables false
set_option linter.unusedSimpArgs false
/-- the tag number i, from one on; none ahead of them -/
def tagI (key inf : List (BitVec 8)) : Nat → List (BitVec 8)
  | 0 => []
  | i + 1 => tagV key (tagI key inf i ++ inf ++ [BitVec.ofInt 8 ((i : Int) + 1)])
def exA (key inf : List (BitVec 8)) : Nat → List (BitVec 8)
  | 0 => []
  | i + 1 => exA key inf i ++ tagI key inf (i + 1)
theorem tagI_len (key inf : List (BitVec 8)) (i : Nat) : (tagI key inf (i + 1)).length = 32 := tagV_len _ _
theorem tagI_le (key inf : List (BitVec 8)) (i : Nat) : (tagI key inf i).length ≤ 32 := by
  cases i with
  | zero => simp [tagI]
  | succ i => rw [tagI_len]; exact Nat.le_refl _
theorem exA_len (key inf : List (BitVec 8)) (i : Nat) : (exA key inf i).length = 32 * i := by
  induction i with
  | zero => rfl
  | succ i ih => simp only [exA, List.length_append, ih, tagI_len]; omega
theorem exA_take (key inf : List (BitVec 8)) (i j n : Nat) (hij : i ≤ j) (hn : n ≤ 32 * i) : (exA key inf j).take n = (exA key inf i).take n := by
  induction j with
  | zero => have : i = 0 := by omega
            subst this; rfl
  | succ j ih =>
    rcases Nat.lt_or_ge i (j + 1) with h | h
    · simp only [exA]
      rw [List.take_append_of_le_length (by rw [exA_len]; omega)]
      exact ih (by omega)
    · have : i = j + 1 := by omega
      subst this; rfl
/-- so many bytes -/
def expV (key inf : List (BitVec 8)) (n : Nat) : List (BitVec 8) := (exA key inf 255).take n
theorem expV_len (key inf : List (BitVec 8)) (n : Nat) (h : n ≤ 8160) : (expV key inf n).length = n := by
  unfold expV; rw [List.length_take, exA_len]; omega
theorem expV_of (key inf : List (BitVec 8)) (i n : Nat) (hi : i ≤ 255) (hn : n ≤ 32 * i) : expV key inf n = (exA key inf i).take n := exA_take key inf i 255 n hi hn
/-- the tags of these numbers, one behind the other -/
def exL (key inf : List (BitVec 8)) (l : List Nat) : List (BitVec 8) := l.flatMap (tagI key inf)
theorem exL_snoc (key inf : List (BitVec 8)) (l : List Nat) (i : Nat) : exL key inf (l ++ [i]) = exL key inf l ++ tagI key inf i := by unfold exL; rw [List.flatMap_append]; simp
theorem exL_len (key inf : List (BitVec 8)) (l : List Nat) (h : ∀ i ∈ l, 1 ≤ i) : (exL key inf l).length = 32 * l.length := by
  induction l with
  | nil => rfl
  | cons i l ih =>
    have h1 : (tagI key inf i).length = 32 := by
      obtain ⟨j, rfl⟩ : ∃ j, i = j + 1 := ⟨i - 1, by have := h i (by simp); omega⟩
      exact tagI_len _ _ _
    have h2 := ih (fun j hj => h j (by simp [hj]))
    unfold exL at h2 ⊢
    rw [List.flatMap_cons, List.length_append, h1, h2, List.length_cons]; omega
theorem exL_range (key inf : List (BitVec 8)) (k : Nat) : exL key inf (List.range' 1 k) = exA key inf k := by
  induction k with
  | zero => rfl
  | succ k ih => rw [List.range'_concat, exL_snoc, ih, show 1 + 1 * k = k + 1 by omega]; rfl
end Go.Proofs.YtelgjaiknaalkaaGreatDoor
