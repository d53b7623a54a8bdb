/- CONTRACT: the sum takes a piece. -/
import Derived.Test.YtkoefhbmkmepaaaPolyT
import Derived.Test.YtkoefhbmkmepaaaRegionY
import Derived.Laws.CopyOwn
import Derived.StillTailTactics
namespace Go.Proofs.Ytkoefhbmkmepaaa
open Go.RowKit
set_option linter.unusedVariables false
set_option linter.unusedSimpArgs false
attribute [local go_sem] add64_zero add64_go

theorem sizeU8a : (Try.prog.info? 5).map (·.size) = some 1 := by kernel_rfl
theorem splice_m (kk : List (BitVec 8)) (m : Nat) : splice ((List.replicate m 0#8).map b8) 0 (kk.map b8) = (kk ++ List.replicate (m - kk.length) 0#8).map b8 := by
  unfold splice
  simp [List.drop_replicate]
theorem splice_p (p : List (BitVec 8)) : splice ((List.replicate 17 0#8).map b8) 0 (p.map b8) = (p ++ List.replicate (17 - p.length) 0#8).map b8 := splice_m p 17
theorem padP_set (p : List (BitVec 8)) (h : p.length ≤ 16) : (p ++ List.replicate (17 - p.length) 0#8).set p.length 1#8 = padP p := by
  obtain ⟨m, hm⟩ : ∃ m, 17 - p.length = m + 1 := ⟨16 - p.length, by omega⟩
  rw [hm, List.set_append_right _ _ (Nat.le_refl _), Nat.sub_self, List.replicate_succ, List.set_cons_zero]
  unfold padP
  rw [show 16 - p.length = m by omega]; simp
theorem low_still (w : World) (B n c : Nat) (A : Option Addr) (xs : List (BitVec 8)) (hr : Rd b8 w B A xs) (hn : n = xs.length) (h8 : 8 ≤ n) :
    Calls Try.prog 57 #[.slice A n c] w fun e w' => e = .returned (.int .u64 (bv (low8 xs))) ∧ w' = w :=
  (low_any w B n c A xs hr hn h8).mono fun _ _ h => ⟨h.1, h.2.symm⟩
theorem size17a : (Try.prog.info? 116).map (·.size) = some 17 := by kernel_rfl
theorem wpAnyY_takeD {P : Program} {ops : Array Oper} {md : Region.Mode} {Q : Exit → Act → World → Prop} {S : World → Prop} {z i : Nat} (d : Nat) {oi : Oper} {v : Value} {f : Nat} {L : Array Bool} {a : Act} {w : World} (hi : ops[i]? = some oi) (hd : oi.dst = some d) (hs : Region.noSelect ops = true) (hw : waitsB md ops z i = true) (hz : L.getD z true = false) (hf : Region.free md ops L i = true) (hr : (Region.ready md ops L).contains i = true)
    (hQ : ∀ c a w, Q (.panic c) (a.put oi.dst v) w → Q (.panic c) a w) (hy : YieldsIf P ops S oi v a) (hS : S w) (h : wpAnyY P md ops Q S z f (L.setIfInBounds i true) { tmps := a.tmps.setIfInBounds d v, defers := a.defers } w) : wpAnyY P md ops Q S z (f + 1) L a w :=
  wpAnyY_take hi hs hw hz hf hr hQ hy hS (by rw [hd]; exact h)
theorem wpAnyY_pureD {P : Program} {ops : Array Oper} {md : Region.Mode} {Q : Exit → Act → World → Prop} {S : World → Prop} {z i : Nat} (d : Nat) {oi : Oper} {v : Value} {f : Nat} {L : Array Bool} {a : Act} {w : World} (hi : ops[i]? = some oi) (hd : oi.dst = some d) (hs : Region.noSelect ops = true) (hiz : decide (i ≠ z) = true) (hf : Region.free md ops L i = true) (hr : (Region.ready md ops L).contains i = true)
    (hQ : ∀ c a w, Q (.panic c) (a.put oi.dst v) w → Q (.panic c) a w) (hy : YieldsIf P ops (fun _ => True) oi v a) (hS : S w) (h : wpAnyY P md ops Q S z f (L.setIfInBounds i true) { tmps := a.tmps.setIfInBounds d v, defers := a.defers } w) : wpAnyY P md ops Q S z (f + 1) L a w :=
  wpAnyY_pure hi hs hiz hf hr hQ hy hS (by rw [hd]; exact h)
theorem wpAnyY_late {P : Program} {ops : Array Oper} {md : Region.Mode} {Q : Exit → Act → World → Prop} {S : World → Prop} {z i : Nat} {o : Oper} {f : Nat} {L : Array Bool} {a : Act} {w : World} (hz : L.getD z true = true) (hr : Region.ready md ops L = [i]) (ho : ops[i]? = some o)
    (h : ∀ K' : Act → World → Prop, (∀ a w, wpAnyY P md ops Q S z f (L.setIfInBounds i true) a w → K' a w) → if Region.wanted o (yielded ops a.tmps) = true then o.wp P a w K' Q else K' (a.put o.dst undef) w) : wpAnyY P md ops Q S z (f + 1) L a w := by
  refine ⟨fun h0 => (by rw [h0] at hr; cases hr), fun j hj => ?_⟩
  rw [hr, List.mem_singleton] at hj
  subst hj
  have h1 := h (fun a' w' => (L.getD z true = false → j ≠ z → S w') ∧ wpAnyY P md ops Q S z f (L.setIfInBounds j true) a' w') (fun _ _ h2 => ⟨fun h3 => (by rw [hz] at h3; cases h3), h2⟩)
  unfold wpOp
  rw [ho]
  dsimp only
  split
  · rename_i hw; rw [if_pos hw] at h1; exact .inl h1
  · rename_i hw; rw [if_neg hw] at h1; exact h1
set_option maxRecDepth 100000 in
set_option maxHeartbeats 4000000 in
theorem addp_any (w : World) (b : Nat) (h0 h1 h2 r0 r1 : BitVec 64) (hs : SumA w b (h0, h1, h2) r0 r1) (B n c : Nat) (A : Option Addr) (p : List (BitVec 8)) (hr : Rd b8 w B A p) (hB : B ≤ w.heap.size) (hn : n = p.length) (h16 : n ≤ 16) :
    Calls Try.prog 59 #[.pointer (some ⟨b, 0, none⟩), .slice A n c] w fun e w' => (∃ v, e = .returned v) ∧ SumA w' b (timesW (addP (h0, h1, h2) (low8 (padP p)) (low8 ((padP p).drop 8)) (((padP p).getD 16 0#8).setWidth 64)) r0 r1) r0 r1 ∧ w.grownBy w' (some b) := by
  have HS := Lib.hid hs
  have hlt : b < w.heap.size := Arr.lt hs
  have HR := Lib.hid (hr.more hB)
  have HN := Lib.hid hn
  clear hs hr hB hn
  go_enter Try.func59, Try.ntmps59
  have hp16 : p.length ≤ 16 := by rw [← HN.out]; exact h16
  have HP16 := Lib.hid hp16
  have HZ := Lib.hid (Arr.new b8 w 116 (List.replicate 17 0#8))
  have HBz := Lib.hid ((Below.refl w.heap.size w).alloc (Nat.le_refl _) (.cells ((List.replicate 17 0#8).map b8).toArray 116))
  have HRz := Lib.hid (HR.out.alloc (Nat.le_refl _) (.cells ((List.replicate 17 0#8).map b8).toArray 116))
  clear hp16
  go_wp2_with (refine wpList_copy_splice (o := ⟨some 8, _, _, _, _, _⟩) rfl (.tmp 6) (.tmp 7) 47 47 rfl 5 Try.underlying47 sizeU8a (some ⟨w.heap.size, 0, none⟩) A 17 17 n c rfl rfl w.heap.size 0 ((List.replicate 17 0#8).map b8) 116 HZ.out (p.map b8) (by rw [List.length_map, ← HN.out]; exact (Nat.min_eq_left (by omega)).symm) (fun hp => ⟨rfl, by obtain ⟨b', off', e', hb', hc'⟩ := HRz.out (by simpa using hp); exact ⟨_, e', HRz.out.cells e'⟩⟩) (by rw [List.length_map, List.length_map, List.length_replicate]; have := HP16.out; omega) (fun v hv => by obtain ⟨x, -, rfl⟩ := List.mem_map.1 hv; exact b8_one x) w.heap.size w HBz.out (Nat.le_refl _) ?_; intro w4 hx4 hb4; have HX4 := Lib.hid (show Arr b8 w4 w.heap.size 116 (p ++ List.replicate (17 - p.length) 0#8) from by have := hx4.out; rw [splice_p p] at this; exact this); have HB4 := Lib.hid hb4; have hf4 := HX4.out.frozen n; have hc4 : w4.cell? ⟨w.heap.size, n, none⟩ = some (.int .u8 (bv 0#8)) := (HX4.out.at_ (u := 0#8) (by rw [HN.out, List.getElem?_append_right (Nat.le_refl _), Nat.sub_self, List.getElem?_replicate, if_pos (by have := HP16.out; omega)])); clear hx4 hb4)
  have HX5 := Lib.hid (show Arr b8 (w4.setCell ⟨w.heap.size, n, none⟩ (.int .u8 1)) w.heap.size 116 (padP p) by
    rw [← padP_set p HP16.out, ← HN.out]; have h := HX4.out.set_ n 1#8; rw [← HN.out] at h; exact h)
  have HB5 := Lib.hid (HB4.out.setCell (p := ⟨w.heap.size, n, none⟩) (Nat.le_refl _) (.int .u8 1))
  clear HX4 HB4 hf4 hc4 HZ HBz HRz
  generalize w4.setCell ⟨w.heap.size, n, none⟩ (.int .u8 1) = w5 at HX5 HB5 ⊢
  have HS5 := Lib.hid (show SumA w5 b (h0, h1, h2) r0 r1 from Arr.below HS.out HB5.out hlt)
  have hl17 : (padP p).length = 17 := padP_len p HP16.out
  have HR5 := Lib.hid (show ∀ W : World, Arr b8 W w.heap.size 116 (padP p) → Rd b8 W (w.heap.size + 1) (some ⟨w.heap.size, 0, none⟩) (padP p) from fun W h => h.rd 0)
  have HR6 := Lib.hid (show ∀ W : World, Arr b8 W w.heap.size 116 (padP p) → Rd b8 W (w.heap.size + 1) (some ⟨w.heap.size, 8, none⟩) ((padP p).drop 8) from fun W h => h.rd 8)
  have HL17 := Lib.hid hl17
  have HL9 := Lib.hid (show 9 = ((padP p).drop 8).length by rw [List.length_drop, hl17])
  obtain ⟨x0, hx0⟩ : ∃ x, x = low8 (padP p) := ⟨_, rfl⟩
  obtain ⟨x1, hx1⟩ : ∃ x, x = low8 ((padP p).drop 8) := ⟨_, rfl⟩
  obtain ⟨x2, hx2⟩ : ∃ x, x = (padP p).getD 16 0#8 := ⟨_, rfl⟩
  have HXX := Lib.hid (And.intro hx0 (And.intro hx1 hx2))
  have HC0 := Lib.hid (show ∀ W : World, Arr b8 W w.heap.size 116 (padP p) → Calls Try.prog 57 #[.slice (some ⟨w.heap.size, 0, none⟩) 17 17] W fun e w' => e = .returned (.int .u64 (bv x0)) ∧ w' = W from fun W h => by rw [hx0]; exact low_still W _ _ _ _ _ (h.rd 0) HL17.out.symm (by omega))
  have HC1 := Lib.hid (show ∀ W : World, Arr b8 W w.heap.size 116 (padP p) → Calls Try.prog 57 #[.slice (some ⟨w.heap.size, 8, none⟩) 9 9] W fun e w' => e = .returned (.int .u64 (bv x1)) ∧ w' = W from fun W h => by rw [hx1]; exact low_still W _ _ _ _ _ (h.rd 8) HL9.out (by omega))
  have HX2 := Lib.hid (show ∀ W : World, Arr b8 W w.heap.size 116 (padP p) → W.cell? ⟨w.heap.size, 16, none⟩ = some (.int .u8 (bv x2)) from fun W h => by rw [hx2]; exact h.cellD (by rw [HL17.out]; omega) 0#8)
  clear hl17 hx0 hx1 hx2
  have k1 : (cy h0 x0 0#64).toNat ≤ 1 := cy_le _ _ _ (by simp)
  --{R4
  have s0 : w5.cell? ⟨b, 0, none⟩ = some (.int .u64 (bv h0)) := Arr.at_ HS5.out rfl
  have f0 := Arr.frozen HS5.out 0
  have hS : (fun w' : World => w'.cell? ⟨b, 0, none⟩ = some (.int .u64 (bv h0))) w5.drew := s0
  refine wp_region_Y (by kernel_rfl) (fun w' : World => w'.cell? ⟨b, 0, none⟩ = some (.int .u64 (bv h0))) 15 ?_
  refine wpAnyY_pureD 13 (i := 0) (v := .pointer (some ⟨b, 0, none⟩)) rfl rfl (by kernel_rfl) (by kernel_rfl) (by kernel_rfl) (by kernel_rfl) (fun _ _ _ h => h) (Or.inl ⟨by rfl, ?_⟩) hS ?_
  · intro w' hw'
    go_simp
  simp only [List.setIfInBounds_toArray, List.set_cons_zero, List.set_cons_succ]
  refine wpAnyY_pureD 14 (i := 1) (v := .pointer (some ⟨b, 0, none⟩)) rfl rfl (by kernel_rfl) (by kernel_rfl) (by kernel_rfl) (by kernel_rfl) (fun _ _ _ h => h) (Or.inl ⟨by rfl, ?_⟩) hS ?_
  · intro w' hw'
    go_simp
  simp only [List.setIfInBounds_toArray, List.set_cons_zero, List.set_cons_succ]
  refine wpAnyY_pureD 15 (i := 2) (v := .pointer (some ⟨b, 0, none⟩)) rfl rfl (by kernel_rfl) (by kernel_rfl) (by kernel_rfl) (by kernel_rfl) (fun _ _ _ h => h) (Or.inl ⟨by rfl, ?_⟩) hS ?_
  · intro w' hw'
    go_simp
  simp only [List.setIfInBounds_toArray, List.set_cons_zero, List.set_cons_succ]
  refine wpAnyY_pureD 16 (i := 3) (v := .pointer (some ⟨b, 0, none⟩)) rfl rfl (by kernel_rfl) (by kernel_rfl) (by kernel_rfl) (by kernel_rfl) (fun _ _ _ h => h) (Or.inl ⟨by rfl, ?_⟩) hS ?_
  · intro w' hw'
    go_simp
  simp only [List.setIfInBounds_toArray, List.set_cons_zero, List.set_cons_succ]
  refine wpAnyY_pureD 17 (i := 4) (v := .pointer (some ⟨b, 0, none⟩)) rfl rfl (by kernel_rfl) (by kernel_rfl) (by kernel_rfl) (by kernel_rfl) (fun _ _ _ h => h) (Or.inl ⟨by rfl, ?_⟩) hS ?_
  · intro w' hw'
    go_simp
  simp only [List.setIfInBounds_toArray, List.set_cons_zero, List.set_cons_succ]
  refine wpAnyY_takeD 18 (i := 5) (v := .int .u64 (bv h0)) rfl rfl (by kernel_rfl) (by kernel_rfl) (by kernel_rfl) (by kernel_rfl) (by kernel_rfl) (fun _ _ _ h => h) (Or.inl ⟨by rfl, ?_⟩) hS ?_
  · intro w' hw'
    go_simp
  simp only [List.setIfInBounds_toArray, List.set_cons_zero, List.set_cons_succ]
  refine wpAnyY_pureD 19 (i := 6) (v := .slice (some ⟨w.heap.size, 0, none⟩) 17 17) rfl rfl (by kernel_rfl) (by kernel_rfl) (by kernel_rfl) (by kernel_rfl) (fun _ _ _ h => h) (Or.inl ⟨by rfl, ?_⟩) hS ?_
  · intro w' hw'
    go_simp
  simp only [List.setIfInBounds_toArray, List.set_cons_zero, List.set_cons_succ]
  refine wpAnyY_pureD 24 (i := 12) (v := .pointer (some ⟨b, 0, none⟩)) rfl rfl (by kernel_rfl) (by kernel_rfl) (by kernel_rfl) (by kernel_rfl) (fun _ _ _ h => h) (Or.inl ⟨by rfl, ?_⟩) hS ?_
  · intro w' hw'
    go_simp
  simp only [List.setIfInBounds_toArray, List.set_cons_zero, List.set_cons_succ]
  refine wpAnyY_pureD 25 (i := 13) (v := .pointer (some ⟨b, 0, none⟩)) rfl rfl (by kernel_rfl) (by kernel_rfl) (by kernel_rfl) (by kernel_rfl) (fun _ _ _ h => h) (Or.inl ⟨by rfl, ?_⟩) hS ?_
  · intro w' hw'
    go_simp
  simp only [List.setIfInBounds_toArray, List.set_cons_zero, List.set_cons_succ]
  refine wpAnyY_one (i := 7) (by kernel_rfl) rfl (fun K' hK => ?_)
  go_simp
  go_at_call 57
  refine (HC0.out _ HX5.out.drew).mono ?_
  rintro e w' ⟨rfl, rfl⟩
  refine hK _ _ (fun _ => hS) ?_
  clear hK K'
  try simp only [Act.put, List.setIfInBounds_toArray, List.set_cons_zero, List.set_cons_succ]
  refine wpAnyY_one (i := 8) (by kernel_rfl) rfl (fun K' hK => ?_)
  go_simp
  refine hK _ _ (fun _ => hS) ?_
  clear hK K'
  try simp only [Act.put, List.setIfInBounds_toArray, List.set_cons_zero, List.set_cons_succ]
  refine wpAnyY_pureD 12 (i := 9) (v := .tuple #[.int .u64 (bv (ad h0 x0 0#64)), .int .u64 (bv (cy h0 x0 0#64))]) rfl rfl (by kernel_rfl) (by kernel_rfl) (by kernel_rfl) (by kernel_rfl) (fun _ _ _ h => h) (Or.inl ⟨by rfl, ?_⟩) hS ?_
  · intro w' hw'
    go_simp
  simp only [List.setIfInBounds_toArray, List.set_cons_zero, List.set_cons_succ]
  refine wpAnyY_pureD 22 (i := 10) (v := .int .u64 (bv (ad h0 x0 0#64))) rfl rfl (by kernel_rfl) (by kernel_rfl) (by kernel_rfl) (by kernel_rfl) (fun _ _ _ h => h) (Or.inl ⟨by rfl, ?_⟩) hS ?_
  · intro w' hw'
    go_simp
  simp only [List.setIfInBounds_toArray, List.set_cons_zero, List.set_cons_succ]
  refine wpAnyY_pureD 23 (i := 11) (v := .int .u64 (bv (cy h0 x0 0#64))) rfl rfl (by kernel_rfl) (by kernel_rfl) (by kernel_rfl) (by kernel_rfl) (fun _ _ _ h => h) (Or.inl ⟨by rfl, ?_⟩) hS ?_
  · intro w' hw'
    go_simp
  simp only [List.setIfInBounds_toArray, List.set_cons_zero, List.set_cons_succ]
  refine wpAnyY_pureD 26 (i := 14) (v := .pointer (some ⟨b, 0, none⟩)) rfl rfl (by kernel_rfl) (by kernel_rfl) (by kernel_rfl) (by kernel_rfl) (fun _ _ _ h => h) (Or.inl ⟨by rfl, ?_⟩) hS ?_
  · intro w' hw'
    go_simp
  simp only [List.setIfInBounds_toArray, List.set_cons_zero, List.set_cons_succ]
  refine wpAnyY_one (i := 15) (by kernel_rfl) rfl (fun K' hK => ?_)
  go_simp
  refine hK _ _ (fun h => absurd rfl h) ?_
  clear hK K' hS
  try simp only [Act.put, List.setIfInBounds_toArray, List.set_cons_zero, List.set_cons_succ]
  refine wpAnyY_late (i := 16) (by kernel_rfl) (by kernel_rfl) rfl (fun K' hK => ?_)
  go_simp
  refine hK _ _ (wpAnyY_done (by kernel_rfl) ?_ _)
  clear hK K'
  go_wp2_with fail
  --}R4
  have HS6 := Lib.hid (show SumA (w5.setCell ⟨b, 0, none⟩ (.int .u64 (bv (ad h0 x0 0#64)))).drew b (ad h0 x0 0#64, h1, h2) r0 r1 from Arr.set_ HS5.out 0 (ad h0 x0 0#64))
  have HX6 := Lib.hid (show Arr b8 (w5.setCell ⟨b, 0, none⟩ (.int .u64 (bv (ad h0 x0 0#64)))).drew w.heap.size 116 (padP p) from HX5.out.far (p := ⟨b, 0, none⟩) (by show w.heap.size ≠ b; omega) _)
  have HG6 := Lib.hid (show w.grownBy (w5.setCell ⟨b, 0, none⟩ (.int .u64 (bv (ad h0 x0 0#64)))).drew (some b) from by
    have h := grownBy_trans (r := some b) (s := some b) ⟨HB5.out.os, HB5.out.tape, HB5.out.output, HB5.out.size, fun k hk _ => HB5.out.block k hk⟩ (gb_set w5 b 0 (.int .u64 (bv (ad h0 x0 0#64)))) (fun g e => .inl e)
    exact ⟨h.os, h.tape, h.output, h.size, h.block⟩)
  generalize (w5.setCell ⟨b, 0, none⟩ (.int .u64 (bv (ad h0 x0 0#64)))).drew = w6 at HS6 HX6 HG6 ⊢
  clear HS5 HX5 HB5 s0 f0
  --{R5
  have s1 : w6.cell? ⟨b, 1, none⟩ = some (.int .u64 (bv h1)) := Arr.at_ HS6.out rfl
  have f1 := Arr.frozen HS6.out 1
  have hS : (fun w' : World => w'.cell? ⟨b, 1, none⟩ = some (.int .u64 (bv h1))) w6.drew := s1
  refine wp_region_Y (by kernel_rfl) (fun w' : World => w'.cell? ⟨b, 1, none⟩ = some (.int .u64 (bv h1))) 16 ?_
  refine wpAnyY_pureD 28 (i := 0) (v := .pointer (some ⟨b, 0, none⟩)) rfl rfl (by kernel_rfl) (by kernel_rfl) (by kernel_rfl) (by kernel_rfl) (fun _ _ _ h => h) (Or.inl ⟨by rfl, ?_⟩) hS ?_
  · intro w' hw'
    go_simp
  simp only [List.setIfInBounds_toArray, List.set_cons_zero, List.set_cons_succ]
  refine wpAnyY_pureD 29 (i := 1) (v := .pointer (some ⟨b, 0, none⟩)) rfl rfl (by kernel_rfl) (by kernel_rfl) (by kernel_rfl) (by kernel_rfl) (fun _ _ _ h => h) (Or.inl ⟨by rfl, ?_⟩) hS ?_
  · intro w' hw'
    go_simp
  simp only [List.setIfInBounds_toArray, List.set_cons_zero, List.set_cons_succ]
  refine wpAnyY_pureD 30 (i := 2) (v := .pointer (some ⟨b, 0, none⟩)) rfl rfl (by kernel_rfl) (by kernel_rfl) (by kernel_rfl) (by kernel_rfl) (fun _ _ _ h => h) (Or.inl ⟨by rfl, ?_⟩) hS ?_
  · intro w' hw'
    go_simp
  simp only [List.setIfInBounds_toArray, List.set_cons_zero, List.set_cons_succ]
  refine wpAnyY_pureD 31 (i := 3) (v := .pointer (some ⟨b, 0, none⟩)) rfl rfl (by kernel_rfl) (by kernel_rfl) (by kernel_rfl) (by kernel_rfl) (fun _ _ _ h => h) (Or.inl ⟨by rfl, ?_⟩) hS ?_
  · intro w' hw'
    go_simp
  simp only [List.setIfInBounds_toArray, List.set_cons_zero, List.set_cons_succ]
  refine wpAnyY_pureD 32 (i := 4) (v := .pointer (some ⟨b, 1, none⟩)) rfl rfl (by kernel_rfl) (by kernel_rfl) (by kernel_rfl) (by kernel_rfl) (fun _ _ _ h => h) (Or.inl ⟨by rfl, ?_⟩) hS ?_
  · intro w' hw'
    go_simp
  simp only [List.setIfInBounds_toArray, List.set_cons_zero, List.set_cons_succ]
  refine wpAnyY_takeD 33 (i := 5) (v := .int .u64 (bv h1)) rfl rfl (by kernel_rfl) (by kernel_rfl) (by kernel_rfl) (by kernel_rfl) (by kernel_rfl) (fun _ _ _ h => h) (Or.inl ⟨by rfl, ?_⟩) hS ?_
  · intro w' hw'
    go_simp
  simp only [List.setIfInBounds_toArray, List.set_cons_zero, List.set_cons_succ]
  refine wpAnyY_pureD 34 (i := 6) (v := .slice (some ⟨w.heap.size, 8, none⟩) 9 9) rfl rfl (by kernel_rfl) (by kernel_rfl) (by kernel_rfl) (by kernel_rfl) (fun _ _ _ h => h) (Or.inl ⟨by rfl, ?_⟩) hS ?_
  · intro w' hw'
    go_simp
  simp only [List.setIfInBounds_toArray, List.set_cons_zero, List.set_cons_succ]
  refine wpAnyY_pureD 36 (i := 8) (v := .int .u64 (bv (cy h0 x0 0#64))) rfl rfl (by kernel_rfl) (by kernel_rfl) (by kernel_rfl) (by kernel_rfl) (fun _ _ _ h => h) (Or.inl ⟨by rfl, ?_⟩) hS ?_
  · intro w' hw'
    go_simp
  simp only [List.setIfInBounds_toArray, List.set_cons_zero, List.set_cons_succ]
  refine wpAnyY_pureD 40 (i := 13) (v := .pointer (some ⟨b, 0, none⟩)) rfl rfl (by kernel_rfl) (by kernel_rfl) (by kernel_rfl) (by kernel_rfl) (fun _ _ _ h => h) (Or.inl ⟨by rfl, ?_⟩) hS ?_
  · intro w' hw'
    go_simp
  simp only [List.setIfInBounds_toArray, List.set_cons_zero, List.set_cons_succ]
  refine wpAnyY_pureD 41 (i := 14) (v := .pointer (some ⟨b, 0, none⟩)) rfl rfl (by kernel_rfl) (by kernel_rfl) (by kernel_rfl) (by kernel_rfl) (fun _ _ _ h => h) (Or.inl ⟨by rfl, ?_⟩) hS ?_
  · intro w' hw'
    go_simp
  simp only [List.setIfInBounds_toArray, List.set_cons_zero, List.set_cons_succ]
  refine wpAnyY_one (i := 7) (by kernel_rfl) rfl (fun K' hK => ?_)
  go_simp
  go_at_call 57
  refine (HC1.out _ HX6.out.drew).mono ?_
  rintro e w' ⟨rfl, rfl⟩
  refine hK _ _ (fun _ => hS) ?_
  clear hK K'
  try simp only [Act.put, List.setIfInBounds_toArray, List.set_cons_zero, List.set_cons_succ]
  refine wpAnyY_one (i := 9) (by kernel_rfl) rfl (fun K' hK => ?_)
  go_simp
  refine hK _ _ (fun _ => hS) ?_
  clear hK K'
  try simp only [Act.put, List.setIfInBounds_toArray, List.set_cons_zero, List.set_cons_succ]
  refine wpAnyY_pureD 27 (i := 10) (v := .tuple #[.int .u64 (bv (ad h1 x1 (cy h0 x0 0#64))), .int .u64 (bv (cy h1 x1 (cy h0 x0 0#64)))]) rfl rfl (by kernel_rfl) (by kernel_rfl) (by kernel_rfl) (by kernel_rfl) (fun _ _ _ h => h) (Or.inl ⟨by rfl, ?_⟩) hS ?_
  · intro w' hw'
    go_simp
  simp only [List.setIfInBounds_toArray, List.set_cons_zero, List.set_cons_succ]
  refine wpAnyY_pureD 38 (i := 11) (v := .int .u64 (bv (ad h1 x1 (cy h0 x0 0#64)))) rfl rfl (by kernel_rfl) (by kernel_rfl) (by kernel_rfl) (by kernel_rfl) (fun _ _ _ h => h) (Or.inl ⟨by rfl, ?_⟩) hS ?_
  · intro w' hw'
    go_simp
  simp only [List.setIfInBounds_toArray, List.set_cons_zero, List.set_cons_succ]
  refine wpAnyY_pureD 39 (i := 12) (v := .int .u64 (bv (cy h1 x1 (cy h0 x0 0#64)))) rfl rfl (by kernel_rfl) (by kernel_rfl) (by kernel_rfl) (by kernel_rfl) (fun _ _ _ h => h) (Or.inl ⟨by rfl, ?_⟩) hS ?_
  · intro w' hw'
    go_simp
  simp only [List.setIfInBounds_toArray, List.set_cons_zero, List.set_cons_succ]
  refine wpAnyY_pureD 42 (i := 15) (v := .pointer (some ⟨b, 1, none⟩)) rfl rfl (by kernel_rfl) (by kernel_rfl) (by kernel_rfl) (by kernel_rfl) (fun _ _ _ h => h) (Or.inl ⟨by rfl, ?_⟩) hS ?_
  · intro w' hw'
    go_simp
  simp only [List.setIfInBounds_toArray, List.set_cons_zero, List.set_cons_succ]
  refine wpAnyY_one (i := 16) (by kernel_rfl) rfl (fun K' hK => ?_)
  go_simp
  refine hK _ _ (fun h => absurd rfl h) ?_
  clear hK K' hS
  try simp only [Act.put, List.setIfInBounds_toArray, List.set_cons_zero, List.set_cons_succ]
  refine wpAnyY_late (i := 17) (by kernel_rfl) (by kernel_rfl) rfl (fun K' hK => ?_)
  go_simp
  refine hK _ _ (wpAnyY_done (by kernel_rfl) ?_ _)
  clear hK K'
  go_wp2_with fail
  --}R5
  have HS7 := Lib.hid (show SumA (w6.setCell ⟨b, 1, none⟩ (.int .u64 (bv (ad h1 x1 (cy h0 x0 0#64))))).drew b (ad h0 x0 0#64, ad h1 x1 (cy h0 x0 0#64), h2) r0 r1 from Arr.set_ HS6.out 1 (ad h1 x1 (cy h0 x0 0#64)))
  have HX7 := Lib.hid (show Arr b8 (w6.setCell ⟨b, 1, none⟩ (.int .u64 (bv (ad h1 x1 (cy h0 x0 0#64))))).drew w.heap.size 116 (padP p) from HX6.out.far (p := ⟨b, 1, none⟩) (by show w.heap.size ≠ b; omega) _)
  have HG7 := Lib.hid (show w.grownBy (w6.setCell ⟨b, 1, none⟩ (.int .u64 (bv (ad h1 x1 (cy h0 x0 0#64))))).drew (some b) from by
    have h := grownBy_trans (r := some b) (s := some b) HG6.out (gb_set w6 b 1 (.int .u64 (bv (ad h1 x1 (cy h0 x0 0#64))))) (fun g e => .inl e)
    exact ⟨h.os, h.tape, h.output, h.size, h.block⟩)
  generalize (w6.setCell ⟨b, 1, none⟩ (.int .u64 (bv (ad h1 x1 (cy h0 x0 0#64))))).drew = w7 at HS7 HX7 HG7 ⊢
  clear HS6 HX6 HG6 s1 f1
  have s2 : w7.cell? ⟨b, 2, none⟩ = some (.int .u64 (bv h2)) := Arr.at_ HS7.out rfl
  have f2 := Arr.frozen HS7.out 2
  have c16 := HX2.out w7 HX7.out
  go_region
  have HS8 := Lib.hid (show SumA (w7.setCell ⟨b, 2, none⟩ (.int .u64 (bv (h2 + (x2.setWidth 64 + cy h1 x1 (cy h0 x0 0#64)))))).drew b (addP (h0, h1, h2) x0 x1 (x2.setWidth 64)) r0 r1 from Arr.set_ HS7.out 2 (h2 + (x2.setWidth 64 + cy h1 x1 (cy h0 x0 0#64))))
  have HG8 := Lib.hid (show w.grownBy (w7.setCell ⟨b, 2, none⟩ (.int .u64 (bv (h2 + (x2.setWidth 64 + cy h1 x1 (cy h0 x0 0#64)))))).drew (some b) from by
    have h := grownBy_trans (r := some b) (s := some b) HG7.out (gb_set w7 b 2 (.int .u64 (bv (h2 + (x2.setWidth 64 + cy h1 x1 (cy h0 x0 0#64)))))) (fun g e => .inl e)
    exact ⟨h.os, h.tape, h.output, h.size, h.block⟩)
  generalize (w7.setCell ⟨b, 2, none⟩ (.int .u64 (bv (h2 + (x2.setWidth 64 + cy h1 x1 (cy h0 x0 0#64)))))).drew = w8 at HS8 HG8 ⊢
  clear HS7 HX7 HG7 s2 f2 c16
  go_wp2_with fail
  refine (times_any w8 b _ _ _ r0 r1 HS8.out).mono ?_
  rintro e w9 ⟨⟨v9, rfl⟩, hs9, hg9⟩
  have HS9 := Lib.hid hs9
  have HG9 := Lib.hid (grownBy_trans HG8.out hg9 (fun g e => .inl e))
  clear hs9 hg9
  go_wp2_with fail
  go_end0
  refine ⟨⟨_, rfl⟩, ?_, HG9.out⟩
  obtain ⟨e0, e1, e2⟩ := HXX.out
  rw [← e0, ← e1, ← e2]
  exact HS9.out
end Go.Proofs.Ytkoefhbmkmepaaa
