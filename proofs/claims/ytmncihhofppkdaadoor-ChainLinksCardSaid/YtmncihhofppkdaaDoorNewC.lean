/- CONTRACT: chain.New. -/
import Derived.Test.YtmncihhofppkdaaDoorGrow
namespace Go.Proofs.YtmncihhofppkdaaDoor
open Go.RowKit
set_option linter.unusedVariables false
set_option linter.unusedSimpArgs false

/-- lines that nobody has asked yet -/
def mkL (ss : List (List (BitVec 8))) (gs : List Nat) : List LP := List.zipWith (fun s g => ⟨startL s, [], g, false, 0, 0#64, []⟩) ss gs
theorem mkL_cells : ∀ (ss : List (List (BitVec 8))) (gs : List Nat), (mkL ss gs).flatMap LP.cells = leavesC ss gs
  | [], _ => rfl
  | _ :: _, [] => rfl
  | s :: ss, g :: gs => by
    have ih := mkL_cells ss gs
    unfold mkL leavesC at ih ⊢
    rw [List.zipWith_cons_cons, List.zipWith_cons_cons, List.flatMap_cons, List.flatten_cons, ih]
    rfl
theorem mkL_mem : ∀ (ss : List (List (BitVec 8))) (gs : List Nat) (x : LP), x ∈ mkL ss gs → ∃ s ∈ ss, ∃ g ∈ gs, x = ⟨startL s, [], g, false, 0, 0#64, []⟩
  | [], _, x, h => by cases h
  | _ :: _, [], x, h => by cases h
  | s :: ss, g :: gs, x, h => by
    unfold mkL at h
    rw [List.zipWith_cons_cons] at h
    rcases List.mem_cons.1 h with rfl | h
    · exact ⟨s, by simp, g, by simp, rfl⟩
    · obtain ⟨s', h1, g', h2, e⟩ := mkL_mem ss gs x h
      exact ⟨s', by simp [h1], g', by simp [h2], e⟩
theorem mkL_gms : ∀ (ss : List (List (BitVec 8))) (gs : List Nat), ss.length = gs.length → (mkL ss gs).map LP.gm = gs
  | [], [], _ => rfl
  | s :: ss, g :: gs, h => by
    have ih := mkL_gms ss gs (by simpa using h)
    unfold mkL at ih ⊢
    rw [List.zipWith_cons_cons, List.map_cons, ih]
theorem mkL_len (ss : List (List (BitVec 8))) (gs : List Nat) (h : ss.length = gs.length) : (mkL ss gs).length = ss.length := by unfold mkL; rw [List.length_zipWith, h, Nat.min_self]
theorem mkL_blks (ss : List (List (BitVec 8))) (gs : List Nat) : (mkL ss gs).flatMap (fun x => x.hp.map Prod.snd) = [] := by
  rw [List.flatMap_eq_nil_iff]
  intro x hx
  obtain ⟨s, _, g, _, rfl⟩ := mkL_mem ss gs x hx
  rfl
def zerosL (n : Nat) : List Value := (madeCells zeroLine.toArray (n * 37)).toList
theorem zerosL_len (n : Nat) : (zerosL n).length = 37 * n := by unfold zerosL; rw [Array.length_toList, size_madeCells, Nat.mul_comm]
theorem infoLine : (Tryd.prog.info? 81).map (fun i => (i.zero, i.size, i.bytes)) = some (some (.agg zeroLine.toArray), 37, 72) := by kernel_rfl
theorem run_mk_lines (n : Nat) (hn : n ≤ 32) (w : World) : (Instr.makeSlice 68 (.int .i64 (n : Int)) (.int .i64 (n : Int))).run Tryd.prog w = .ok (.slice (some ⟨w.heap.size, 0, none⟩) n n) (w.alloc (.cells (zerosL n).toArray 81)) := by
  obtain ⟨i, hi, hz, hs, hb⟩ : ∃ i, Tryd.prog.info? 81 = some i ∧ i.zero = some (.agg zeroLine.toArray) ∧ i.size = 37 ∧ i.bytes = 72 := by
    have h := infoLine
    cases hq : Tryd.prog.info? 81 with
    | none => rw [hq] at h; cases h
    | some i =>
      rw [hq] at h
      simp only [Option.map_some, Option.some.injEq, Prod.mk.injEq] at h
      exact ⟨i, rfl, h.1, h.2.1, h.2.2⟩
  have h := run_make (P := Tryd.prog) w 68 81 i (.agg zeroLine.toArray) Tryd.underlying68 hi hz .i64 .i64 (n : Int) (n : Int) (by omega) (by omega) (by rw [hb]; omega) (by omega)
  rw [hs, Int.toNat_natCast] at h
  rw [h]
  unfold zerosL
  simp [Value.cells]
theorem sound_pow : ∀ k : Nat, k ≤ 5 → soundB ((2 ^ k : Nat) : Int) = true := by decide
theorem Tab.drew' {w : World} (h : Tab w) : Tab w.drew := h
set_option maxRecDepth 100000 in
set_option maxHeartbeats 4000000 in
theorem newc_any (w : World) (hT : Tab w) (s : List (BitVec 8)) (hs : s.length = 32) (k : Nat) (hk : k ≤ 5) :
    Calls Tryd.prog 9 #[arrV b8 s, .int .i64 ((2 ^ k : Nat) : Int)] w fun e w' => ∃ gC gl gms, e = .returned (.pointer (some ⟨gC, 0, none⟩)) ∧ gms.length = 2 ^ k ∧ ChAt w' gC gl (mkL (secs k s) gms) ∧ w.heap.size ≤ gC ∧ w.heap.size ≤ gl ∧
      (∀ g ∈ gms, w.heap.size ≤ g) ∧ Below w.heap.size w w' := by
  have hsd := sound_pow k hk
  obtain ⟨n, hn⟩ : ∃ n, n = 2 ^ k := ⟨_, rfl⟩
  have hn1 : 1 ≤ n := by rw [hn]; exact Nat.one_le_two_pow
  have hn2 : n ≤ 32 := by rw [hn]; exact Nat.pow_le_pow_right (by decide) hk
  rw [← hn] at hsd ⊢
  have hmk := run_mk_lines n hn2
  have HN := Lib.hid hn
  have HS := Lib.hid hs
  have hgl := hT.lt
  obtain ⟨w1, hw1⟩ : ∃ w1, w1 = (w.alloc (.cells (s.map b8).toArray 23)).alloc (.cells #[.slice none 0 0] 70) := ⟨_, rfl⟩
  have HA1 := Lib.hid (show Arr b8 w1 w.heap.size 23 s by rw [hw1]; exact (Arr.new b8 w _ s).alloc _)
  have HC1 := Lib.hid (show Boxed w1 (w.heap.size + 1) 70 (.slice none 0 0) by rw [hw1]; have h := Boxed.new (w.alloc (.cells (s.map b8).toArray 23)) 70 (.slice none 0 0); rw [World.size_alloc] at h; exact h)
  have HK1 := Lib.hid (show Below w.heap.size w w1 by rw [hw1]; exact ((Below.refl _ w).alloc (Nat.le_refl _) _).alloc (by simp) _)
  have hz1 : w1.heap.size = w.heap.size + 2 := by rw [hw1]; simp
  have HT1 := Lib.hid (hT.below HK1.out)
  have HW1 := Lib.hid hw1
  have HR := Lib.hid (root_any (n : Int) (by omega) (by omega) w1)
  have hrt : rootV (n : Int) = (n : Int) - 1 := by unfold rootV; rw [if_pos hsd]
  have hr0 : ((n : Int) - 1 ≥ 0) := by omega
  rw [arrV_mk]
  clear hs hT hw1 hn
  go_enter Tryd.func9, Tryd.ntmps9
  go_upto_region 2 with fail
  rw [← HW1.out]
  go_wp2_with fail
  refine HR.out.mono ?_
  rintro e w2 ⟨rfl, rfl⟩
  rw [hrt]
  have c1 := HC1.out.cell
  have f1 := HC1.out.frozen
  obtain ⟨w3, hw3⟩ : ∃ w3, w3 = w1.setCell ⟨w.heap.size + 1, 0, none⟩ (.slice (some ⟨w.heap.size + 2, 0, none⟩) n n) := ⟨_, rfl⟩
  obtain ⟨w4, hw4⟩ : ∃ w4, w4 = w3.alloc (.cells (zerosL n).toArray 81) := ⟨_, rfl⟩
  have hg3 : w1.grownBy w3 (some (w.heap.size + 1)) := by rw [hw3]; exact grownBy_set _ _ _ _
  have hz3 : w3.heap.size = w.heap.size + 2 := by rw [hw3]; simp [hz1]
  have HX4 := Lib.hid (show Arr b8 w4 w.heap.size 23 s by rw [hw4]; exact (HA1.out.grown hg3 (fun e => by injection e with e; omega)).alloc _)
  have HC4 := Lib.hid (show Boxed w4 (w.heap.size + 1) 70 (.slice (some ⟨w.heap.size + 2, 0, none⟩) n n) by rw [hw4, hw3]; exact (HC1.out.set _).alloc _)
  have HZ4 := Lib.hid (show Blk w4 (w.heap.size + 2) 81 (zerosL n) by rw [hw4]; exact Blk.at_size _ _ hz3)
  have HT4 := Lib.hid (show Tab w4 by rw [hw4]; exact (HT1.out.grown hg3 (by omega)).below ((Below.refl _ w3).alloc (Nat.le_refl _) _))
  have HK4 := Lib.hid (show Below w.heap.size w w4 by rw [hw4]; exact (HK1.out.grown hg3 HK1.out.size (fun k e => by cases e; omega)).alloc (by omega) _)
  have hz4 : w4.heap.size = w.heap.size + 3 := by rw [hw4]; simp [hz3]
  have HW4 := Lib.hid (show (w1.setCell ⟨w.heap.size + 1, 0, none⟩ (.slice (some ⟨w.heap.size + 2, 0, none⟩) n n)).alloc (.cells (zerosL n).toArray 81) = w4 by rw [hw4, hw3])
  have hgr := grow_any k hk w4.drew HT4.out.drew' (w.heap.size + 2) n 0 s HS.out [] (zerosL n) [] (HZ4.out.drew.cast (by simp)) (by simp) (by rw [zerosL_len, HN.out]) (by rw [HN.out]; omega) hn2 (by omega)
  have hnx : ((nodeX k (0 * 2 ^ k) : Nat) : Int) = (n : Int) - 1 := by
    have h9 := HN.out
    have e : nodeX k (0 * 2 ^ k) = n - 1 := by unfold nodeX; omega
    rw [e]; omega
  rw [hnx, arrV_mk] at hgr
  have HGr := Lib.hid hgr
  have hk4 := show w4.drew.rangeAt w.heap.size 0 (s.map b8) ∧ w4.drew.cell? ⟨w.heap.size + 1, 0, none⟩ = some (.slice (some ⟨w.heap.size + 2, 0, none⟩) n n) from ⟨HX4.out.drew.whole, HC4.out.cell⟩
  have hu := Tryd.underlying23
  have hi32 : (Tryd.prog.info? 23).map (·.size) = some (s.map b8).length := by rw [List.length_map, HS.out]; exact size32
  clear hw3 hw4 hg3 hgr hnx HA1 HC1 HT1
  go_upto_region 5 with fail
  rw [HW4.out]
  --{R5
  refine wp_region_noPanic ?_
  refine wp_region_held_drew (S := fun w' => w'.rangeAt w.heap.size 0 (s.map b8) ∧ w'.cell? ⟨w.heap.size + 1, 0, none⟩ = some (.slice (some ⟨w.heap.size + 2, 0, none⟩) n n)) (by kernel_rfl) hk4 (fun hS => ?_)
  refine wpAnyH_take (i := 0) (oi := { dst := some 18, op := _, type := _, pos := _, after := _, guard := _ }) (v := .agg (s.map b8).toArray) rfl (by kernel_rfl) (by kernel_rfl) (by kernel_rfl) (fun _ _ _ h => h) (yieldsIf_load_mid (by rfl) 23 (.tmp 2) rfl w.heap.size 0 rfl (s.map b8) _ (fun _ h => h.1) hu rfl hi32) hS ?_
  try simp only [Act.put, List.setIfInBounds_toArray, List.set_cons_zero, List.set_cons_succ]
  refine wpAnyH_take (i := 1) (oi := { dst := some 19, op := _, type := _, pos := _, after := _, guard := _ }) (v := .int .i64 ((n : Int) - 1)) rfl (by kernel_rfl) (by kernel_rfl) (by kernel_rfl) (fun _ _ _ h => h) (Or.inl ⟨by rfl, ?_⟩) hS ?_
  · intro w' hw'
    go_simp
  try simp only [Act.put, List.setIfInBounds_toArray, List.set_cons_zero, List.set_cons_succ]
  refine wpAnyH_take (i := 2) (oi := { dst := some 20, op := _, type := _, pos := _, after := _, guard := _ }) (v := .pointer (some ⟨w.heap.size + 1, 0, none⟩)) rfl (by kernel_rfl) (by kernel_rfl) (by kernel_rfl) (fun _ _ _ h => h) (Or.inl ⟨by rfl, ?_⟩) hS ?_
  · intro w' hw'
    go_simp
  try simp only [Act.put, List.setIfInBounds_toArray, List.set_cons_zero, List.set_cons_succ]
  refine wpAnyH_take (i := 3) (oi := { dst := some 21, op := _, type := _, pos := _, after := _, guard := _ }) (v := .pointer (some ⟨w.heap.size + 1, 0, none⟩)) rfl (by kernel_rfl) (by kernel_rfl) (by kernel_rfl) (fun _ _ _ h => h) (Or.inl ⟨by rfl, ?_⟩) hS ?_
  · intro w' hw'
    go_simp
  try simp only [Act.put, List.setIfInBounds_toArray, List.set_cons_zero, List.set_cons_succ]
  refine wpAnyH_take (i := 4) (oi := { dst := some 22, op := _, type := _, pos := _, after := _, guard := _ }) (v := .pointer (some ⟨w.heap.size + 1, 0, none⟩)) rfl (by kernel_rfl) (by kernel_rfl) (by kernel_rfl) (fun _ _ _ h => h) (Or.inl ⟨by rfl, ?_⟩) hS ?_
  · intro w' hw'
    go_simp
  try simp only [Act.put, List.setIfInBounds_toArray, List.set_cons_zero, List.set_cons_succ]
  refine wpAnyH_take (i := 5) (oi := { dst := some 23, op := _, type := _, pos := _, after := _, guard := _ }) (v := .slice (some ⟨w.heap.size + 2, 0, none⟩) n n) rfl (by kernel_rfl) (by kernel_rfl) (by kernel_rfl) (fun _ _ _ h => h) (Or.inl ⟨by rfl, ?_⟩) hS ?_
  · intro w' hw'
    obtain ⟨s0, s1⟩ := hw'
    go_simp
  try simp only [Act.put, List.setIfInBounds_toArray, List.set_cons_zero, List.set_cons_succ]
  refine wpAnyH_ready (rs := [6]) (by kernel_rfl) (by simp) (AllReadyH.cons (o := { dst := some 24, op := _, type := _, pos := _, after := _, guard := _ }) rfl (fun K' hK => ?_) AllReadyH.nil)
  go_simp
  go_at_call 28
  refine HGr.out.mono ?_
  rintro e w5 ⟨rfl, gms, hgl, hB5, hM5, hN5, hg5⟩
  have HX5 := Lib.hid (HX4.out.drew.grown hg5 (fun e => by injection e with e; omega))
  have HC5 := Lib.hid (Boxed.kept (W := w4.drew) HC4.out hg5 (fun e => by injection e with e; omega))
  have HB5 := Lib.hid hB5
  have HM5 := Lib.hid hM5
  have HN5 := Lib.hid hN5
  have HL5 := Lib.hid hgl
  have HG5 := Lib.hid hg5
  clear hgl hB5 hM5 hN5 hg5
  refine hK.out _ _ (⟨HX5.out.whole, HC5.out.cell⟩) (fun hS => ?_)
  clear hK K'
  try simp only [Act.put, List.setIfInBounds_toArray, List.set_cons_zero, List.set_cons_succ]
  refine wpAnyH_done (by kernel_rfl) ?_ _
  refine NoPanic.normal ?_
  --}R5
  go_wp2_with fail
  go_ret
  have hg := HG5.out
  have hsl : (secs k s).length = gms.length := by rw [secs_len, HL5.out]
  refine ⟨w.heap.size + 1, w.heap.size + 2, gms, rfl, by rw [HL5.out, HN.out], ⟨?_, ?_, ?_, ?_, ?_, ?_⟩, by omega, by omega, fun g hg' => by have := (HM5.out g hg').2; have h9 : w4.drew.heap.size = w4.heap.size := rfl; omega, HK4.out.drew.grown hg HK4.out.size (fun k e => by cases e; omega)⟩
  · rw [mkL_len _ _ hsl, secs_len, ← HN.out]; exact HC5.out
  · rw [mkL_cells]; exact HB5.out.cast (by simp)
  · intro x hx
    obtain ⟨z, hz, g, hg', rfl⟩ := mkL_mem _ _ x hx
    exact ⟨startL_ok z (secs_32 k s HS.out z hz), Marks.start z, rfl, List.Pairwise.nil⟩
  · intro x hx
    obtain ⟨z, hz, g, hg', rfl⟩ := mkL_mem _ _ x hx
    exact ⟨(HM5.out g hg').1, fun p hp => by cases hp⟩
  · rw [mkL_gms _ _ hsl]; exact HN5.out
  · rw [mkL_blks]; exact List.Pairwise.nil
end Go.Proofs.YtmncihhofppkdaaDoor
