/- CONTRACT: burrowref09.Path. -/
import Derived.Test.YtloglpamnalmeaaRefPath
namespace Go.Proofs.Ytloglpamnalmeaa
open Go.RowKit
set_option linter.unusedVariables false
set_option linter.unusedSimpArgs false

theorem wpAnyY_two {P : Program} {ops : Array Oper} {md : Region.Mode} {Q : Exit → Act → World → Prop} {S : World → Prop} {z : Nat} {i j : Nat} {o o' : Oper} {f : Nat} {L : Array Bool} {a : Act} {w : World} (hr : Region.ready md ops L = [i, j]) (ho : ops[i]? = some o) (ho' : ops[j]? = some o')
    (h : ∀ K' : Act → World → Prop, (∀ a w, (i ≠ z → S w) → wpAnyY P md ops Q S z f (L.setIfInBounds i true) a w → K' a w) → if Region.wanted o (yielded ops a.tmps) = true then o.wp P a w K' Q else K' (a.put o.dst undef) w)
    (h' : ∀ K' : Act → World → Prop, (∀ a w, (j ≠ z → S w) → wpAnyY P md ops Q S z f (L.setIfInBounds j true) a w → K' a w) → if Region.wanted o' (yielded ops a.tmps) = true then o'.wp P a w K' Q else K' (a.put o'.dst undef) w) : wpAnyY P md ops Q S z (f + 1) L a w := by
  refine ⟨fun h0 => (by rw [h0] at hr; cases hr), fun x hx => ?_⟩
  rw [hr] at hx
  rcases List.mem_cons.1 hx with hx | hx
  · subst hx
    have h1 := h (fun a' w' => (L.getD z true = false → x ≠ z → S w') ∧ wpAnyY P md ops Q S z f (L.setIfInBounds x true) a' w') (fun _ _ h1 h2 => ⟨fun _ => h1, h2⟩)
    unfold wpOp
    rw [ho]
    dsimp only
    split
    · rename_i hw; rw [if_pos hw] at h1; exact .inl h1
    · rename_i hw; rw [if_neg hw] at h1; exact h1
  · have hx := List.mem_singleton.1 hx
    subst hx
    have h1 := h' (fun a' w' => (L.getD z true = false → x ≠ z → S w') ∧ wpAnyY P md ops Q S z f (L.setIfInBounds x true) a' w') (fun _ _ h1 h2 => ⟨fun _ => h1, h2⟩)
    unfold wpOp
    rw [ho']
    dsimp only
    split
    · rename_i hw; rw [if_pos hw] at h1; exact .inl h1
    · rename_i hw; rw [if_neg hw] at h1; exact h1
theorem rowsB_len : ∀ {rs : List RowT}, (∀ r ∈ rs, r.xs.length ≤ 65535) → (rowsB rs).length ≤ rs.length * 65537
  | [], _ => by simp [rowsB]
  | r :: rs, h => by
    have ih := rowsB_len (rs := rs) (fun x hx => h x (by simp [hx]))
    have h1 := h r (by simp)
    unfold rowsB at ih ⊢
    rw [List.flatMap_cons, List.length_append, rowB_len, List.length_cons]
    omega
theorem rows_good {rs : List RowT} (h : rowsBad rs = false) : ∀ r ∈ rs, r.xs.length ≤ 65535 := by
  intro r hr
  have := List.any_eq_false.1 h r hr
  obtain ⟨N, hN, hNl⟩ := outOf_nat (by simpa using this : outOf (r.xs.length : Int) 65535 = false)
  omega
theorem step_good {s : StepT} (h : stepBad s = false) : s.rows.length ≤ 255 ∧ ∀ r ∈ s.rows, r.xs.length ≤ 65535 := by
  unfold stepBad at h
  rw [Bool.or_eq_false_iff] at h
  obtain ⟨N, hN, hNl⟩ := outOf_nat h.1
  exact ⟨by omega, rows_good h.2⟩
theorem stepB_len {s : StepT} (hk : s.key.length = 32) (h : stepBad s = false) : (stepB s).length ≤ 16711968 := by
  obtain ⟨h1, h2⟩ := step_good h
  have := rowsB_len h2
  have h3 : s.rows.length * 65537 ≤ 255 * 65537 := Nat.mul_le_mul_right _ h1
  unfold stepB
  rw [List.length_append, List.length_append, be_len, hk]
  omega
theorem stepsB_len : ∀ {ss : List StepT}, (∀ s ∈ ss, s.key.length = 32) → stepsBad ss = false → (stepsB ss).length ≤ ss.length * 16711968
  | [], _, _ => by simp [stepsB]
  | s :: ss, hk, h => by
    unfold stepsBad at h
    rw [List.any_cons, Bool.or_eq_false_iff] at h
    have ih := stepsB_len (ss := ss) (fun x hx => hk x (by simp [hx])) h.2
    have h1 := stepB_len (hk s (by simp)) h.1
    unfold stepsB at ih ⊢
    rw [List.flatMap_cons, List.length_append, List.length_cons]
    omega
theorem stepsBad_off {ss : List StepT} (h : stepsBad ss = false) (k : Nat) : stepsBad (ss.take k) = false := by
  cases hb : stepsBad (ss.take k) with
  | false => rfl
  | true => rw [stepsBad_take ss k hb] at h; cases h
set_option maxRecDepth 100000 in
set_option maxHeartbeats 4000000 in
theorem refPath_any {w : World} {B' : Nat} {p : PathT} (hr : RdP w B' p) (hB' : B' ≤ w.heap.size) (hg : pathBad p = false) :
    Calls Try.prog 85 #[.agg p.cells.toArray] w fun e w' => ∃ v, e = .returned v ∧ Own b8 w' w.heap.size 5 v (pathB p) ∧ Below w.heap.size w w' := by
  obtain ⟨i0, hi0, hz0, hz1, hz2⟩ := info_parts infoU8
  obtain ⟨leaf, A, c, steps, As, cs⟩ := p
  obtain ⟨hl, hum, huml, hst, hmax⟩ := hr
  dsimp only at hl hum huml hst hmax ⊢
  have hpb : pathBad ⟨leaf, A, c, steps, As, cs⟩ = (nodeBad leaf || outOf steps.length 5 || stepsBad steps) := rfl
  have hpB : pathB ⟨leaf, A, c, steps, As, cs⟩ = nodeB leaf ++ (be steps.length 1 ++ stepsB steps) := rfl
  rw [hpb, Bool.or_eq_false_iff, Bool.or_eq_false_iff] at hg
  rw [hpB]
  obtain ⟨P, hP⟩ : ∃ P, P = PathT.cells ⟨leaf, A, c, steps, As, cs⟩ := ⟨_, rfl⟩
  have hPe : P = nodeC leaf A c ++ [.slice As steps.length cs] := hP
  rw [← hP]
  clear hP hpb hpB
  have HR := Lib.hid hst
  have HLn := Lib.hid (nodeC_len hl A c)
  have HNl := Lib.hid (nodeB_len hl)
  have hn5 : steps.length ≤ 5 := by obtain ⟨N, hN, hNl⟩ := outOf_nat hg.1.2; omega
  have HG := Lib.hid hg.2
  have HBx := Lib.hid (Blk.new w 80 P)
  have HB0 := Lib.hid ((Below.refl w.heap.size w).alloc (Nat.le_refl _) (.cells P.toArray 80))
  have hs0 := World.size_alloc w (.cells P.toArray 80)
  have HCk := Lib.hid (fun (W : World) (h : Blk W w.heap.size 80 P) => (show W.rangeAt w.heap.size 0 (nodeC leaf A c) from h.piece (pre := []) hPe rfl))
  have HCs := Lib.hid (fun (W : World) (h : Blk W w.heap.size 80 P) => (show W.cell? ⟨w.heap.size, 99, none⟩ = some (.slice As steps.length cs) from h.one (pre := nodeC leaf A c) (post := []) hPe (nodeC_len hl _ _)))
  have HNd := Lib.hid (fun W (hb : Below w.heap.size w W) => refNode_any leaf hl (c := c) (hum.below (hb.mono hB')) (by have := hb.size; omega) (by omega))
  obtain ⟨n, hn⟩ : ∃ n, n = steps.length := ⟨_, rfl⟩
  rw [← hn] at HCs hmax hn5 ⊢
  have HN := Lib.hid hn
  have hhu := Try.underlying50
  have hin : (Try.prog.info? 50).map (·.size) = some (nodeC leaf A c).length := by rw [nodeC_len hl]; exact infoNode
  have hf := beAt0 (n : Int)
  clear hl hum hst hn hPe hg hmax
  go_enter Try.func85, Try.ntmps85
  go_wp2_with fail
  generalize World.alloc w _ = w0 at HBx HB0 hs0 ⊢
  have hsw : w.heap.size + 1 ≤ w0.heap.size := by omega
  clear hs0
  have hS : w0.drew.rangeAt w.heap.size 0 (nodeC leaf A c) ∧ w0.drew.cell? ⟨w.heap.size, 99, none⟩ = some (.slice As n cs) := ⟨HCk.out _ HBx.out, HCs.out _ HBx.out⟩
  refine wp_region_Y (by kernel_rfl) (fun w' => w'.rangeAt w.heap.size 0 (nodeC leaf A c) ∧ w'.cell? ⟨w.heap.size, 99, none⟩ = some (.slice As n cs)) 9 ?_
  refine wpAnyY_pure (i := 0) (v := .pointer (some ⟨w.heap.size, 0, none⟩)) rfl (by kernel_rfl) (by kernel_rfl) (by kernel_rfl) (by kernel_rfl) (fun _ _ _ h => h) (Or.inl ⟨by rfl, ?_⟩) hS ?_
  · intro w' hw'
    go_simp
  try simp only [Act.put, List.setIfInBounds_toArray, List.set_cons_zero, List.set_cons_succ]
  refine wpAnyY_take (i := 1) (v := .agg (nodeC leaf A c).toArray) rfl (by kernel_rfl) (by kernel_rfl) (by kernel_rfl) (by kernel_rfl) (by kernel_rfl) (fun _ _ _ h => h) (yieldsIf_load_mid (by rfl) 50 (.tmp 7) rfl w.heap.size 0 rfl (nodeC leaf A c) _ (fun _ h => h.1) hhu rfl hin) hS ?_
  try simp only [Act.put, List.setIfInBounds_toArray, List.set_cons_zero, List.set_cons_succ]
  refine wpAnyY_pure (i := 3) (v := .pointer (some ⟨w.heap.size, 99, none⟩)) rfl (by kernel_rfl) (by kernel_rfl) (by kernel_rfl) (by kernel_rfl) (fun _ _ _ h => h) (Or.inl ⟨by rfl, ?_⟩) hS ?_
  · intro w' hw'
    go_simp
  try simp only [Act.put, List.setIfInBounds_toArray, List.set_cons_zero, List.set_cons_succ]
  refine wpAnyY_take (i := 4) (v := .slice As n cs) rfl (by kernel_rfl) (by kernel_rfl) (by kernel_rfl) (by kernel_rfl) (by kernel_rfl) (fun _ _ _ h => h) (Or.inl ⟨by rfl, ?_⟩) hS ?_
  · intro w' hw'
    go_simp
  try simp only [Act.put, List.setIfInBounds_toArray, List.set_cons_zero, List.set_cons_succ]
  refine wpAnyY_pure (i := 5) (v := .int .i64 (n : Int)) rfl (by kernel_rfl) (by kernel_rfl) (by kernel_rfl) (by kernel_rfl) (fun _ _ _ h => h) (Or.inl ⟨by rfl, ?_⟩) hS ?_
  · intro w' hw'
    go_simp
  try simp only [Act.put, List.setIfInBounds_toArray, List.set_cons_zero, List.set_cons_succ]
  refine wpAnyY_pure (i := 6) (v := .int .u8 (bv (beAt (n : Int) 0))) rfl (by kernel_rfl) (by kernel_rfl) (by kernel_rfl) (by kernel_rfl) (fun _ _ _ h => h) (Or.inl ⟨by rfl, ?_⟩) hS ?_
  · intro w' hw'
    go_simp
  try simp only [Act.put, List.setIfInBounds_toArray, List.set_cons_zero, List.set_cons_succ]
  refine wpAnyY_two (i := 2) (j := 7) (by kernel_rfl) rfl rfl (fun K' hK => ?_) (fun K' hK => ?_)
  · go_simp
    go_at_call 66
    refine (HNd.out _ HB0.out.drew).mono ?_
    rintro e w1 ⟨v1, rfl, ho1, hb1⟩
    have HO1 := Lib.hid (show Own b8 w1 w0.heap.size 5 v1 _ from ho1)
    have HG1 := Lib.hid (show Below w0.heap.size w0 w1 from (Below.refl w0.heap.size w0).drew.trans hb1)
    have HBx1 := Lib.hid (HBx.out.below HG1.out (by omega))
    have hq1 : w0.heap.size ≤ w1.heap.size := HG1.out.size
    clear ho1 hb1
    refine hK _ _ (fun _ => (show w1.rangeAt w.heap.size 0 (nodeC leaf A c) ∧ w1.cell? ⟨w.heap.size, 99, none⟩ = some (.slice As n cs) from ⟨HCk.out _ HBx1.out, HCs.out _ HBx1.out⟩)) ?_
    clear hK K'
    try simp only [Act.put, List.setIfInBounds_toArray, List.set_cons_zero, List.set_cons_succ]
    refine wpAnyY_one (i := 7) (by kernel_rfl) rfl (fun K' hK => ?_)
    go_simp
    refine hK _ _ (fun _ => ⟨HCk.out _ (HBx1.out.alloc _), HCs.out _ (HBx1.out.alloc _)⟩) ?_
    clear hK K'
    try simp only [Act.put, List.setIfInBounds_toArray, List.set_cons_zero, List.set_cons_succ]
    refine wpAnyY_one (i := 8) (by kernel_rfl) rfl (fun K' hK => ?_)
    refine step_append_rd rfl (.tmp 9) (.tmp 14) 24 rfl b8_one w0.heap.size 5 i0 _ 1 Try.underlying24 hi0 hz0 hz1 hz2 rfl _ _ rfl (HO1.out.alloc (.cells #[.int .u8 (bv (beAt (n : Int) 0))] 5)) _ _ 1 1 [beAt (n : Int) 0] rfl rfl (Rd.new b8 w1 5 [beAt (n : Int) 0]) (by rw [HNl.out]; simp only [List.length_singleton, maxLen]; omega) (by rw [HNl.out]; simp only [List.length_singleton]; omega) (by rw [World.size_alloc]; omega) ?_
    intro v3 w3 hown3 hg3 hbb3
    have HO3 := Lib.hid hown3
    have HG3 := Lib.hid (hbb3 _ _ (Nat.le_refl _) (HG1.out.alloc hq1 (.cells #[.int .u8 (bv (beAt (n : Int) 0))] 5)))
    have HBx3 := Lib.hid (HBx.out.below HG3.out (by omega))
    clear hown3 hg3 hbb3
    refine hK _ _ (fun _ => ⟨HCk.out _ HBx3.out, HCs.out _ HBx3.out⟩) ?_
    clear hK K'
    try simp only [Act.put, List.setIfInBounds_toArray, List.set_cons_zero, List.set_cons_succ]
    refine wpAnyY_one (i := 9) (by kernel_rfl) rfl (fun K' hK => ?_)
    go_simp
    refine hK _ _ (fun h => absurd rfl h) (wpAnyY_done (by kernel_rfl) ?_ _)
    clear hK K' hS hf
    obtain ⟨hd, hhd⟩ : ∃ hd, hd = nodeB leaf ++ [beAt (n : Int) 0] := ⟨_, rfl⟩
    have hhl : hd.length = 100 + leaf.um.length := by rw [hhd, List.length_append, HNl.out]; simp; omega
    have ho3 := HO3.out
    rw [← hhd] at ho3
    have HO3 := Lib.hid ho3
    have HHd := Lib.hid hhd
    have HHl := Lib.hid hhl
    clear ho3 hhd hhl
    go_wp2_with fail
    go_loopw [3, 4] (fun rv iv wr => ∃ k : Nat, k ≤ n ∧ iv = .int .i64 (k : Int) ∧ Own b8 wr w0.heap.size 5 rv (hd ++ stepsB (steps.take k)) ∧ Below w0.heap.size w0 wr) (fun _ iv _ => n - (intOf iv).toNat)
    case atStart => exact ⟨0, by omega, rfl, HO3.out.cast (by simp [stepsB]), HG3.out⟩
    case round =>
      obtain ⟨k, hk, rfl, ho, hb⟩ := hrel
      have HOr := Lib.hid ho
      have HGr := Lib.hid hb
      have HWr := Lib.hid (HB0.out.trans (hb.mono (show w.heap.size ≤ w0.heap.size by omega)))
      have c99 := HCs.out _ (HBx.out.below hb (by omega))
      have hqr : w0.heap.size ≤ wr.heap.size := hb.size
      by_cases hlt : k < n
      · have hlt' : (k : Int) < (n : Int) := by omega
        obtain ⟨t, ht⟩ : ∃ t, steps[k]? = some t := ⟨steps[k]'(by rw [← HN.out]; omega), List.getElem?_eq_getElem _⟩
        obtain ⟨b, off, e1, hbb, hc1⟩ := (HR.out.below (HWr.out.mono hB')).elem ht
        subst e1
        have hel := HR.out.el t (List.mem_of_getElem? ht)
        have HC := Lib.hid hc1
        have HEl := Lib.hid hel
        have HLen := Lib.hid (stepC_len hel.key)
        have hgs : stepBad t = false := by
          have h := stepsBad_off HG.out (k + 1)
          rw [stepsBad_succ steps k t ht, Bool.or_eq_false_iff] at h
          exact h.2
        obtain ⟨hm255, hrg⟩ := step_good hgs
        have HSu := Lib.hid (stepsB_succ steps k t ht)
        have hLk : (stepsB (steps.take k)).length ≤ 5 * 16711968 := by
          have h := stepsB_len (ss := steps.take k) (fun s hs => (HR.out.el s (List.mem_of_mem_take hs)).key) (stepsBad_off HG.out k)
          rw [List.length_take] at h
          have h2 : min k steps.length * 16711968 ≤ 5 * 16711968 := Nat.mul_le_mul_right _ (by omega)
          exact Nat.le_trans h h2
        obtain ⟨pre, hpre⟩ : ∃ pre, pre = hd ++ stepsB (steps.take k) := ⟨_, rfl⟩
        have hprel : pre.length ≤ 90000000 := by rw [hpre, List.length_append, HHl.out]; omega
        rw [← hpre] at HOr
        have HPre := Lib.hid hpre
        obtain ⟨m, hm⟩ : ∃ m, m = t.rows.length := ⟨_, rfl⟩
        rw [← hm] at hm255
        have HM := Lib.hid hm
        have HRg := Lib.hid hrg
        have hfm := beAt0 (m : Int)
        have HCf := Lib.hid (fun (W : World) (h : Blk W wr.heap.size 144 t.cells) => (show W.cell? ⟨wr.heap.size, 32, none⟩ = some (.slice t.A m t.c) from h.one (pre := t.key.map b8) (post := []) (by unfold StepT.cells; rw [← hm]) (by rw [List.length_map]; exact hel.key)))
        have HCy := Lib.hid (fun (W : World) (h : Blk W wr.heap.size 144 t.cells) => (show W.rangeAt wr.heap.size 0 (t.key.map b8) from h.piece (pre := []) rfl rfl))
        clear ho hb ht hc1 hel hgs hrg hLk hpre hm
        go_wp2_with (first
          | (refine wpList_load_midw (by first | rfl | go_simp) 144 (.tmp 26) rfl b (off + k * 33) rfl t.cells _ HC.out Try.underlying144 rfl (by rw [HLen.out]; exact infoStep) ?_)
          | (refine wpList_store_blk rfl 144 _ _ rfl wr.heap.size rfl t.cells rfl _ _ (Blk.new wr 144 zStep) (by rw [zStep_len, HLen.out]) (by rw [HLen.out]; exact infoStep) (stepC_one t) ?_; intro w2 hp2 hg2; have HP2 := Lib.hid hp2; have hb2 := below_box hg2; have HO2 := Lib.hid (HOr.out.below hb2 (Nat.le_refl _)); have HG2 := Lib.hid (HGr.out.trans (hb2.mono hqr)); have c32 := HCf.out w2 hp2; have hsz2 : wr.heap.size + 1 ≤ w2.heap.size := hp2.lt; clear hp2 hg2 hb2))
        have hkl : t.key.length = 32 := HEl.out.key
        have HKl := Lib.hid hkl
        clear hkl c99
        go_region_held3 (fun w' => w'.cell? ⟨wr.heap.size, 32, none⟩ = some (.slice t.A m t.c))
          (first
            | exact HCf.out _ HP5.out
            | exact HCf.out _ HP4.out
            | exact HCf.out _ (HP4.out.alloc _)
            | exact HCf.out _ (HP2.out.alloc _).drew
            | go_keep)
          (first
            | (refine step_append_rd rfl (.tmp 28) (.tmp 30) 24 rfl b8_one w0.heap.size 5 i0 _ 1 Try.underlying24 hi0 hz0 hz1 hz2 rfl _ _ rfl HO2.out.drew (wr.heap.size + 1) _ 32 32 t.key rfl HKl.out.symm (rd_of_range (HCy.out _ HP2.out.drew)) (by rw [HKl.out]; simp only [maxLen]; omega) (by rw [HKl.out]; omega) (by show w0.heap.size ≤ w2.heap.size; omega) ?_; intro v4 w4 hown4 hg4 hbb4; have HO4 := Lib.hid hown4; have HG4 := Lib.hid (hbb4 _ _ (Nat.le_refl _) HG2.out.drew); have HP4 := Lib.hid (HP2.out.drew.grown hg4.by_ (HP2.out.drew.not_row (by decide) HO2.out.drew)); have hq4 : w0.heap.size ≤ w4.heap.size := HG4.out.size; clear hown4 hg4 hbb4)
            | (refine step_append_rd rfl (.tmp 28) (.tmp 30) 24 rfl b8_one w0.heap.size 5 i0 _ 1 Try.underlying24 hi0 hz0 hz1 hz2 rfl _ _ rfl (HO2.out.alloc (.cells #[.int .u8 (bv (beAt (m : Int) 0))] 5)).drew (wr.heap.size + 1) _ 32 32 t.key rfl HKl.out.symm (rd_of_range (HCy.out _ (HP2.out.alloc (.cells #[.int .u8 (bv (beAt (m : Int) 0))] 5)).drew)) (by rw [HKl.out]; simp only [maxLen]; omega) (by rw [HKl.out]; omega) (by show w0.heap.size ≤ (w2.alloc (.cells #[.int .u8 (bv (beAt (m : Int) 0))] 5)).heap.size; rw [World.size_alloc]; omega) ?_; intro v4 w4 hown4 hg4 hbb4; have HO4 := Lib.hid hown4; have HG4 := Lib.hid (hbb4 _ _ (Nat.le_refl _) (HG2.out.alloc (by omega) (.cells #[.int .u8 (bv (beAt (m : Int) 0))] 5)).drew); have HP4 := Lib.hid ((HP2.out.alloc (.cells #[.int .u8 (bv (beAt (m : Int) 0))] 5)).drew.grown hg4.by_ ((HP2.out.alloc (.cells #[.int .u8 (bv (beAt (m : Int) 0))] 5)).drew.not_row (by decide) (HO2.out.alloc (.cells #[.int .u8 (bv (beAt (m : Int) 0))] 5)).drew)); have hq4 : w0.heap.size ≤ w4.heap.size := HG4.out.size; have HRL4 := Lib.hid (rd_far ((Rd.new b8 w2 5 [beAt (m : Int) 0]).below (Below.refl _ _).drew) hg4.by_ (by show w2.heap.size < (w2.alloc (.cells #[.int .u8 (bv (beAt (m : Int) 0))] 5)).heap.size; rw [World.size_alloc]; omega) (fun e => by have := HO2.out.lt _ e; omega)); clear hown4 hg4 hbb4)
            | (refine step_append_rd rfl (.tmp 31) (.tmp 36) 24 rfl b8_one w0.heap.size 5 i0 _ 1 Try.underlying24 hi0 hz0 hz1 hz2 rfl _ _ rfl HO4.out _ _ 1 1 [beAt (m : Int) 0] rfl rfl HRL4.out (by rw [List.length_append, HKl.out]; simp only [List.length_singleton, maxLen]; omega) (by rw [List.length_append, HKl.out]; simp only [List.length_singleton]; omega) (by omega) ?_; intro v5 w5 hown5 hg5 hbb5; have HO5 := Lib.hid hown5; have HG5 := Lib.hid (hbb5 _ _ (Nat.le_refl _) HG4.out); have HP5 := Lib.hid (HP4.out.grown hg5.by_ (HP4.out.not_row (by decide) HO4.out)); clear hown5 hg5 hbb5)
            | (refine step_append_rd rfl (.tmp 31) (.tmp 36) 24 rfl b8_one w0.heap.size 5 i0 _ 1 Try.underlying24 hi0 hz0 hz1 hz2 rfl _ _ rfl (HO4.out.alloc (.cells #[.int .u8 (bv (beAt (m : Int) 0))] 5)) (w4.heap.size + 1) _ 1 1 [beAt (m : Int) 0] rfl rfl (Rd.new b8 w4 5 [beAt (m : Int) 0]) (by rw [List.length_append, HKl.out]; simp only [List.length_singleton, maxLen]; omega) (by rw [List.length_append, HKl.out]; simp only [List.length_singleton]; omega) (by rw [World.size_alloc]; omega) ?_; intro v5 w5 hown5 hg5 hbb5; have HO5 := Lib.hid hown5; have HG5 := Lib.hid (hbb5 _ _ (Nat.le_refl _) (HG4.out.alloc (by omega) (.cells #[.int .u8 (bv (beAt (m : Int) 0))] 5))); have HP5 := Lib.hid ((HP4.out.alloc (.cells #[.int .u8 (bv (beAt (m : Int) 0))] 5)).grown hg5.by_ ((HP4.out.alloc (.cells #[.int .u8 (bv (beAt (m : Int) 0))] 5)).not_row (by decide) (HO4.out.alloc (.cells #[.int .u8 (bv (beAt (m : Int) 0))] 5)))); clear hown5 hg5 hbb5))
        all_goals (clear c32 hfm; go_wp2_with fail)
        · skip
          obtain ⟨pre2, hpre2⟩ : ∃ p2, p2 = pre ++ t.key ++ [beAt (m : Int) 0] := ⟨_, rfl⟩
          have hp2l : pre2.length ≤ 90000040 := by rw [hpre2, List.length_append, List.length_append, HKl.out]; simp only [List.length_singleton]; omega
          have ho5 := HO5.out
          rw [← hpre2] at ho5
          have HO5 := Lib.hid ho5
          have HPre2 := Lib.hid hpre2
          clear ho5 hpre2
          go_loopw [3, 6] (fun rv jv wi => ∃ j : Nat, j ≤ m ∧ jv = .int .i64 (j : Int) ∧ Own b8 wi w0.heap.size 5 rv (pre2 ++ rowsB (t.rows.take j)) ∧ Below w0.heap.size w0 wi ∧ Blk wi wr.heap.size 144 t.cells) (fun _ jv _ => m - (intOf jv).toNat)
          case atStart => exact ⟨0, by omega, rfl, HO5.out.cast (by simp [rowsB]), HG5.out, HP5.out⟩
          case round =>
            obtain ⟨j, hj, rfl, hoj, hgj, hpj⟩ := hrel
            have HOj := Lib.hid hoj
            have HGj := Lib.hid hgj
            have HPj := Lib.hid hpj
            have c32 := HCf.out _ hpj
            have hqj : w0.heap.size ≤ wr.heap.size := hgj.size
            have HWj := Lib.hid (HB0.out.trans (hgj.mono (show w.heap.size ≤ w0.heap.size by omega)))
            by_cases hjlt : j < m
            · have hjlt' : (j : Int) < (m : Int) := by omega
              obtain ⟨r, hrr⟩ : ∃ r, t.rows[j]? = some r := ⟨t.rows[j]'(by rw [← HM.out]; omega), List.getElem?_eq_getElem _⟩
              have hrows := HEl.out.rows.below (HWj.out.mono hB')
              obtain ⟨rb, ro, e2, hbb2, hc2⟩ := hrows.elem hrr
              obtain ⟨l, hl⟩ : ∃ l, l = r.xs.length := ⟨_, rfl⟩
              have d1 : wr.cell? ⟨rb, ro + j, none⟩ = some (.slice r.A l r.c) := by rw [hl]; exact hc2
              have hl65 : l ≤ 65535 := by rw [hl]; exact HRg.out r (List.mem_of_getElem? hrr)
              have HRx := Lib.hid (hrows.xs r (List.mem_of_getElem? hrr)).1
              have HL := Lib.hid hl
              have HSr := Lib.hid (rowsB_succ t.rows j r hrr)
              have hjl : (rowsB (t.rows.take j)).length ≤ 255 * 65537 := by
                have h := rowsB_len (rs := t.rows.take j) (fun x hx => HRg.out x (List.mem_of_mem_take hx))
                rw [List.length_take] at h
                exact Nat.le_trans h (Nat.mul_le_mul_right _ (by omega))
              have HOl := Lib.hid (show (pre2 ++ rowsB (t.rows.take j)).length ≤ 110000000 by rw [List.length_append]; omega)
              rw [e2] at c32
              clear hoj hgj hpj hrr hrows hc2 hl e2 hjl
              go_wp2_with fail
              refine (row9_any HRx.out (by have := HWj.out.size; omega) HL.out.symm (by omega)).mono ?_
              rintro e w6 ⟨v6, rfl, ho6, hb6⟩
              obtain ⟨A6, c6, rfl, hr6, -, -, -⟩ := ho6.shape' (n := 2 + l) (by rw [rowB_len, HL.out])
              have HR6 := Lib.hid hr6
              have HO6 := Lib.hid (HOj.out.below hb6 (Nat.le_refl _))
              have HG6 := Lib.hid (HGj.out.trans (hb6.mono hqj))
              have HP6 := Lib.hid (HPj.out.below hb6 HPj.out.lt)
              have hq6 : w0.heap.size ≤ w6.heap.size := HG6.out.size
              clear ho6 hr6 hb6
              go_wp2_with (at_builtin; refine wpList_append_rd rfl (.tmp 45) (.tmp 51) 24 rfl b8_one w0.heap.size 5 i0 _ 1 Try.underlying24 hi0 hz0 hz1 hz2 rfl _ _ rfl HO6.out w6.heap.size A6 (2 + l) c6 (rowB r.xs) rfl (by rw [rowB_len, HL.out]) HR6.out (by rw [rowB_len, ← HL.out]; have := HOl.out; simp only [maxLen]; omega) (by rw [rowB_len, ← HL.out]; have := HOl.out; omega) (by omega) ?_; intro v7 w7 hown7 hg7 hbb7; have HO7 := Lib.hid hown7; have HG7 := Lib.hid (hbb7 _ _ (Nat.le_refl _) HG6.out); have HP7 := Lib.hid (HP6.out.grown hg7.by_ (HP6.out.not_row (by decide) HO6.out)); clear hown7 hg7 hbb7)
              refine ⟨⟨j + 1, by omega, by congr 1, HO7.out.cast (by rw [HSr.out, List.append_assoc]), HG7.out, HP7.out⟩, by show m - ((j : Int) + 1).toNat < m - (j : Int).toNat; omega⟩
            · obtain rfl : j = m := by omega
              clear hoj hgj hpj
              go_wp2_with fail
              refine ⟨⟨k + 1, by omega, by congr 1, HOj.out.cast ?_, HGj.out⟩, by show n - ((k : Int) + 1).toNat < n - (k : Int).toNat; omega⟩
              rw [HSu.out, HPre2.out, HPre.out, show t.rows.take j = t.rows from List.take_of_length_le (by have := HM.out; omega)]
              unfold stepB
              rw [← HM.out]
              simp [be, List.append_assoc]
        · skip
          obtain ⟨pre2, hpre2⟩ : ∃ p2, p2 = pre ++ t.key ++ [beAt (m : Int) 0] := ⟨_, rfl⟩
          have hp2l : pre2.length ≤ 90000040 := by rw [hpre2, List.length_append, List.length_append, HKl.out]; simp only [List.length_singleton]; omega
          have ho5 := HO5.out
          rw [← hpre2] at ho5
          have HO5 := Lib.hid ho5
          have HPre2 := Lib.hid hpre2
          clear ho5 hpre2
          go_loopw [3, 6] (fun rv jv wi => ∃ j : Nat, j ≤ m ∧ jv = .int .i64 (j : Int) ∧ Own b8 wi w0.heap.size 5 rv (pre2 ++ rowsB (t.rows.take j)) ∧ Below w0.heap.size w0 wi ∧ Blk wi wr.heap.size 144 t.cells) (fun _ jv _ => m - (intOf jv).toNat)
          case atStart => exact ⟨0, by omega, rfl, HO5.out.cast (by simp [rowsB]), HG5.out, HP5.out⟩
          case round =>
            obtain ⟨j, hj, rfl, hoj, hgj, hpj⟩ := hrel
            have HOj := Lib.hid hoj
            have HGj := Lib.hid hgj
            have HPj := Lib.hid hpj
            have c32 := HCf.out _ hpj
            have hqj : w0.heap.size ≤ wr.heap.size := hgj.size
            have HWj := Lib.hid (HB0.out.trans (hgj.mono (show w.heap.size ≤ w0.heap.size by omega)))
            by_cases hjlt : j < m
            · have hjlt' : (j : Int) < (m : Int) := by omega
              obtain ⟨r, hrr⟩ : ∃ r, t.rows[j]? = some r := ⟨t.rows[j]'(by rw [← HM.out]; omega), List.getElem?_eq_getElem _⟩
              have hrows := HEl.out.rows.below (HWj.out.mono hB')
              obtain ⟨rb, ro, e2, hbb2, hc2⟩ := hrows.elem hrr
              obtain ⟨l, hl⟩ : ∃ l, l = r.xs.length := ⟨_, rfl⟩
              have d1 : wr.cell? ⟨rb, ro + j, none⟩ = some (.slice r.A l r.c) := by rw [hl]; exact hc2
              have hl65 : l ≤ 65535 := by rw [hl]; exact HRg.out r (List.mem_of_getElem? hrr)
              have HRx := Lib.hid (hrows.xs r (List.mem_of_getElem? hrr)).1
              have HL := Lib.hid hl
              have HSr := Lib.hid (rowsB_succ t.rows j r hrr)
              have hjl : (rowsB (t.rows.take j)).length ≤ 255 * 65537 := by
                have h := rowsB_len (rs := t.rows.take j) (fun x hx => HRg.out x (List.mem_of_mem_take hx))
                rw [List.length_take] at h
                exact Nat.le_trans h (Nat.mul_le_mul_right _ (by omega))
              have HOl := Lib.hid (show (pre2 ++ rowsB (t.rows.take j)).length ≤ 110000000 by rw [List.length_append]; omega)
              rw [e2] at c32
              clear hoj hgj hpj hrr hrows hc2 hl e2 hjl
              go_wp2_with fail
              refine (row9_any HRx.out (by have := HWj.out.size; omega) HL.out.symm (by omega)).mono ?_
              rintro e w6 ⟨v6, rfl, ho6, hb6⟩
              obtain ⟨A6, c6, rfl, hr6, -, -, -⟩ := ho6.shape' (n := 2 + l) (by rw [rowB_len, HL.out])
              have HR6 := Lib.hid hr6
              have HO6 := Lib.hid (HOj.out.below hb6 (Nat.le_refl _))
              have HG6 := Lib.hid (HGj.out.trans (hb6.mono hqj))
              have HP6 := Lib.hid (HPj.out.below hb6 HPj.out.lt)
              have hq6 : w0.heap.size ≤ w6.heap.size := HG6.out.size
              clear ho6 hr6 hb6
              go_wp2_with (at_builtin; refine wpList_append_rd rfl (.tmp 45) (.tmp 51) 24 rfl b8_one w0.heap.size 5 i0 _ 1 Try.underlying24 hi0 hz0 hz1 hz2 rfl _ _ rfl HO6.out w6.heap.size A6 (2 + l) c6 (rowB r.xs) rfl (by rw [rowB_len, HL.out]) HR6.out (by rw [rowB_len, ← HL.out]; have := HOl.out; simp only [maxLen]; omega) (by rw [rowB_len, ← HL.out]; have := HOl.out; omega) (by omega) ?_; intro v7 w7 hown7 hg7 hbb7; have HO7 := Lib.hid hown7; have HG7 := Lib.hid (hbb7 _ _ (Nat.le_refl _) HG6.out); have HP7 := Lib.hid (HP6.out.grown hg7.by_ (HP6.out.not_row (by decide) HO6.out)); clear hown7 hg7 hbb7)
              refine ⟨⟨j + 1, by omega, by congr 1, HO7.out.cast (by rw [HSr.out, List.append_assoc]), HG7.out, HP7.out⟩, by show m - ((j : Int) + 1).toNat < m - (j : Int).toNat; omega⟩
            · obtain rfl : j = m := by omega
              clear hoj hgj hpj
              go_wp2_with fail
              refine ⟨⟨k + 1, by omega, by congr 1, HOj.out.cast ?_, HGj.out⟩, by show n - ((k : Int) + 1).toNat < n - (k : Int).toNat; omega⟩
              rw [HSu.out, HPre2.out, HPre.out, show t.rows.take j = t.rows from List.take_of_length_le (by have := HM.out; omega)]
              unfold stepB
              rw [← HM.out]
              simp [be, List.append_assoc]
      · obtain rfl : k = n := by omega
        clear hb ho
        go_wp2_with fail
        go_ret
        refine ⟨_, rfl, (HOr.out.less (show w.heap.size ≤ w0.heap.size by omega)).cast ?_, HWr.out⟩
        rw [List.take_of_length_le (by rw [HN.out]; omega), HHd.out]
        simp [be, List.append_assoc]
  · go_simp
    refine hK _ _ (fun _ => ⟨HCk.out _ (HBx.out.alloc _).drew, HCs.out _ (HBx.out.alloc _).drew⟩) ?_
    clear hK K'
    try simp only [Act.put, List.setIfInBounds_toArray, List.set_cons_zero, List.set_cons_succ]
    refine wpAnyY_one (i := 2) (by kernel_rfl) rfl (fun K' hK => ?_)
    go_simp
    go_at_call 66
    have hsA : w0.heap.size + 1 ≤ (w0.alloc (.cells #[.int .u8 (bv (beAt (n : Int) 0))] 5)).drew.heap.size := by show w0.heap.size + 1 ≤ (w0.alloc (.cells #[.int .u8 (bv (beAt (n : Int) 0))] 5)).heap.size; simp
    refine (HNd.out (w0.alloc (.cells #[.int .u8 (bv (beAt (n : Int) 0))] 5)).drew (HB0.out.alloc (by omega) (.cells #[.int .u8 (bv (beAt (n : Int) 0))] 5)).drew).mono ?_
    rintro e w1 ⟨v1, rfl, ho1, hb1⟩
    have HO1 := Lib.hid (ho1.less (show w0.heap.size ≤ (w0.alloc (.cells #[.int .u8 (bv (beAt (n : Int) 0))] 5)).drew.heap.size by omega))
    have HRL := Lib.hid (((Rd.new b8 w0 5 [beAt (n : Int) 0]).below (Below.refl _ _).drew).below (hb1.mono hsA))
    have HG1 := Lib.hid (show Below w0.heap.size w0 w1 from ((Below.refl w0.heap.size w0).alloc (Nat.le_refl _) (.cells #[.int .u8 (bv (beAt (n : Int) 0))] 5)).drew.trans (hb1.mono (by omega)))
    have HBx1 := Lib.hid (HBx.out.below HG1.out (by omega))
    have hq1 : w0.heap.size ≤ w1.heap.size := HG1.out.size
    clear ho1 hb1 hsA
    refine hK _ _ (fun _ => ⟨HCk.out _ HBx1.out, HCs.out _ HBx1.out⟩) ?_
    clear hK K'
    try simp only [Act.put, List.setIfInBounds_toArray, List.set_cons_zero, List.set_cons_succ]
    refine wpAnyY_one (i := 8) (by kernel_rfl) rfl (fun K' hK => ?_)
    refine step_append_rd rfl (.tmp 9) (.tmp 14) 24 rfl b8_one w0.heap.size 5 i0 _ 1 Try.underlying24 hi0 hz0 hz1 hz2 rfl _ _ rfl HO1.out _ _ 1 1 [beAt (n : Int) 0] rfl rfl HRL.out (by rw [HNl.out]; simp only [List.length_singleton, maxLen]; omega) (by rw [HNl.out]; simp only [List.length_singleton]; omega) (by omega) ?_
    intro v3 w3 hown3 hg3 hbb3
    have HO3 := Lib.hid hown3
    have HG3 := Lib.hid (hbb3 _ _ (Nat.le_refl _) HG1.out)
    have HBx3 := Lib.hid (HBx.out.below HG3.out (by omega))
    clear hown3 hg3 hbb3
    refine hK _ _ (fun _ => ⟨HCk.out _ HBx3.out, HCs.out _ HBx3.out⟩) ?_
    clear hK K'
    try simp only [Act.put, List.setIfInBounds_toArray, List.set_cons_zero, List.set_cons_succ]
    refine wpAnyY_one (i := 9) (by kernel_rfl) rfl (fun K' hK => ?_)
    go_simp
    refine hK _ _ (fun h => absurd rfl h) (wpAnyY_done (by kernel_rfl) ?_ _)
    clear hK K' hS hf
    obtain ⟨hd, hhd⟩ : ∃ hd, hd = nodeB leaf ++ [beAt (n : Int) 0] := ⟨_, rfl⟩
    have hhl : hd.length = 100 + leaf.um.length := by rw [hhd, List.length_append, HNl.out]; simp; omega
    have ho3 := HO3.out
    rw [← hhd] at ho3
    have HO3 := Lib.hid ho3
    have HHd := Lib.hid hhd
    have HHl := Lib.hid hhl
    clear ho3 hhd hhl
    go_wp2_with fail
    go_loopw [3, 4] (fun rv iv wr => ∃ k : Nat, k ≤ n ∧ iv = .int .i64 (k : Int) ∧ Own b8 wr w0.heap.size 5 rv (hd ++ stepsB (steps.take k)) ∧ Below w0.heap.size w0 wr) (fun _ iv _ => n - (intOf iv).toNat)
    case atStart => exact ⟨0, by omega, rfl, HO3.out.cast (by simp [stepsB]), HG3.out⟩
    case round =>
      obtain ⟨k, hk, rfl, ho, hb⟩ := hrel
      have HOr := Lib.hid ho
      have HGr := Lib.hid hb
      have HWr := Lib.hid (HB0.out.trans (hb.mono (show w.heap.size ≤ w0.heap.size by omega)))
      have c99 := HCs.out _ (HBx.out.below hb (by omega))
      have hqr : w0.heap.size ≤ wr.heap.size := hb.size
      by_cases hlt : k < n
      · have hlt' : (k : Int) < (n : Int) := by omega
        obtain ⟨t, ht⟩ : ∃ t, steps[k]? = some t := ⟨steps[k]'(by rw [← HN.out]; omega), List.getElem?_eq_getElem _⟩
        obtain ⟨b, off, e1, hbb, hc1⟩ := (HR.out.below (HWr.out.mono hB')).elem ht
        subst e1
        have hel := HR.out.el t (List.mem_of_getElem? ht)
        have HC := Lib.hid hc1
        have HEl := Lib.hid hel
        have HLen := Lib.hid (stepC_len hel.key)
        have hgs : stepBad t = false := by
          have h := stepsBad_off HG.out (k + 1)
          rw [stepsBad_succ steps k t ht, Bool.or_eq_false_iff] at h
          exact h.2
        obtain ⟨hm255, hrg⟩ := step_good hgs
        have HSu := Lib.hid (stepsB_succ steps k t ht)
        have hLk : (stepsB (steps.take k)).length ≤ 5 * 16711968 := by
          have h := stepsB_len (ss := steps.take k) (fun s hs => (HR.out.el s (List.mem_of_mem_take hs)).key) (stepsBad_off HG.out k)
          rw [List.length_take] at h
          have h2 : min k steps.length * 16711968 ≤ 5 * 16711968 := Nat.mul_le_mul_right _ (by omega)
          exact Nat.le_trans h h2
        obtain ⟨pre, hpre⟩ : ∃ pre, pre = hd ++ stepsB (steps.take k) := ⟨_, rfl⟩
        have hprel : pre.length ≤ 90000000 := by rw [hpre, List.length_append, HHl.out]; omega
        rw [← hpre] at HOr
        have HPre := Lib.hid hpre
        obtain ⟨m, hm⟩ : ∃ m, m = t.rows.length := ⟨_, rfl⟩
        rw [← hm] at hm255
        have HM := Lib.hid hm
        have HRg := Lib.hid hrg
        have hfm := beAt0 (m : Int)
        have HCf := Lib.hid (fun (W : World) (h : Blk W wr.heap.size 144 t.cells) => (show W.cell? ⟨wr.heap.size, 32, none⟩ = some (.slice t.A m t.c) from h.one (pre := t.key.map b8) (post := []) (by unfold StepT.cells; rw [← hm]) (by rw [List.length_map]; exact hel.key)))
        have HCy := Lib.hid (fun (W : World) (h : Blk W wr.heap.size 144 t.cells) => (show W.rangeAt wr.heap.size 0 (t.key.map b8) from h.piece (pre := []) rfl rfl))
        clear ho hb ht hc1 hel hgs hrg hLk hpre hm
        go_wp2_with (first
          | (refine wpList_load_midw (by first | rfl | go_simp) 144 (.tmp 26) rfl b (off + k * 33) rfl t.cells _ HC.out Try.underlying144 rfl (by rw [HLen.out]; exact infoStep) ?_)
          | (refine wpList_store_blk rfl 144 _ _ rfl wr.heap.size rfl t.cells rfl _ _ (Blk.new wr 144 zStep) (by rw [zStep_len, HLen.out]) (by rw [HLen.out]; exact infoStep) (stepC_one t) ?_; intro w2 hp2 hg2; have HP2 := Lib.hid hp2; have hb2 := below_box hg2; have HO2 := Lib.hid (HOr.out.below hb2 (Nat.le_refl _)); have HG2 := Lib.hid (HGr.out.trans (hb2.mono hqr)); have c32 := HCf.out w2 hp2; have hsz2 : wr.heap.size + 1 ≤ w2.heap.size := hp2.lt; clear hp2 hg2 hb2))
        have hkl : t.key.length = 32 := HEl.out.key
        have HKl := Lib.hid hkl
        clear hkl c99
        go_region_held3 (fun w' => w'.cell? ⟨wr.heap.size, 32, none⟩ = some (.slice t.A m t.c))
          (first
            | exact HCf.out _ HP5.out
            | exact HCf.out _ HP4.out
            | exact HCf.out _ (HP4.out.alloc _)
            | exact HCf.out _ (HP2.out.alloc _).drew
            | go_keep)
          (first
            | (refine step_append_rd rfl (.tmp 28) (.tmp 30) 24 rfl b8_one w0.heap.size 5 i0 _ 1 Try.underlying24 hi0 hz0 hz1 hz2 rfl _ _ rfl HO2.out.drew (wr.heap.size + 1) _ 32 32 t.key rfl HKl.out.symm (rd_of_range (HCy.out _ HP2.out.drew)) (by rw [HKl.out]; simp only [maxLen]; omega) (by rw [HKl.out]; omega) (by show w0.heap.size ≤ w2.heap.size; omega) ?_; intro v4 w4 hown4 hg4 hbb4; have HO4 := Lib.hid hown4; have HG4 := Lib.hid (hbb4 _ _ (Nat.le_refl _) HG2.out.drew); have HP4 := Lib.hid (HP2.out.drew.grown hg4.by_ (HP2.out.drew.not_row (by decide) HO2.out.drew)); have hq4 : w0.heap.size ≤ w4.heap.size := HG4.out.size; clear hown4 hg4 hbb4)
            | (refine step_append_rd rfl (.tmp 28) (.tmp 30) 24 rfl b8_one w0.heap.size 5 i0 _ 1 Try.underlying24 hi0 hz0 hz1 hz2 rfl _ _ rfl (HO2.out.alloc (.cells #[.int .u8 (bv (beAt (m : Int) 0))] 5)).drew (wr.heap.size + 1) _ 32 32 t.key rfl HKl.out.symm (rd_of_range (HCy.out _ (HP2.out.alloc (.cells #[.int .u8 (bv (beAt (m : Int) 0))] 5)).drew)) (by rw [HKl.out]; simp only [maxLen]; omega) (by rw [HKl.out]; omega) (by show w0.heap.size ≤ (w2.alloc (.cells #[.int .u8 (bv (beAt (m : Int) 0))] 5)).heap.size; rw [World.size_alloc]; omega) ?_; intro v4 w4 hown4 hg4 hbb4; have HO4 := Lib.hid hown4; have HG4 := Lib.hid (hbb4 _ _ (Nat.le_refl _) (HG2.out.alloc (by omega) (.cells #[.int .u8 (bv (beAt (m : Int) 0))] 5)).drew); have HP4 := Lib.hid ((HP2.out.alloc (.cells #[.int .u8 (bv (beAt (m : Int) 0))] 5)).drew.grown hg4.by_ ((HP2.out.alloc (.cells #[.int .u8 (bv (beAt (m : Int) 0))] 5)).drew.not_row (by decide) (HO2.out.alloc (.cells #[.int .u8 (bv (beAt (m : Int) 0))] 5)).drew)); have hq4 : w0.heap.size ≤ w4.heap.size := HG4.out.size; have HRL4 := Lib.hid (rd_far ((Rd.new b8 w2 5 [beAt (m : Int) 0]).below (Below.refl _ _).drew) hg4.by_ (by show w2.heap.size < (w2.alloc (.cells #[.int .u8 (bv (beAt (m : Int) 0))] 5)).heap.size; rw [World.size_alloc]; omega) (fun e => by have := HO2.out.lt _ e; omega)); clear hown4 hg4 hbb4)
            | (refine step_append_rd rfl (.tmp 31) (.tmp 36) 24 rfl b8_one w0.heap.size 5 i0 _ 1 Try.underlying24 hi0 hz0 hz1 hz2 rfl _ _ rfl HO4.out _ _ 1 1 [beAt (m : Int) 0] rfl rfl HRL4.out (by rw [List.length_append, HKl.out]; simp only [List.length_singleton, maxLen]; omega) (by rw [List.length_append, HKl.out]; simp only [List.length_singleton]; omega) (by omega) ?_; intro v5 w5 hown5 hg5 hbb5; have HO5 := Lib.hid hown5; have HG5 := Lib.hid (hbb5 _ _ (Nat.le_refl _) HG4.out); have HP5 := Lib.hid (HP4.out.grown hg5.by_ (HP4.out.not_row (by decide) HO4.out)); clear hown5 hg5 hbb5)
            | (refine step_append_rd rfl (.tmp 31) (.tmp 36) 24 rfl b8_one w0.heap.size 5 i0 _ 1 Try.underlying24 hi0 hz0 hz1 hz2 rfl _ _ rfl (HO4.out.alloc (.cells #[.int .u8 (bv (beAt (m : Int) 0))] 5)) (w4.heap.size + 1) _ 1 1 [beAt (m : Int) 0] rfl rfl (Rd.new b8 w4 5 [beAt (m : Int) 0]) (by rw [List.length_append, HKl.out]; simp only [List.length_singleton, maxLen]; omega) (by rw [List.length_append, HKl.out]; simp only [List.length_singleton]; omega) (by rw [World.size_alloc]; omega) ?_; intro v5 w5 hown5 hg5 hbb5; have HO5 := Lib.hid hown5; have HG5 := Lib.hid (hbb5 _ _ (Nat.le_refl _) (HG4.out.alloc (by omega) (.cells #[.int .u8 (bv (beAt (m : Int) 0))] 5))); have HP5 := Lib.hid ((HP4.out.alloc (.cells #[.int .u8 (bv (beAt (m : Int) 0))] 5)).grown hg5.by_ ((HP4.out.alloc (.cells #[.int .u8 (bv (beAt (m : Int) 0))] 5)).not_row (by decide) (HO4.out.alloc (.cells #[.int .u8 (bv (beAt (m : Int) 0))] 5)))); clear hown5 hg5 hbb5))
        all_goals (clear c32 hfm; go_wp2_with fail)
        · skip
          obtain ⟨pre2, hpre2⟩ : ∃ p2, p2 = pre ++ t.key ++ [beAt (m : Int) 0] := ⟨_, rfl⟩
          have hp2l : pre2.length ≤ 90000040 := by rw [hpre2, List.length_append, List.length_append, HKl.out]; simp only [List.length_singleton]; omega
          have ho5 := HO5.out
          rw [← hpre2] at ho5
          have HO5 := Lib.hid ho5
          have HPre2 := Lib.hid hpre2
          clear ho5 hpre2
          go_loopw [3, 6] (fun rv jv wi => ∃ j : Nat, j ≤ m ∧ jv = .int .i64 (j : Int) ∧ Own b8 wi w0.heap.size 5 rv (pre2 ++ rowsB (t.rows.take j)) ∧ Below w0.heap.size w0 wi ∧ Blk wi wr.heap.size 144 t.cells) (fun _ jv _ => m - (intOf jv).toNat)
          case atStart => exact ⟨0, by omega, rfl, HO5.out.cast (by simp [rowsB]), HG5.out, HP5.out⟩
          case round =>
            obtain ⟨j, hj, rfl, hoj, hgj, hpj⟩ := hrel
            have HOj := Lib.hid hoj
            have HGj := Lib.hid hgj
            have HPj := Lib.hid hpj
            have c32 := HCf.out _ hpj
            have hqj : w0.heap.size ≤ wr.heap.size := hgj.size
            have HWj := Lib.hid (HB0.out.trans (hgj.mono (show w.heap.size ≤ w0.heap.size by omega)))
            by_cases hjlt : j < m
            · have hjlt' : (j : Int) < (m : Int) := by omega
              obtain ⟨r, hrr⟩ : ∃ r, t.rows[j]? = some r := ⟨t.rows[j]'(by rw [← HM.out]; omega), List.getElem?_eq_getElem _⟩
              have hrows := HEl.out.rows.below (HWj.out.mono hB')
              obtain ⟨rb, ro, e2, hbb2, hc2⟩ := hrows.elem hrr
              obtain ⟨l, hl⟩ : ∃ l, l = r.xs.length := ⟨_, rfl⟩
              have d1 : wr.cell? ⟨rb, ro + j, none⟩ = some (.slice r.A l r.c) := by rw [hl]; exact hc2
              have hl65 : l ≤ 65535 := by rw [hl]; exact HRg.out r (List.mem_of_getElem? hrr)
              have HRx := Lib.hid (hrows.xs r (List.mem_of_getElem? hrr)).1
              have HL := Lib.hid hl
              have HSr := Lib.hid (rowsB_succ t.rows j r hrr)
              have hjl : (rowsB (t.rows.take j)).length ≤ 255 * 65537 := by
                have h := rowsB_len (rs := t.rows.take j) (fun x hx => HRg.out x (List.mem_of_mem_take hx))
                rw [List.length_take] at h
                exact Nat.le_trans h (Nat.mul_le_mul_right _ (by omega))
              have HOl := Lib.hid (show (pre2 ++ rowsB (t.rows.take j)).length ≤ 110000000 by rw [List.length_append]; omega)
              rw [e2] at c32
              clear hoj hgj hpj hrr hrows hc2 hl e2 hjl
              go_wp2_with fail
              refine (row9_any HRx.out (by have := HWj.out.size; omega) HL.out.symm (by omega)).mono ?_
              rintro e w6 ⟨v6, rfl, ho6, hb6⟩
              obtain ⟨A6, c6, rfl, hr6, -, -, -⟩ := ho6.shape' (n := 2 + l) (by rw [rowB_len, HL.out])
              have HR6 := Lib.hid hr6
              have HO6 := Lib.hid (HOj.out.below hb6 (Nat.le_refl _))
              have HG6 := Lib.hid (HGj.out.trans (hb6.mono hqj))
              have HP6 := Lib.hid (HPj.out.below hb6 HPj.out.lt)
              have hq6 : w0.heap.size ≤ w6.heap.size := HG6.out.size
              clear ho6 hr6 hb6
              go_wp2_with (at_builtin; refine wpList_append_rd rfl (.tmp 45) (.tmp 51) 24 rfl b8_one w0.heap.size 5 i0 _ 1 Try.underlying24 hi0 hz0 hz1 hz2 rfl _ _ rfl HO6.out w6.heap.size A6 (2 + l) c6 (rowB r.xs) rfl (by rw [rowB_len, HL.out]) HR6.out (by rw [rowB_len, ← HL.out]; have := HOl.out; simp only [maxLen]; omega) (by rw [rowB_len, ← HL.out]; have := HOl.out; omega) (by omega) ?_; intro v7 w7 hown7 hg7 hbb7; have HO7 := Lib.hid hown7; have HG7 := Lib.hid (hbb7 _ _ (Nat.le_refl _) HG6.out); have HP7 := Lib.hid (HP6.out.grown hg7.by_ (HP6.out.not_row (by decide) HO6.out)); clear hown7 hg7 hbb7)
              refine ⟨⟨j + 1, by omega, by congr 1, HO7.out.cast (by rw [HSr.out, List.append_assoc]), HG7.out, HP7.out⟩, by show m - ((j : Int) + 1).toNat < m - (j : Int).toNat; omega⟩
            · obtain rfl : j = m := by omega
              clear hoj hgj hpj
              go_wp2_with fail
              refine ⟨⟨k + 1, by omega, by congr 1, HOj.out.cast ?_, HGj.out⟩, by show n - ((k : Int) + 1).toNat < n - (k : Int).toNat; omega⟩
              rw [HSu.out, HPre2.out, HPre.out, show t.rows.take j = t.rows from List.take_of_length_le (by have := HM.out; omega)]
              unfold stepB
              rw [← HM.out]
              simp [be, List.append_assoc]
        · skip
          obtain ⟨pre2, hpre2⟩ : ∃ p2, p2 = pre ++ t.key ++ [beAt (m : Int) 0] := ⟨_, rfl⟩
          have hp2l : pre2.length ≤ 90000040 := by rw [hpre2, List.length_append, List.length_append, HKl.out]; simp only [List.length_singleton]; omega
          have ho5 := HO5.out
          rw [← hpre2] at ho5
          have HO5 := Lib.hid ho5
          have HPre2 := Lib.hid hpre2
          clear ho5 hpre2
          go_loopw [3, 6] (fun rv jv wi => ∃ j : Nat, j ≤ m ∧ jv = .int .i64 (j : Int) ∧ Own b8 wi w0.heap.size 5 rv (pre2 ++ rowsB (t.rows.take j)) ∧ Below w0.heap.size w0 wi ∧ Blk wi wr.heap.size 144 t.cells) (fun _ jv _ => m - (intOf jv).toNat)
          case atStart => exact ⟨0, by omega, rfl, HO5.out.cast (by simp [rowsB]), HG5.out, HP5.out⟩
          case round =>
            obtain ⟨j, hj, rfl, hoj, hgj, hpj⟩ := hrel
            have HOj := Lib.hid hoj
            have HGj := Lib.hid hgj
            have HPj := Lib.hid hpj
            have c32 := HCf.out _ hpj
            have hqj : w0.heap.size ≤ wr.heap.size := hgj.size
            have HWj := Lib.hid (HB0.out.trans (hgj.mono (show w.heap.size ≤ w0.heap.size by omega)))
            by_cases hjlt : j < m
            · have hjlt' : (j : Int) < (m : Int) := by omega
              obtain ⟨r, hrr⟩ : ∃ r, t.rows[j]? = some r := ⟨t.rows[j]'(by rw [← HM.out]; omega), List.getElem?_eq_getElem _⟩
              have hrows := HEl.out.rows.below (HWj.out.mono hB')
              obtain ⟨rb, ro, e2, hbb2, hc2⟩ := hrows.elem hrr
              obtain ⟨l, hl⟩ : ∃ l, l = r.xs.length := ⟨_, rfl⟩
              have d1 : wr.cell? ⟨rb, ro + j, none⟩ = some (.slice r.A l r.c) := by rw [hl]; exact hc2
              have hl65 : l ≤ 65535 := by rw [hl]; exact HRg.out r (List.mem_of_getElem? hrr)
              have HRx := Lib.hid (hrows.xs r (List.mem_of_getElem? hrr)).1
              have HL := Lib.hid hl
              have HSr := Lib.hid (rowsB_succ t.rows j r hrr)
              have hjl : (rowsB (t.rows.take j)).length ≤ 255 * 65537 := by
                have h := rowsB_len (rs := t.rows.take j) (fun x hx => HRg.out x (List.mem_of_mem_take hx))
                rw [List.length_take] at h
                exact Nat.le_trans h (Nat.mul_le_mul_right _ (by omega))
              have HOl := Lib.hid (show (pre2 ++ rowsB (t.rows.take j)).length ≤ 110000000 by rw [List.length_append]; omega)
              rw [e2] at c32
              clear hoj hgj hpj hrr hrows hc2 hl e2 hjl
              go_wp2_with fail
              refine (row9_any HRx.out (by have := HWj.out.size; omega) HL.out.symm (by omega)).mono ?_
              rintro e w6 ⟨v6, rfl, ho6, hb6⟩
              obtain ⟨A6, c6, rfl, hr6, -, -, -⟩ := ho6.shape' (n := 2 + l) (by rw [rowB_len, HL.out])
              have HR6 := Lib.hid hr6
              have HO6 := Lib.hid (HOj.out.below hb6 (Nat.le_refl _))
              have HG6 := Lib.hid (HGj.out.trans (hb6.mono hqj))
              have HP6 := Lib.hid (HPj.out.below hb6 HPj.out.lt)
              have hq6 : w0.heap.size ≤ w6.heap.size := HG6.out.size
              clear ho6 hr6 hb6
              go_wp2_with (at_builtin; refine wpList_append_rd rfl (.tmp 45) (.tmp 51) 24 rfl b8_one w0.heap.size 5 i0 _ 1 Try.underlying24 hi0 hz0 hz1 hz2 rfl _ _ rfl HO6.out w6.heap.size A6 (2 + l) c6 (rowB r.xs) rfl (by rw [rowB_len, HL.out]) HR6.out (by rw [rowB_len, ← HL.out]; have := HOl.out; simp only [maxLen]; omega) (by rw [rowB_len, ← HL.out]; have := HOl.out; omega) (by omega) ?_; intro v7 w7 hown7 hg7 hbb7; have HO7 := Lib.hid hown7; have HG7 := Lib.hid (hbb7 _ _ (Nat.le_refl _) HG6.out); have HP7 := Lib.hid (HP6.out.grown hg7.by_ (HP6.out.not_row (by decide) HO6.out)); clear hown7 hg7 hbb7)
              refine ⟨⟨j + 1, by omega, by congr 1, HO7.out.cast (by rw [HSr.out, List.append_assoc]), HG7.out, HP7.out⟩, by show m - ((j : Int) + 1).toNat < m - (j : Int).toNat; omega⟩
            · obtain rfl : j = m := by omega
              clear hoj hgj hpj
              go_wp2_with fail
              refine ⟨⟨k + 1, by omega, by congr 1, HOj.out.cast ?_, HGj.out⟩, by show n - ((k : Int) + 1).toNat < n - (k : Int).toNat; omega⟩
              rw [HSu.out, HPre2.out, HPre.out, show t.rows.take j = t.rows from List.take_of_length_le (by have := HM.out; omega)]
              unfold stepB
              rw [← HM.out]
              simp [be, List.append_assoc]
      · obtain rfl : k = n := by omega
        clear hb ho
        go_wp2_with fail
        go_ret
        refine ⟨_, rfl, (HOr.out.less (show w.heap.size ≤ w0.heap.size by omega)).cast ?_, HWr.out⟩
        rw [List.take_of_length_le (by rw [HN.out]; omega), HHd.out]
        simp [be, List.append_assoc]
end Go.Proofs.Ytloglpamnalmeaa
