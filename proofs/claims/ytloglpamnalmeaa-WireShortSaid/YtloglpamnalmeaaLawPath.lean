/- CONTRACT: burrowlaw09.path. -/
import Derived.Test.YtloglpamnalmeaaCommP
namespace Go.Proofs.Ytloglpamnalmeaa
open Go.RowKit
set_option linter.unusedVariables false
set_option linter.unusedSimpArgs false

set_option maxRecDepth 100000 in
set_option maxHeartbeats 4000000 in
theorem lawPath_any {w : World} {B' : Nat} {p : PathT} (hl : p.leaf.Ok) (hr : RdS w B' p.As p.steps) (hB' : B' ≤ w.heap.size) (hmax : p.steps.length ≤ 9223372036854775807) :
    Calls Try.prog 35 #[.agg p.cells.toArray] w fun e w' => ∃ q, e = .returned (.bool q) ∧ (q = true → p.leaf.um.length < 100) ∧ Below w.heap.size w w' := by
  obtain ⟨leaf, A, c, steps, As, cs⟩ := p
  dsimp only at hl hr hmax ⊢
  obtain ⟨P, hP⟩ : ∃ P, P = PathT.cells ⟨leaf, A, c, steps, As, cs⟩ := ⟨_, rfl⟩
  have hPe : P = nodeC leaf A c ++ [.slice As steps.length cs] := hP
  rw [← hP]
  clear hP
  have HR := Lib.hid hr
  have HLn := Lib.hid (nodeC_len hl A c)
  have HBx := Lib.hid (Blk.new w 80 P)
  have HB0 := Lib.hid ((Below.refl w.heap.size w).alloc (Nat.le_refl _) (.cells P.toArray 80))
  have hs0 := World.size_alloc w (.cells P.toArray 80)
  have HCk := Lib.hid (fun (W : World) (h : Blk W w.heap.size 80 P) => (show W.rangeAt w.heap.size 0 (nodeC leaf A c) from h.piece (pre := []) hPe rfl))
  have HCs := Lib.hid (fun (W : World) (h : Blk W w.heap.size 80 P) => (show W.cell? ⟨w.heap.size, 99, none⟩ = some (.slice As steps.length cs) from h.one (pre := nodeC leaf A c) (post := []) hPe (nodeC_len hl _ _)))
  obtain ⟨lt, hlt⟩ : ∃ lt, lt = decide ((leaf.um.length : Int) < 100) := ⟨_, rfl⟩
  have hlaw := fun W => lawNode_any leaf hl A c W
  rw [← hlt] at hlaw
  have HLaw := Lib.hid hlaw
  have HLt := Lib.hid (show lt = true → leaf.um.length < 100 from fun h => by rw [h] at hlt; have := hlt.symm; simp at this; omega)
  obtain ⟨n, hn⟩ : ∃ n, n = steps.length := ⟨_, rfl⟩
  rw [← hn] at HCs hmax
  have HN := Lib.hid hn
  clear hl hr hlt hlaw hn hPe
  cases lt with
  | false =>
    go_enter Try.func35, Try.ntmps35
    go_wp2_with (refine wpList_load_midw (by first | rfl | go_simp) 50 (.tmp 7) rfl w.heap.size 0 rfl (nodeC leaf A c) _ (HCk.out _ HBx.out) Try.underlying50 rfl (by rw [HLn.out]; exact infoNode) ?_)
    generalize World.alloc w _ = w0 at HBx HB0 hs0 ⊢
    refine (HLaw.out _).mono ?_
    rintro e w1 ⟨rfl, hb1⟩
    have HBx1 := Lib.hid (HBx.out.below hb1 (by omega))
    have HB1 := Lib.hid (HB0.out.trans (hb1.mono (by omega)))
    have c99 := HCs.out _ HBx1.out
    have hs1 : w.heap.size + 1 ≤ w1.heap.size := HBx1.out.lt
    clear hb1
    go_wp2_with fail
    go_ret
    exact ⟨false, rfl, (fun h => by cases h), HB1.out⟩
  | true =>
    by_cases hn10 : 10 < n
    · have hn10' : (10 : Int) < (n : Int) := by omega
      clear hn10
      go_enter Try.func35, Try.ntmps35
      go_wp2_with (refine wpList_load_midw (by first | rfl | go_simp) 50 (.tmp 7) rfl w.heap.size 0 rfl (nodeC leaf A c) _ (HCk.out _ HBx.out) Try.underlying50 rfl (by rw [HLn.out]; exact infoNode) ?_)
      generalize World.alloc w _ = w0 at HBx HB0 hs0 ⊢
      refine (HLaw.out _).mono ?_
      rintro e w1 ⟨rfl, hb1⟩
      have HBx1 := Lib.hid (HBx.out.below hb1 (by omega))
      have HB1 := Lib.hid (HB0.out.trans (hb1.mono (by omega)))
      have c99 := HCs.out _ HBx1.out
      have hs1 : w.heap.size + 1 ≤ w1.heap.size := HBx1.out.lt
      clear hb1
      go_wp2_with fail
      go_ret
      exact ⟨false, rfl, (fun h => by cases h), HB1.out⟩
    · have hn10' : ((10 : Int) < (n : Int)) = False := by simp; omega
      go_enter Try.func35, Try.ntmps35
      go_wp2_with (refine wpList_load_midw (by first | rfl | go_simp) 50 (.tmp 7) rfl w.heap.size 0 rfl (nodeC leaf A c) _ (HCk.out _ HBx.out) Try.underlying50 rfl (by rw [HLn.out]; exact infoNode) ?_)
      generalize World.alloc w _ = w0 at HBx HB0 hs0 ⊢
      refine (HLaw.out _).mono ?_
      rintro e w1 ⟨rfl, hb1⟩
      have HBx1 := Lib.hid (HBx.out.below hb1 (by omega))
      have HB1 := Lib.hid (HB0.out.trans (hb1.mono (by omega)))
      have c99 := HCs.out _ HBx1.out
      have hs1 : w.heap.size + 1 ≤ w1.heap.size := HBx1.out.lt
      clear hb1
      clear hn10'
      go_wp2_with fail
      go_loopw [20] (fun iv wr => ∃ k : Nat, k ≤ n ∧ iv = .int .i64 (k : Int) ∧ Below w.heap.size w wr) (fun iv _ => n - (intOf iv).toNat)
      case atStart => exact ⟨0, by omega, rfl, HB1.out⟩
      case round =>
        obtain ⟨k, hk, rfl, hb⟩ := hrel
        have HB := Lib.hid hb
        have hszr : w.heap.size ≤ wr.heap.size := hb.size
        by_cases hlt : k < n
        · have hlt' : (k : Int) < (n : Int) := by omega
          obtain ⟨t, ht⟩ : ∃ t, steps[k]? = some t := ⟨steps[k]'(by rw [← HN.out]; omega), List.getElem?_eq_getElem _⟩
          obtain ⟨b, off, e1, hbb, hc1⟩ := (HR.out.below (hb.mono hB')).elem ht
          subst e1
          have HT := Lib.hid ht
          have HC := Lib.hid hc1
          have hel := HR.out.el t (List.mem_of_getElem? ht)
          have HEl := Lib.hid hel
          have HLen := Lib.hid (stepC_len hel.key)
          have hlm := hel.len
          clear hb ht hc1 hel
          obtain ⟨m, hm⟩ : ∃ m, m = t.rows.length := ⟨_, rfl⟩
          rw [← hm] at hlm
          have HM := Lib.hid hm
          clear hm
          have hF := fun (W : World) (h : Blk W wr.heap.size 144 t.cells) => (show W.cell? ⟨wr.heap.size, 32, none⟩ = some (.slice t.A m t.c) from h.one (pre := t.key.map b8) (post := []) (by unfold StepT.cells; rw [← HM.out]) (by rw [List.length_map]; exact HEl.out.key))
          have HCf := Lib.hid hF
          clear hF
          by_cases hm300 : 300 < m
          · have hm3 : (300 : Int) < (m : Int) := by omega
            go_wp2_with (first
              | (refine wpList_load_midw (by first | rfl | go_simp) 144 (.tmp 22) rfl b (off + k * 33) rfl t.cells _ HC.out Try.underlying144 rfl (by rw [HLen.out]; exact infoStep) ?_)
              | (refine wpList_store_blk rfl 144 _ _ rfl wr.heap.size rfl t.cells rfl _ _ (Blk.new wr 144 zStep) (by rw [zStep_len, HLen.out]) (by rw [HLen.out]; exact infoStep) (stepC_one t) ?_; intro w2 hp2 hg2; have HP2 := Lib.hid hp2; have hb2 := below_box hg2; have HB2 := Lib.hid (HB.out.trans (hb2.mono hszr)); have c32 := HCf.out w2 hp2; have hsz2 := hb2.size; clear hp2 hg2 hb2))
            go_ret
            exact ⟨false, rfl, (fun h => by cases h), HB2.out⟩
          · have hm3 : ((300 : Int) < (m : Int)) = False := by simp; omega
            go_wp2_with (first
              | (refine wpList_load_midw (by first | rfl | go_simp) 144 (.tmp 22) rfl b (off + k * 33) rfl t.cells _ HC.out Try.underlying144 rfl (by rw [HLen.out]; exact infoStep) ?_)
              | (refine wpList_store_blk rfl 144 _ _ rfl wr.heap.size rfl t.cells rfl _ _ (Blk.new wr 144 zStep) (by rw [zStep_len, HLen.out]) (by rw [HLen.out]; exact infoStep) (stepC_one t) ?_; intro w2 hp2 hg2; have HP2 := Lib.hid hp2; have hb2 := below_box hg2; have HB2 := Lib.hid (HB.out.trans (hb2.mono hszr)); have c32 := HCf.out w2 hp2; have hsz2 := hb2.size; clear hp2 hg2 hb2))
            clear hm3 c32
            go_loopw [31] (fun jv wi => ∃ j : Nat, j ≤ m ∧ jv = .int .i64 (j : Int) ∧ Below w.heap.size w wi) (fun jv _ => m - (intOf jv).toNat)
            case atStart => exact ⟨0, by omega, rfl, HB2.out⟩
            case round =>
              obtain ⟨j, hj, rfl, hbj⟩ := hrel
              have HBj := Lib.hid hbj
              by_cases hjlt : j < m
              · have hjlt' : (j : Int) < (m : Int) := by omega
                obtain ⟨r, hrr⟩ : ∃ r, t.rows[j]? = some r := ⟨t.rows[j]'(by rw [← HM.out]; omega), List.getElem?_eq_getElem _⟩
                obtain ⟨rb, ro, e2, hbb2, hc2⟩ := (HEl.out.rows.below (hbj.mono hB')).elem hrr
                obtain ⟨l, hl⟩ : ∃ l, l = r.xs.length := ⟨_, rfl⟩
                have d1 : wr.cell? ⟨rb, ro + j, none⟩ = some (.slice r.A l r.c) := by rw [hl]; exact hc2
                have hxl : l ≤ 9223372036854775807 := by rw [hl]; exact (HEl.out.rows.xs r (List.mem_of_getElem? hrr)).2
                rw [e2]
                clear hbj hrr hc2 hl e2
                by_cases hl1 : 300 < l
                · have hl1' : (300 : Int) < (l : Int) := by omega
                  by_cases hl2 : l < 65536
                  · have hl2' : (l : Int) < 65536 := by omega
                    go_wp2_with fail
                    go_ret
                    exact ⟨false, rfl, (fun h => by cases h), HBj.out⟩
                  · have hl2' : ((l : Int) < 65536) = False := by simp; omega
                    go_wp2_with fail
                    exact ⟨⟨j + 1, by omega, by congr 1, HBj.out⟩, by show m - ((j : Int) + 1).toNat < m - (j : Int).toNat; omega⟩
                · have hl1' : ((300 : Int) < (l : Int)) = False := by simp; omega
                  go_wp2_with fail
                  exact ⟨⟨j + 1, by omega, by congr 1, HBj.out⟩, by show m - ((j : Int) + 1).toNat < m - (j : Int).toNat; omega⟩
              · obtain rfl : j = m := by omega
                clear hbj
                go_wp2_with fail
                exact ⟨⟨k + 1, by omega, by congr 1, HBj.out⟩, by show n - ((k : Int) + 1).toNat < n - (k : Int).toNat; omega⟩
        · obtain rfl : k = n := by omega
          clear hb
          go_wp2_with fail
          go_ret
          exact ⟨true, rfl, fun _ => HLt.out (by trivial), HB.out⟩
end Go.Proofs.Ytloglpamnalmeaa
