/- CONTRACTS: burrowref09.PathGood. -/
import Derived.Test.YtloglpamnalmeaaCommP
import Derived.Test.YtloglpamnalmeaaRefPropB
namespace Go.Proofs.Ytloglpamnalmeaa
open Go.RowKit
set_option linter.unusedVariables false
set_option linter.unusedSimpArgs false

theorem step_rows {w : World} {b o : Nat} {t : StepT} (h : w.rangeAt b o t.cells) (hk : t.key.length = 32) : w.cell? ⟨b, o + 32, none⟩ = some (.slice t.A t.rows.length t.c) := by
  refine h 32 _ ?_
  unfold StepT.cells
  rw [List.getElem?_append_right (by simp [hk])]
  simp [hk]
set_option maxRecDepth 100000 in
set_option maxHeartbeats 4000000 in
theorem pathGood_any {w : World} {B' : Nat} {p : PathT} (hr : RdP w B' p) (hB' : B' ≤ w.heap.size) :
    Calls Try.prog 84 #[.agg p.cells.toArray] w fun e w' => e = .returned (.bool (!pathBad p)) ∧ Below w.heap.size w w' := by
  obtain ⟨leaf, A, c, steps, As, cs⟩ := p
  obtain ⟨hl, hum, huml, hst, hmax⟩ := hr
  dsimp only at hl hum huml hst hmax ⊢
  have hpb : pathBad ⟨leaf, A, c, steps, As, cs⟩ = (nodeBad leaf || outOf steps.length 5 || stepsBad steps) := rfl
  rw [hpb]
  obtain ⟨P, hP⟩ : ∃ P, P = PathT.cells ⟨leaf, A, c, steps, As, cs⟩ := ⟨_, rfl⟩
  have hPe : P = nodeC leaf A c ++ [.slice As steps.length cs] := hP
  rw [← hP]
  clear hP hpb
  have HR := Lib.hid hst
  have HLn := Lib.hid (nodeC_len hl A c)
  have HBx := Lib.hid (Blk.new w 80 P)
  have HB0 := Lib.hid ((Below.refl w.heap.size w).alloc (Nat.le_refl _) (.cells P.toArray 80))
  have hs0 := World.size_alloc w (.cells P.toArray 80)
  have HCk := Lib.hid (fun (W : World) (h : Blk W w.heap.size 80 P) => (show W.rangeAt w.heap.size 0 (nodeC leaf A c) from h.piece (pre := []) hPe rfl))
  have HCs := Lib.hid (fun (W : World) (h : Blk W w.heap.size 80 P) => (show W.cell? ⟨w.heap.size, 99, none⟩ = some (.slice As steps.length cs) from h.one (pre := nodeC leaf A c) (post := []) hPe (nodeC_len hl _ _)))
  have HNg := Lib.hid (fun W (hb : Below w.heap.size w W) => nodeGood_any leaf hl (c := c) (hum.below (hb.mono hB')) (by have := hb.size; omega))
  obtain ⟨nb, hnb⟩ : ∃ nb, nb = nodeBad leaf := ⟨_, rfl⟩
  rw [← hnb] at HNg ⊢
  obtain ⟨n, hn⟩ : ∃ n, n = steps.length := ⟨_, rfl⟩
  rw [← hn] at HCs hmax ⊢
  have HN := Lib.hid hn
  clear hl hum hst hnb hn hPe
  cases nb with
  | true =>
    go_enter Try.func84, Try.ntmps84
    go_wp2_with (refine wpList_load_midw (by first | rfl | go_simp) 50 (.tmp 5) rfl w.heap.size 0 rfl (nodeC leaf A c) _ (HCk.out _ HBx.out) Try.underlying50 rfl (by rw [HLn.out]; exact infoNode) ?_)
    generalize World.alloc w _ = w0 at HBx HB0 hs0 ⊢
    refine (HNg.out _ HB0.out).mono ?_
    rintro e w1 ⟨rfl, hb1⟩
    have HBx1 := Lib.hid (HBx.out.below hb1 (by omega))
    have HB1 := Lib.hid (Below.refl (w.heap.size + 1) w1)
    have HW1 := Lib.hid (HB0.out.trans (hb1.mono (by omega)))
    have c99 := HCs.out _ HBx1.out
    have hs1 : w.heap.size + 1 ≤ w1.heap.size := HBx1.out.lt
    clear hb1
    go_wp2_with fail
    go_ret
    exact ⟨by simp, HW1.out⟩
  | false =>
    by_cases hn5 : 5 < n
    · have hn5' : (5 : Int) < (n : Int) := by omega
      have e : outOf (n : Int) 5 = true := by unfold outOf; simp; omega
      rw [e]
      clear hn5 e
      go_enter Try.func84, Try.ntmps84
      go_wp2_with (refine wpList_load_midw (by first | rfl | go_simp) 50 (.tmp 5) rfl w.heap.size 0 rfl (nodeC leaf A c) _ (HCk.out _ HBx.out) Try.underlying50 rfl (by rw [HLn.out]; exact infoNode) ?_)
      generalize World.alloc w _ = w0 at HBx HB0 hs0 ⊢
      refine (HNg.out _ HB0.out).mono ?_
      rintro e w1 ⟨rfl, hb1⟩
      have HBx1 := Lib.hid (HBx.out.below hb1 (by omega))
      have HB1 := Lib.hid (Below.refl (w.heap.size + 1) w1)
      have HW1 := Lib.hid (HB0.out.trans (hb1.mono (by omega)))
      have c99 := HCs.out _ HBx1.out
      have hs1 : w.heap.size + 1 ≤ w1.heap.size := HBx1.out.lt
      clear hb1
      go_wp2_with fail
      go_ret
      exact ⟨by simp, HW1.out⟩
    · have hn5' : ((5 : Int) < (n : Int)) = False := by simp; omega
      have e : outOf (n : Int) 5 = false := by unfold outOf; simp; omega
      rw [e]
      clear e
      simp only [Bool.false_or]
      go_enter Try.func84, Try.ntmps84
      go_wp2_with (refine wpList_load_midw (by first | rfl | go_simp) 50 (.tmp 5) rfl w.heap.size 0 rfl (nodeC leaf A c) _ (HCk.out _ HBx.out) Try.underlying50 rfl (by rw [HLn.out]; exact infoNode) ?_)
      generalize World.alloc w _ = w0 at HBx HB0 hs0 ⊢
      refine (HNg.out _ HB0.out).mono ?_
      rintro e w1 ⟨rfl, hb1⟩
      have HBx1 := Lib.hid (HBx.out.below hb1 (by omega))
      have HB1 := Lib.hid (Below.refl (w.heap.size + 1) w1)
      have HW1 := Lib.hid (HB0.out.trans (hb1.mono (by omega)))
      have c99 := HCs.out _ HBx1.out
      have hs1 : w.heap.size + 1 ≤ w1.heap.size := HBx1.out.lt
      clear hb1
      go_wp2_with fail
      clear hn5' c99
      go_loopw [3] (fun iv wr => ∃ k : Nat, k ≤ n ∧ iv = .int .i64 (k : Int) ∧ stepsBad (steps.take k) = false ∧ Below (w.heap.size + 1) w1 wr) (fun iv _ => n - (intOf iv).toNat)
      case atStart => exact ⟨0, by omega, rfl, rfl, HB1.out⟩
      case round =>
        obtain ⟨k, hk, rfl, hsb, hb⟩ := hrel
        have HB := Lib.hid hb
        have HSb := Lib.hid hsb
        have HBxr := Lib.hid (HBx1.out.below hb (by omega))
        have HWr := Lib.hid (HW1.out.trans (hb.mono (by omega)))
        have c99 := HCs.out _ HBxr.out
        by_cases hlt : k < n
        · have hlt' : (k : Int) < (n : Int) := by omega
          obtain ⟨t, ht⟩ : ∃ t, steps[k]? = some t := ⟨steps[k]'(by rw [← HN.out]; omega), List.getElem?_eq_getElem _⟩
          obtain ⟨b, off, e1, hbb, hc1⟩ := (HR.out.below (HWr.out.mono hB')).elem ht
          subst e1
          have HT := Lib.hid ht
          have hel := HR.out.el t (List.mem_of_getElem? ht)
          have HEl := Lib.hid hel
          obtain ⟨m, hm⟩ : ∃ m, m = t.rows.length := ⟨_, rfl⟩
          have HM := Lib.hid hm
          have HC := Lib.hid (show ∀ W, Below (w.heap.size + 1) w1 W → W.cell? ⟨b, off + k * 33 + 32, none⟩ = some (.slice t.A m t.c) from fun W hW => by
            obtain ⟨b', off', e', -, hc'⟩ := (HR.out.below ((HW1.out.trans (hW.mono (by omega))).mono hB')).elem ht
            cases e'
            rw [hm]; exact step_rows hc' hel.key)
          have hlm : m ≤ 9223372036854775807 := by rw [hm]; exact hel.len
          have crow := HC.out wr hb
          clear hb ht hc1 hel hm hsb
          have hsbk : stepsBad (steps.take (k + 1)) = (outOf (m : Int) 255 || rowsBad t.rows) := by rw [stepsBad_succ steps k t HT.out, HSb.out, HM.out]; rfl
          have HSk := Lib.hid hsbk
          have HSt := Lib.hid (fun h => stepsBad_take steps (k + 1) h)
          clear hsbk
          by_cases hm255 : 255 < m
          · have hm3 : (255 : Int) < (m : Int) := by omega
            have e : outOf (m : Int) 255 = true := by unfold outOf; simp; omega
            have e2 : stepsBad steps = true := HSt.out (by rw [HSk.out, e]; rfl)
            have HE2 := Lib.hid e2
            clear e e2
            go_wp2_with fail
            go_ret
            exact ⟨by rw [HE2.out]; rfl, HWr.out⟩
          · have hm3 : ((255 : Int) < (m : Int)) = False := by simp; omega
            have e : outOf (m : Int) 255 = false := by unfold outOf; simp; omega
            rw [e, Bool.false_or] at HSk
            clear e
            go_wp2_with fail
            clear hm3 crow c99
            go_loopw [4] (fun jv wi => ∃ j : Nat, j ≤ m ∧ jv = .int .i64 (j : Int) ∧ rowsBad (t.rows.take j) = false ∧ Below (w.heap.size + 1) w1 wi) (fun jv _ => m - (intOf jv).toNat)
            case atStart => exact ⟨0, by omega, rfl, rfl, HB.out⟩
            case round =>
              obtain ⟨j, hj, rfl, hrb, hbj⟩ := hrel
              have HBj := Lib.hid hbj
              have HRb := Lib.hid hrb
              have c99 := HCs.out _ (HBx1.out.below hbj (by omega))
              have crow := HC.out wr hbj
              have HWj := Lib.hid (HW1.out.trans (hbj.mono (by omega)))
              by_cases hjlt : j < m
              · have hjlt' : (j : Int) < (m : Int) := by omega
                obtain ⟨r, hrr⟩ : ∃ r, t.rows[j]? = some r := ⟨t.rows[j]'(by rw [← HM.out]; omega), List.getElem?_eq_getElem _⟩
                obtain ⟨rb, ro, e2, hbb2, hc2⟩ := (HEl.out.rows.below (HWj.out.mono hB')).elem hrr
                obtain ⟨l, hl⟩ : ∃ l, l = r.xs.length := ⟨_, rfl⟩
                have d1 : wr.cell? ⟨rb, ro + j, none⟩ = some (.slice r.A l r.c) := by rw [hl]; exact hc2
                have hxl : l ≤ 9223372036854775807 := by rw [hl]; exact (HEl.out.rows.xs r (List.mem_of_getElem? hrr)).2
                have hrk : rowsBad (t.rows.take (j + 1)) = outOf (l : Int) 65535 := by rw [rowsBad_succ t.rows j r hrr, HRb.out, hl]; rfl
                have HRk := Lib.hid hrk
                rw [e2] at crow
                clear hbj hrr hc2 hl e2 hrk hrb
                by_cases hl1 : 65535 < l
                · have hl1' : (65535 : Int) < (l : Int) := by omega
                  have e : outOf (l : Int) 65535 = true := by unfold outOf; simp; omega
                  have e2 : stepsBad steps = true := HSt.out (by rw [HSk.out]; exact rowsBad_take t.rows (j + 1) (by rw [HRk.out, e]))
                  have HE2 := Lib.hid e2
                  clear e e2
                  go_wp2_with fail
                  go_ret
                  exact ⟨by rw [HE2.out]; rfl, HWj.out⟩
                · have hl1' : ((65535 : Int) < (l : Int)) = False := by simp; omega
                  have e : outOf (l : Int) 65535 = false := by unfold outOf; simp; omega
                  rw [e] at HRk
                  clear e
                  go_wp2_with fail
                  exact ⟨⟨j + 1, by omega, by congr 1, HRk.out, HBj.out⟩, by show m - ((j : Int) + 1).toNat < m - (j : Int).toNat; omega⟩
              · obtain rfl : j = m := by omega
                clear hbj hrb
                go_wp2_with fail
                refine ⟨⟨k + 1, by omega, by congr 1, ?_, HBj.out⟩, by show n - ((k : Int) + 1).toNat < n - (k : Int).toNat; omega⟩
                rw [HSk.out]
                have h := HRb.out
                rwa [List.take_of_length_le (by rw [HM.out]; omega)] at h
        · obtain rfl : k = n := by omega
          clear hb hsb
          go_wp2_with fail
          go_ret
          have h := HSb.out
          rw [List.take_of_length_le (by rw [HN.out]; omega)] at h
          rw [h]
          exact ⟨rfl, HWr.out⟩
end Go.Proofs.Ytloglpamnalmeaa
