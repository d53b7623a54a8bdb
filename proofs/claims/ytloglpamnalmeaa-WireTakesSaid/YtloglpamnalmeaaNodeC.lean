/- CONTRACT: burrowref09.NodeGood. -/
import Derived.Test.YtloglpamnalmeaaNodeW
import Derived.Test.YtloglpamnalmeaaPens
import Derived.BigQuiet
namespace Go.Proofs.Ytloglpamnalmeaa
open Go.RowKit
set_option linter.unusedVariables false
set_option linter.unusedSimpArgs false

set_option maxRecDepth 100000 in
set_option maxHeartbeats 2000000 in
theorem nodeGood_any (x : NodeD) (hx : x.Ok) {w : World} {B' : Nat} {A : Option Addr} {c : Nat} (hr : Rd cI w B' A x.um) (hB' : B' ≤ w.heap.size) :
    Calls Try.prog 65 #[.agg (nodeC x A c).toArray] w fun e w' => e = .returned (.bool (!nodeBad x)) ∧ Below w.heap.size w w' := by
  have HX := Lib.hid hx
  have HBx := Lib.hid (show Blk (w.alloc (.cells (nodeC x A c).toArray 50)) w.heap.size 50 (nodeC x A c) from Blk.new w _ _)
  have HR := Lib.hid (hr.alloc hB' (.cells (nodeC x A c).toArray 50))
  have HB := Lib.hid ((Below.refl w.heap.size w).alloc (Nat.le_refl _) (.cells (nodeC x A c).toArray 50))
  have k1 := nodeC_name HBx.out
  have k98 := nodeC_um HBx.out hx
  obtain ⟨bo, hbo⟩ : ∃ b, b = outOf x.name 255 := ⟨_, rfl⟩
  have hin := fun W => in9_any x.name 255 W
  rw [← hbo] at hin
  have HIn := Lib.hid hin
  obtain ⟨n, hn⟩ : ∃ n, n = x.um.length := ⟨_, rfl⟩
  rw [← hn] at k98
  have HN := Lib.hid hn
  have HO := Lib.hid hbo
  have hbad : ∀ q, q = nodeBad x → q = ((!x.used && !zeroN x) || !riseB x.um || bo || outOf n 32 || out31 x.um) := by rintro q rfl; rw [hbo, hn]; rfl
  obtain ⟨q, hq⟩ : ∃ q, q = nodeBad x := ⟨_, rfl⟩
  have HQ := Lib.hid (hbad q hq)
  rw [← hq]
  clear hx hr hn hin hbo hbad hq
  go_enter Try.func65, Try.ntmps65
  go_wp2_with fail
  refine (HIn.out _).mono ?_
  rintro e w' ⟨rfl, rfl⟩
  cases bo with
  | true =>
    go_wp2_with fail
    go_ret
    refine ⟨?_, HB.out⟩
    rw [HQ.out]; simp
  | false =>
    by_cases h32 : 32 < n
    · have h32' : (32 : Int) < (n : Int) := by omega
      go_wp2_with fail
      go_ret
      refine ⟨?_, HB.out⟩
      rw [HQ.out, show outOf n 32 = true by simp [outOf, h32']]; simp
    · have h32' : ((32 : Int) < (n : Int)) = False := by simp; omega
      have HR32 := Lib.hid h32
      have hn32 : n ≤ 32 := by omega
      clear h32
      go_wp2_with fail
      go_loopw [3] (fun iv wr => ∃ k : Nat, k ≤ n ∧ iv = .int .i64 (k : Int) ∧ out31 (x.um.take k) = false ∧ riseTo x.um k = true ∧ Below (w.heap.size + 1) (w.alloc (.cells (nodeC x A c).toArray 50)) wr) (fun iv _ => n - (intOf iv).toNat)
      case atStart => exact ⟨0, by omega, rfl, rfl, rfl, Below.refl _ _⟩
      case round =>
        obtain ⟨k, hk, rfl, ho, hrise, hb⟩ := hrel
        have HBr := Lib.hid hb
        have HOk := Lib.hid ho
        have HRk := Lib.hid hrise
        have HBxr := Lib.hid (HBx.out.below hb (by omega))
        clear k1 k98
        have k98 := nodeC_um HBxr.out HX.out
        rw [← HN.out] at k98
        clear hb ho hrise
        by_cases hlt : k < n
        · have hlt' : (k : Int) < (n : Int) := by omega
          obtain ⟨b, off, e1, hbb, hc1⟩ := (HR.out.below (HBr.out.mono (by omega))).at_ (k := k) (by rw [← HN.out]; omega)
          subst e1
          obtain ⟨z, hz⟩ : ∃ z, z = x.um[k]'(by rw [← HN.out]; omega) := ⟨_, rfl⟩
          rw [← hz] at hc1
          have d1 : wr.cell? ⟨b, off + k, none⟩ = some (.int .i64 z) := hc1
          have hzk : x.um[k]? = some z := by rw [hz]; exact List.getElem?_eq_getElem _
          have HZ := Lib.hid hzk
          obtain ⟨bz, hbz⟩ : ∃ bz, bz = outOf z 31 := ⟨_, rfl⟩
          have hin := fun W => in9_any z 31 W
          rw [← hbz] at hin
          have HInz := Lib.hid hin
          have HBz := Lib.hid hbz
          clear hc1 hz hzk hin hbz
          have HW := Lib.hid (show Below w.heap.size w wr from HB.out.trans (HBr.out.mono (by omega)))
          cases bz with
          | true =>
            go_wp2_with fail
            go_quiet (first | (go_at_call 54; exact Calls.quiet_of_same ((HInz.out _).mono fun _ _ h => ⟨h.1, h.2.symm⟩)))
            go_wp2_with fail
            go_ret
            refine ⟨?_, below_drewN HW.out _⟩
            have e := out31_take x.um (k + 1) (by rw [out31_succ x.um k z HZ.out, ← HBz.out]; simp)
            rw [HQ.out, e]; simp
          | false =>
            have HO1 := Lib.hid (show out31 (x.um.take (k + 1)) = false by rw [out31_succ x.um k z HZ.out, ← HBz.out, HOk.out]; rfl)
            by_cases hk0 : k = 0
            · subst hk0
              have d0 : wr.cell? ⟨b, off, none⟩ = some (.int .i64 z) := d1
              go_wp2_with fail
              go_quiet (first | (go_at_call 54; exact Calls.quiet_of_same ((HInz.out _).mono fun _ _ h => ⟨h.1, h.2.symm⟩)))
              go_wp2_with fail
              refine ⟨⟨1, by omega, rfl, HO1.out, ?_, below_drewN HBr.out _⟩, by show n - 1 < n - 0; omega⟩
              rw [riseTo_succ, HRk.out]; rfl
            · obtain ⟨j, rfl⟩ : ∃ j, k = j + 1 := ⟨k - 1, by omega⟩
              obtain ⟨b', off', e2, hb2, hc2⟩ := (HR.out.below (HBr.out.mono (by omega))).at_ (k := j) (by rw [← HN.out]; omega)
              cases e2
              obtain ⟨y, hy'⟩ : ∃ y, y = x.um[j]'(by rw [← HN.out]; omega) := ⟨_, rfl⟩
              rw [← hy'] at hc2
              have d2 : wr.cell? ⟨b, off + j, none⟩ = some (.int .i64 y) := hc2
              have HY := Lib.hid (show x.um.getD j 0 = y by rw [hy']; simp [List.getD, show j < x.um.length by rw [← HN.out]; omega])
              have HZ' := Lib.hid (show x.um.getD (j + 1) 0 = z by simp [List.getD, HZ.out])
              clear hc2 hy' hk0
              have hw1 : IntKind.i64.wrap ((j : Int) + 1 - 1) = (j : Int) := by rw [show (j : Int) + 1 - 1 = j by omega]; exact IntWalk.i64_in _ (by omega)
              have hpos : (0 : Int) < (j : Int) + 1 := by omega
              have hw2 : IntKind.i64.wrap ((j : Int) + 1 + 1) = (j : Int) + 1 + 1 := IntWalk.i64_in _ (by omega)
              by_cases hyx : z ≤ y
              · go_wp2_with fail
                go_quiet (first | (go_at_call 54; exact Calls.quiet_of_same ((HInz.out _).mono fun _ _ h => ⟨h.1, h.2.symm⟩)))
                go_wp2_with fail
                go_ret
                refine ⟨?_, below_drewN HW.out _⟩
                have e : riseB x.um = false := by
                  unfold riseB
                  refine riseTo_le (k := j + 2) ?_ (by rw [← HN.out]; omega)
                  rw [riseTo_succ, show j + 1 - 1 = j by omega, HZ'.out, HY.out, show (j + 1 == 0) = false by simp, show decide (y < z) = false by simp; omega]
                  simp
                rw [HQ.out, e]; simp
              · have hyx' : (z ≤ y) = False := by simp; omega
                go_wp2_with fail
                go_quiet (first | (go_at_call 54; exact Calls.quiet_of_same ((HInz.out _).mono fun _ _ h => ⟨h.1, h.2.symm⟩)))
                go_wp2_with fail
                refine ⟨⟨j + 2, by omega, by congr 1, HO1.out, ?_, below_drewN HBr.out _⟩, by show n - (j + 1 + 1 : Int).toNat < n - ((j + 1 : Nat) : Int).toNat; omega⟩
                rw [riseTo_succ, HRk.out, show j + 1 - 1 = j by omega, HZ'.out, HY.out, show decide (y < z) = true by simp; omega]; simp
        · obtain rfl : k = n := by omega
          have k0 := nodeC_used HBxr.out
          have et : x.um.take k = x.um := List.take_of_length_le (by rw [← HN.out]; omega)
          have e31 : out31 x.um = false := by have := HOk.out; rwa [et] at this
          have eR : riseB x.um = true := by unfold riseB; rw [← HN.out]; exact HRk.out
          have e32 : outOf k 32 = false := by have := HR32.out; simp [outOf]; omega
          have HQ2 := Lib.hid (show q = (!x.used && !zeroN x) by rw [HQ.out, e31, eR, e32]; simp)
          have HW := Lib.hid (show Below w.heap.size w wr from HB.out.trans (HBr.out.mono (by omega)))
          obtain ⟨u, hu⟩ : ∃ u, u = x.used := ⟨_, rfl⟩
          obtain ⟨z, hz⟩ : ∃ z, z = zeroN x := ⟨_, rfl⟩
          have HZe := Lib.hid (fun W => zero9_any x HX.out A c W)
          rw [← hz] at HZe HQ2
          rw [← hu] at k0 HQ2
          clear hu hz et e31 eR e32
          cases u with
          | true =>
            go_wp2_with fail
            go_ret
            refine ⟨?_, HW.out⟩
            rw [HQ2.out]; rfl
          | false =>
            go_wp2_with (refine wpList_load_midw (by first | rfl | go_simp) 50 (.tmp 1) rfl w.heap.size 0 rfl (nodeC x A c) _ (nodeC_whole HBxr.out HX.out) Try.underlying50 rfl (by rw [nodeC_len HX.out]; exact infoNode) ?_)
            refine (HZe.out _).mono ?_
            rintro e w1 ⟨rfl, hb1⟩
            go_wp2_with fail
            go_ret
            refine ⟨?_, HW.out.trans (hb1.mono HW.out.size)⟩
            rw [HQ2.out]; simp
end Go.Proofs.Ytloglpamnalmeaa

/- CONTRACT: burrowref09.Node. -/
namespace Go.Proofs.Ytloglpamnalmeaa
open Go.RowKit
set_option linter.unusedVariables false
set_option linter.unusedSimpArgs false

set_option maxRecDepth 100000 in
set_option maxHeartbeats 2000000 in
theorem refNode_any (x : NodeD) (hx : x.Ok) {w : World} {B' : Nat} {A : Option Addr} {c : Nat} (hr : Rd cI w B' A x.um) (hB' : B' ≤ w.heap.size) (hy : x.um.length ≤ 1000000) :
    Calls Try.prog 66 #[.agg (nodeC x A c).toArray] w fun e w' => ∃ v, e = .returned v ∧ Own b8 w' w.heap.size 5 v (nodeB x) ∧ Below w.heap.size w w' := by
  obtain ⟨i0, hi0, hz0, hz1, hz2⟩ := info_parts infoU8
  have HX := Lib.hid hx
  have HBx := Lib.hid (show Blk (w.alloc (.cells (nodeC x A c).toArray 50)) w.heap.size 50 (nodeC x A c) from Blk.new w _ _)
  have HR := Lib.hid (hr.alloc hB' (.cells (nodeC x A c).toArray 50))
  have HB := Lib.hid ((Below.refl w.heap.size w).alloc (Nat.le_refl _) (.cells (nodeC x A c).toArray 50))
  have k0 := nodeC_used HBx.out
  have k1 := nodeC_name HBx.out
  have hf := beAt0 x.name
  have hl := beAt0 (x.um.length : Int)
  obtain ⟨n, hn⟩ : ∃ n, n = x.um.length := ⟨_, rfl⟩
  obtain ⟨u, hu⟩ : ∃ u, u = x.used := ⟨_, rfl⟩
  rw [← hu] at k0
  rw [← hn] at hy hl
  have HN := Lib.hid hn
  have HU := Lib.hid hu
  clear hx hr hn hu
  have HF := Lib.hid (show ∀ W1, (w.alloc (.cells (nodeC x A c).toArray 50)).alloc (.cells #[.int .u8 0, .int .u8 (bv (beAt x.name 0))] 5) = W1 →
      Blk W1 w.heap.size 50 (nodeC x A c) ∧ Own b8 W1 (w.heap.size + 1) 5 (.slice (some ⟨w.heap.size + 1, 0, none⟩) 2 2) [0, beAt x.name 0] ∧ Rd cI W1 B' A x.um ∧ Below w.heap.size w W1 ∧ w.heap.size + 2 ≤ W1.heap.size by
    rintro W1 rfl
    have hb := HB.out.alloc (by simp) (.cells #[.int .u8 0, .int .u8 (bv (beAt x.name 0))] 5)
    have ho := Own.lit b8 (w.alloc (.cells (nodeC x A c).toArray 50)) (w.heap.size + 1) 5 [0, beAt x.name 0] (by simp) (by simp [maxLen])
    rw [World.size_alloc] at ho
    exact ⟨HBx.out.alloc _, ho, HR.out.alloc (by simp; omega) _, hb, by simp⟩)
  obtain ⟨W1, hW1⟩ : ∃ W1, W1 = (w.alloc (.cells (nodeC x A c).toArray 50)).alloc (.cells #[.int .u8 0, .int .u8 (bv (beAt x.name 0))] 5) := ⟨_, rfl⟩
  have HW1 := Lib.hid hW1
  clear hW1
  cases u with
  | true =>
    go_enter Try.func66, Try.ntmps66
    go_wp2_with (rw [← HW1.out]; obtain ⟨hbx1, ho1, hr1, hb1, hlt1⟩ := HF.out W1 HW1.out.symm; clear HW1 HF k0 k1; have k0 := (nodeC_used hbx1).trans (by rw [← HU.out]); have HBx1 := Lib.hid hbx1; have HO1 := Lib.hid ho1; have HR1 := Lib.hid hr1; have HB1 := Lib.hid hb1; obtain ⟨ce1, fr1⟩ := ho1.at_ (k := 0) (by simp); clear hbx1 ho1 hr1 hb1)
    have HF2 := Lib.hid (show ∀ W2, W1.setCell ⟨w.heap.size + 1, 0, none⟩ (.int .u8 1) = W2 →
        Blk W2 w.heap.size 50 (nodeC x A c) ∧ Own b8 W2 (w.heap.size + 1) 5 (.slice (some ⟨w.heap.size + 1, 0, none⟩) 2 2) [usedB true, beAt x.name 0] ∧ Rd cI W2 B' A x.um ∧ Below w.heap.size w W2 ∧ w.heap.size + 2 ≤ W2.heap.size by
      rintro W2 rfl
      have hs := HO1.out.set_ 0 (usedB true)
      exact ⟨HBx1.out.far (by simp) _, hs.1, HR1.out.below (((Below.refl (w.heap.size + 1) W1).setCell (p := ⟨w.heap.size + 1, 0, none⟩) (Nat.le_refl _) _).mono (by omega)), HB1.out.setCell (p := ⟨w.heap.size + 1, 0, none⟩) (by simp) _, by simpa using hlt1⟩)
    generalize hW2 : World.setCell W1 _ _ = W2
    obtain ⟨hbx2, ho2, hr2, hb2, hlt2⟩ := HF2.out W2 hW2
    have HBx2 := Lib.hid hbx2
    have HO2 := Lib.hid ho2
    have HR2 := Lib.hid hr2
    have HB2 := Lib.hid hb2
    clear hW2 HF2 k0 ce1 fr1 hbx2 ho2 hr2 hb2
    go_region_held3 (fun _ => True) (trivial) (first
        | (refine step_append_rd rfl (.tmp 13) (.tmp 15) 24 rfl b8_one (w.heap.size + 1) 5 i0 _ 1 Try.underlying24 hi0 hz0 hz1 hz2 rfl _ _ rfl HO2.out.drew (w.heap.size + 1) _ 32 32 x.key rfl HX.out.key.symm (rd_of_range (nodeC_key HBx2.out.drew HX.out)) (by have := HX.out.key; simp [maxLen]; omega) (by have := HX.out.key; simp; omega) (by show w.heap.size + 1 ≤ W2.heap.size; omega) ?_; intro v3 w3 hown3 hg3 hbb3; have HO3 := Lib.hid hown3; have HB3 := Lib.hid (hbb3 (w.heap.size + 1) W2 (Nat.le_refl _) (Below.refl _ _).drew); have HBx3 := Lib.hid (HBx2.out.below HB3.out (by omega)); have hz3 := HB3.out.size; clear hown3 hg3 hbb3)
        | (refine step_append_rd rfl (.tmp 16) (.tmp 18) 24 rfl b8_one (w.heap.size + 1) 5 i0 _ 1 Try.underlying24 hi0 hz0 hz1 hz2 rfl _ _ rfl HO3.out (w.heap.size + 1) _ 32 32 x.sign rfl HX.out.sign.symm (rd_of_range (nodeC_sign HBx3.out HX.out)) (by have := HX.out.key; have := HX.out.sign; simp [maxLen]; omega) (by have := HX.out.key; have := HX.out.sign; simp; omega) (by omega) ?_; intro v4 w4 hown4 hg4 hbb4; have HO4 := Lib.hid hown4; have HB4 := Lib.hid (hbb4 (w.heap.size + 1) W2 (Nat.le_refl _) HB3.out); have HBx4 := Lib.hid (HBx2.out.below HB4.out (by omega)); have hz4 := HB4.out.size; clear hown4 hg4 hbb4)
        | (refine step_append_rd rfl (.tmp 19) (.tmp 21) 24 rfl b8_one (w.heap.size + 1) 5 i0 _ 1 Try.underlying24 hi0 hz0 hz1 hz2 rfl _ _ rfl HO4.out (w.heap.size + 1) _ 32 32 x.par rfl HX.out.par.symm (rd_of_range (nodeC_par HBx4.out HX.out)) (by have := HX.out.key; have := HX.out.sign; have := HX.out.par; simp [maxLen]; omega) (by have := HX.out.key; have := HX.out.sign; have := HX.out.par; simp; omega) (by omega) ?_; intro v5 w5 hown5 hg5 hbb5; have HO5 := Lib.hid hown5; have HB5 := Lib.hid (hbb5 (w.heap.size + 1) W2 (Nat.le_refl _) HB4.out); have HBx5 := Lib.hid (HBx2.out.below HB5.out (by omega)); have hz5 := HB5.out.size; have k98 := nodeC_um HBx5.out HX.out; rw [← HN.out] at k98; clear hown5 hg5 hbb5))
    go_wp2_with (at_builtin; refine wpList_append_rd rfl (.tmp 23) (.tmp 28) 24 rfl b8_one (w.heap.size + 1) 5 i0 _ 1 Try.underlying24 hi0 hz0 hz1 hz2 rfl _ _ rfl (HO5.out.alloc _) (w5.heap.size + 1) _ 1 1 [beAt (n : Int) 0] rfl rfl (Rd.new b8 w5 5 [beAt (n : Int) 0]) (by have := HX.out.key; have := HX.out.sign; have := HX.out.par; simp [maxLen]; omega) (by have := HX.out.key; have := HX.out.sign; have := HX.out.par; simp; omega) (by simp; omega) ?_; intro v6 w6 hown6 hg6 hbb6; have HO6 := Lib.hid hown6; have HB6 := Lib.hid (hbb6 (w.heap.size + 1) W2 (Nat.le_refl _) (HB5.out.alloc (by omega) _)); clear hown6 hg6 hbb6)
    obtain ⟨hd, hhd⟩ : ∃ hd, hd = [usedB true, beAt x.name 0] ++ x.key ++ x.sign ++ x.par ++ [beAt (n : Int) 0] := ⟨_, rfl⟩
    have hhl : hd.length = 99 := by rw [hhd]; have := HX.out.key; have := HX.out.sign; have := HX.out.par; simp; omega
    have HHd := Lib.hid hhd
    rw [← hhd] at HO6
    have HHl := Lib.hid hhl
    clear hhd hhl hf hl k98
    go_loopw [3, 4] (fun rv iv wr => ∃ k : Nat, k ≤ n ∧ iv = .int .i64 (k : Int) ∧ Own b8 wr (w.heap.size + 1) 5 rv (hd ++ onesB (x.um.take k)) ∧ Below (w.heap.size + 1) W2 wr) (fun _ iv _ => n - (intOf iv).toNat)
    case atStart => exact ⟨0, by omega, rfl, HO6.out.cast (by simp [onesB]), HB6.out⟩
    case round =>
      obtain ⟨k, hk, rfl, ho, hb⟩ := hrel
      have HBr := Lib.hid hb
      have HOr := Lib.hid ho
      have HBxr := Lib.hid (HBx2.out.below hb (by omega))
      have k98 := nodeC_um HBxr.out HX.out
      rw [← HN.out] at k98
      have hzr : w.heap.size + 2 ≤ wr.heap.size := by have := hb.size; omega
      clear ho hb
      by_cases hlt : k < n
      · have hlt' : (k : Int) < (n : Int) := by omega
        obtain ⟨b, off, e1, hbb, hc1⟩ := (HR2.out.below (HBr.out.mono (by omega))).at_ (k := k) (by rw [← HN.out]; omega)
        subst e1
        obtain ⟨z, hz⟩ : ∃ z, z = x.um[k]'(by rw [← HN.out]; omega) := ⟨_, rfl⟩
        rw [← hz] at hc1
        have d1 : wr.cell? ⟨b, off + k, none⟩ = some (.int .i64 z) := hc1
        have hzk : x.um[k]? = some z := by rw [hz]; exact List.getElem?_eq_getElem _
        have HZ := Lib.hid hzk
        have hf := beAt0 z
        have hw1 : IntKind.i64.wrap ((k : Int) + 1) = (k : Int) + 1 := IntWalk.i64_in _ (by omega)
        clear hc1 hz hzk
        have hlen : (hd ++ onesB (x.um.take k)).length = 99 + k := by rw [List.length_append, HHl.out, onesB_len, List.length_take, ← HN.out]; omega
        have HLen := Lib.hid hlen
        clear hlen
        go_wp2_with (at_builtin; refine wpList_append_rd rfl (.tmp 37) (.tmp 44) 24 rfl b8_one (w.heap.size + 1) 5 i0 _ 1 Try.underlying24 hi0 hz0 hz1 hz2 rfl _ _ rfl (HOr.out.alloc _) (wr.heap.size + 1) _ 1 1 [beAt z 0] rfl rfl (Rd.new b8 wr 5 [beAt z 0]) (by rw [HLen.out]; simp [maxLen]; omega) (by rw [HLen.out]; simp; omega) (by simp; omega) ?_; intro v7 w7 hown7 hg7 hbb7; have HO7 := Lib.hid hown7; have HB7 := Lib.hid (hbb7 (w.heap.size + 1) W2 (Nat.le_refl _) (HBr.out.alloc (by omega) _)); clear hown7 hg7 hbb7)
        refine ⟨⟨k + 1, by omega, rfl, HO7.out.cast ?_, HB7.out⟩, by show n - ((k : Int) + 1).toNat < n - (k : Int).toNat; omega⟩
        rw [onesB_succ x.um k z HZ.out, List.append_assoc]; rfl
      · obtain rfl : k = n := by omega
        go_wp2_with fail
        go_ret
        have et : x.um.take k = x.um := List.take_of_length_le (by rw [← HN.out]; omega)
        have ho := HOr.out
        rw [et] at ho
        refine ⟨_, rfl, (ho.less (by omega)).cast ?_, HB2.out.trans (HBr.out.mono (by omega))⟩
        rw [HHd.out, nodeB, ← HU.out, ← HN.out]; simp [be]
  | false =>
    go_enter Try.func66, Try.ntmps66
    go_wp2_with (rw [← HW1.out]; obtain ⟨hbx1, ho1, hr1, hb1, hlt1⟩ := HF.out W1 HW1.out.symm; clear HW1 HF k0 k1; have k0 := (nodeC_used hbx1).trans (by rw [← HU.out]); have HBx1 := Lib.hid hbx1; have HO1 := Lib.hid ho1; have HR1 := Lib.hid hr1; have HB1 := Lib.hid hb1; obtain ⟨ce1, fr1⟩ := ho1.at_ (k := 0) (by simp); clear hbx1 ho1 hr1 hb1)
    clear k0 ce1 fr1
    replace HO1 := Lib.hid (show Own b8 W1 (w.heap.size + 1) 5 (.slice (some ⟨w.heap.size + 1, 0, none⟩) 2 2) [usedB false, beAt x.name 0] from HO1.out)
    go_region_held3 (fun _ => True) (trivial) (first
        | (refine step_append_rd rfl (.tmp 13) (.tmp 15) 24 rfl b8_one (w.heap.size + 1) 5 i0 _ 1 Try.underlying24 hi0 hz0 hz1 hz2 rfl _ _ rfl HO1.out.drew (w.heap.size + 1) _ 32 32 x.key rfl HX.out.key.symm (rd_of_range (nodeC_key HBx1.out.drew HX.out)) (by have := HX.out.key; simp [maxLen]; omega) (by have := HX.out.key; simp; omega) (by show w.heap.size + 1 ≤ W1.heap.size; omega) ?_; intro v3 w3 hown3 hg3 hbb3; have HO3 := Lib.hid hown3; have HB3 := Lib.hid (hbb3 (w.heap.size + 1) W1 (Nat.le_refl _) (Below.refl _ _).drew); have HBx3 := Lib.hid (HBx1.out.below HB3.out (by omega)); have hz3 := HB3.out.size; clear hown3 hg3 hbb3)
        | (refine step_append_rd rfl (.tmp 16) (.tmp 18) 24 rfl b8_one (w.heap.size + 1) 5 i0 _ 1 Try.underlying24 hi0 hz0 hz1 hz2 rfl _ _ rfl HO3.out (w.heap.size + 1) _ 32 32 x.sign rfl HX.out.sign.symm (rd_of_range (nodeC_sign HBx3.out HX.out)) (by have := HX.out.key; have := HX.out.sign; simp [maxLen]; omega) (by have := HX.out.key; have := HX.out.sign; simp; omega) (by omega) ?_; intro v4 w4 hown4 hg4 hbb4; have HO4 := Lib.hid hown4; have HB4 := Lib.hid (hbb4 (w.heap.size + 1) W1 (Nat.le_refl _) HB3.out); have HBx4 := Lib.hid (HBx1.out.below HB4.out (by omega)); have hz4 := HB4.out.size; clear hown4 hg4 hbb4)
        | (refine step_append_rd rfl (.tmp 19) (.tmp 21) 24 rfl b8_one (w.heap.size + 1) 5 i0 _ 1 Try.underlying24 hi0 hz0 hz1 hz2 rfl _ _ rfl HO4.out (w.heap.size + 1) _ 32 32 x.par rfl HX.out.par.symm (rd_of_range (nodeC_par HBx4.out HX.out)) (by have := HX.out.key; have := HX.out.sign; have := HX.out.par; simp [maxLen]; omega) (by have := HX.out.key; have := HX.out.sign; have := HX.out.par; simp; omega) (by omega) ?_; intro v5 w5 hown5 hg5 hbb5; have HO5 := Lib.hid hown5; have HB5 := Lib.hid (hbb5 (w.heap.size + 1) W1 (Nat.le_refl _) HB4.out); have HBx5 := Lib.hid (HBx1.out.below HB5.out (by omega)); have hz5 := HB5.out.size; have k98 := nodeC_um HBx5.out HX.out; rw [← HN.out] at k98; clear hown5 hg5 hbb5))
    go_wp2_with (at_builtin; refine wpList_append_rd rfl (.tmp 23) (.tmp 28) 24 rfl b8_one (w.heap.size + 1) 5 i0 _ 1 Try.underlying24 hi0 hz0 hz1 hz2 rfl _ _ rfl (HO5.out.alloc _) (w5.heap.size + 1) _ 1 1 [beAt (n : Int) 0] rfl rfl (Rd.new b8 w5 5 [beAt (n : Int) 0]) (by have := HX.out.key; have := HX.out.sign; have := HX.out.par; simp [maxLen]; omega) (by have := HX.out.key; have := HX.out.sign; have := HX.out.par; simp; omega) (by simp; omega) ?_; intro v6 w6 hown6 hg6 hbb6; have HO6 := Lib.hid hown6; have HB6 := Lib.hid (hbb6 (w.heap.size + 1) W1 (Nat.le_refl _) (HB5.out.alloc (by omega) _)); clear hown6 hg6 hbb6)
    obtain ⟨hd, hhd⟩ : ∃ hd, hd = [usedB false, beAt x.name 0] ++ x.key ++ x.sign ++ x.par ++ [beAt (n : Int) 0] := ⟨_, rfl⟩
    have hhl : hd.length = 99 := by rw [hhd]; have := HX.out.key; have := HX.out.sign; have := HX.out.par; simp; omega
    have HHd := Lib.hid hhd
    rw [← hhd] at HO6
    have HHl := Lib.hid hhl
    clear hhd hhl hf hl k98
    go_loopw [3, 4] (fun rv iv wr => ∃ k : Nat, k ≤ n ∧ iv = .int .i64 (k : Int) ∧ Own b8 wr (w.heap.size + 1) 5 rv (hd ++ onesB (x.um.take k)) ∧ Below (w.heap.size + 1) W1 wr) (fun _ iv _ => n - (intOf iv).toNat)
    case atStart => exact ⟨0, by omega, rfl, HO6.out.cast (by simp [onesB]), HB6.out⟩
    case round =>
      obtain ⟨k, hk, rfl, ho, hb⟩ := hrel
      have HBr := Lib.hid hb
      have HOr := Lib.hid ho
      have HBxr := Lib.hid (HBx1.out.below hb (by omega))
      have k98 := nodeC_um HBxr.out HX.out
      rw [← HN.out] at k98
      have hzr : w.heap.size + 2 ≤ wr.heap.size := by have := hb.size; omega
      clear ho hb
      by_cases hlt : k < n
      · have hlt' : (k : Int) < (n : Int) := by omega
        obtain ⟨b, off, e1, hbb, hc1⟩ := (HR1.out.below (HBr.out.mono (by omega))).at_ (k := k) (by rw [← HN.out]; omega)
        subst e1
        obtain ⟨z, hz⟩ : ∃ z, z = x.um[k]'(by rw [← HN.out]; omega) := ⟨_, rfl⟩
        rw [← hz] at hc1
        have d1 : wr.cell? ⟨b, off + k, none⟩ = some (.int .i64 z) := hc1
        have hzk : x.um[k]? = some z := by rw [hz]; exact List.getElem?_eq_getElem _
        have HZ := Lib.hid hzk
        have hf := beAt0 z
        have hw1 : IntKind.i64.wrap ((k : Int) + 1) = (k : Int) + 1 := IntWalk.i64_in _ (by omega)
        clear hc1 hz hzk
        have hlen : (hd ++ onesB (x.um.take k)).length = 99 + k := by rw [List.length_append, HHl.out, onesB_len, List.length_take, ← HN.out]; omega
        have HLen := Lib.hid hlen
        clear hlen
        go_wp2_with (at_builtin; refine wpList_append_rd rfl (.tmp 37) (.tmp 44) 24 rfl b8_one (w.heap.size + 1) 5 i0 _ 1 Try.underlying24 hi0 hz0 hz1 hz2 rfl _ _ rfl (HOr.out.alloc _) (wr.heap.size + 1) _ 1 1 [beAt z 0] rfl rfl (Rd.new b8 wr 5 [beAt z 0]) (by rw [HLen.out]; simp [maxLen]; omega) (by rw [HLen.out]; simp; omega) (by simp; omega) ?_; intro v7 w7 hown7 hg7 hbb7; have HO7 := Lib.hid hown7; have HB7 := Lib.hid (hbb7 (w.heap.size + 1) W1 (Nat.le_refl _) (HBr.out.alloc (by omega) _)); clear hown7 hg7 hbb7)
        refine ⟨⟨k + 1, by omega, rfl, HO7.out.cast ?_, HB7.out⟩, by show n - ((k : Int) + 1).toNat < n - (k : Int).toNat; omega⟩
        rw [onesB_succ x.um k z HZ.out, List.append_assoc]; rfl
      · obtain rfl : k = n := by omega
        go_wp2_with fail
        go_ret
        have et : x.um.take k = x.um := List.take_of_length_le (by rw [← HN.out]; omega)
        have ho := HOr.out
        rw [et] at ho
        refine ⟨_, rfl, (ho.less (by omega)).cast ?_, HB1.out.trans (HBr.out.mono (by omega))⟩
        rw [HHd.out, nodeB, ← HU.out, ← HN.out]; simp [be]
end Go.Proofs.Ytloglpamnalmeaa

/- CONTRACTS: wire.PutNode, burrowref09.PutNode. -/
namespace Go.Proofs.Ytloglpamnalmeaa
open Go.RowKit
set_option linter.unusedVariables false
set_option linter.unusedSimpArgs false

set_option maxRecDepth 100000 in
set_option maxHeartbeats 2000000 in
theorem putNode_any (x : NodeD) (hx : x.Ok) {w : World} {B' : Nat} {A : Option Addr} {c : Nat} (hr : Rd cI w B' A x.um) (hB' : B' ≤ w.heap.size) (hy : x.um.length ≤ 10000) :
    Calls Try.prog 23 #[.agg (nodeC x A c).toArray] w fun e w' => ∃ v, e = .returned (.tuple #[v, errV (if nodeBad x then 3 else 0)]) ∧ Own b8 w' w.heap.size 5 v (if nodeBad x then [] else nodeB x) ∧ Below w.heap.size w w' := by
  have HX := Lib.hid hx
  have HR := Lib.hid hr
  have HBx := Lib.hid (show Blk (w.alloc (.cells (nodeC x A c).toArray 50)) w.heap.size 50 (nodeC x A c) from Blk.new w _ _)
  have HF := Lib.hid (show ∀ W1, (w.alloc (.cells (nodeC x A c).toArray 50)).alloc (.cells #[.slice none 0 0, .bool false] 112) = W1 →
      Blk W1 w.heap.size 50 (nodeC x A c) ∧ Pen W1 (w.heap.size + 1) (w.heap.size + 1) [] false ∧ Below w.heap.size w W1 ∧ w.heap.size + 2 ≤ W1.heap.size by
    rintro W1 rfl
    refine ⟨HBx.out.alloc _, pen_of (v := .slice none 0 0) ?_ (Own.nil_ _ _ _ _) (Nat.le_refl _), ((Below.refl _ _).alloc (Nat.le_refl _) _).alloc (by simp) _, by simp⟩
    exact Blk.at_size _ [.slice none 0 0, .bool false] (by simp))
  obtain ⟨q, hq⟩ : ∃ q, q = nodeBad x := ⟨_, rfl⟩
  rw [← hq]
  have HQ := Lib.hid hq
  clear hx hr hq
  go_enter Try.func23, Try.ntmps23
  go_wp2_with (generalize hW1 : World.alloc (World.alloc w _) _ = W1; obtain ⟨hbx1, hp1, hb1, hz1⟩ := HF.out W1 hW1; clear hW1; have HBx1 := Lib.hid hbx1; have HP1 := Lib.hid hp1; have HB1 := Lib.hid hb1; clear hbx1 hp1 hb1; refine wpList_load_mid rfl 50 (.tmp 1) rfl w.heap.size 0 rfl (nodeC x A c) _ (nodeC_whole HBx1.out HX.out) Try.underlying50 rfl (by rw [nodeC_len HX.out]; exact infoNode) ?_)
  refine (nodeO_any HP1.out x HX.out (HR.out.below (HB1.out.mono hB')) (by omega) (by omega) (by simp)).mono ?_
  rintro e w2 ⟨rfl, ⟨zs, hp2, hz2, hl2⟩, hb2, -⟩
  have HP2 := Lib.hid hp2
  have HZ := Lib.hid hz2
  have HBe := Lib.hid (HB1.out.trans (hb2.mono (by omega)))
  clear hp2 hb2 hz2
  go_wp2_with fail
  have hend := end_any HP2.out
  have hkey : endBad (false || nodeBad x) ([] ++ zs) = q ∧ (q = false → [] ++ zs = nodeB x) := by
    have hzs := HZ.out
    rw [← HQ.out] at hzs ⊢
    cases q with
    | true => exact ⟨rfl, fun h => by simp at h⟩
    | false =>
      have hz := hzs rfl
      subst hz
      refine ⟨?_, fun _ => rfl⟩
      unfold endBad
      rw [List.nil_append, nodeB_len HX.out]
      simp; omega
  rw [hkey.1] at hend
  have Hx := Lib.hid hkey.2
  have HEnd := Lib.hid hend
  clear hend hkey
  cases q with
  | true =>
    refine HEnd.out.mono ?_
    rintro e w5 ⟨⟨v5, rfl, ho5⟩, rfl⟩
    rw [if_pos rfl] at ho5
    have HO5 := Lib.hid ho5
    clear ho5
    go_wp2_with fail
    go_ret2
    exact ⟨_, rfl, HO5.out.less (by omega), HBe.out⟩
  | false =>
    refine HEnd.out.mono ?_
    rintro e w5 ⟨⟨v5, rfl, ho5⟩, rfl⟩
    rw [if_neg (by simp), Hx.out rfl] at ho5
    have HO5 := Lib.hid ho5
    clear ho5
    go_wp2_with fail
    go_ret2
    exact ⟨_, rfl, HO5.out.less (by omega), HBe.out⟩

set_option maxRecDepth 100000 in
set_option maxHeartbeats 2000000 in
theorem refPutNode_any (x : NodeD) (hx : x.Ok) {w : World} {B' : Nat} {A : Option Addr} {c : Nat} (hr : Rd cI w B' A x.um) (hB' : B' ≤ w.heap.size) (hy : x.um.length ≤ 10000) :
    Calls Try.prog 24 #[.agg (nodeC x A c).toArray] w fun e w' => ∃ v, e = .returned (.tuple #[v, .bool (!nodeBad x)]) ∧ Own b8 w' w.heap.size 5 v (if nodeBad x then [] else nodeB x) ∧ Below w.heap.size w w' := by
  have HX := Lib.hid hx
  have HR := Lib.hid (hr.alloc hB' (.cells (nodeC x A c).toArray 50))
  have HBx := Lib.hid (show Blk (w.alloc (.cells (nodeC x A c).toArray 50)) w.heap.size 50 (nodeC x A c) from Blk.new w _ _)
  have HB := Lib.hid ((Below.refl w.heap.size w).alloc (Nat.le_refl _) (.cells (nodeC x A c).toArray 50))
  have hz := World.size_alloc w (.cells (nodeC x A c).toArray 50)
  have HG := Lib.hid (nodeGood_any x hx (c := c) HR.out (by rw [hz]; omega))
  obtain ⟨W0, hW0⟩ : ∃ W0, W0 = w.alloc (.cells (nodeC x A c).toArray 50) := ⟨_, rfl⟩
  have HW0 := Lib.hid hW0
  obtain ⟨q, hq⟩ : ∃ q, q = nodeBad x := ⟨_, rfl⟩
  rw [← hq] at HG ⊢
  rw [← hW0] at HR HBx HB HG hz
  have hz' : w.heap.size + 1 ≤ W0.heap.size := by omega
  clear hx hr hq hW0 hz
  go_enter Try.func24, Try.ntmps24
  go_wp2_with (rw [← HW0.out]; clear HW0; refine wpList_load_mid rfl 50 (.tmp 1) rfl w.heap.size 0 rfl (nodeC x A c) _ (nodeC_whole HBx.out HX.out) Try.underlying50 rfl (by rw [nodeC_len HX.out]; exact infoNode) ?_)
  refine HG.out.mono ?_
  rintro e w1 ⟨rfl, hb1⟩
  have HB1 := Lib.hid (HB.out.trans (hb1.mono (by omega)))
  have HBx1 := Lib.hid (HBx.out.below hb1 (by omega))
  have HR1 := Lib.hid (HR.out.below (hb1.mono (by omega)))
  have hz1 : W0.heap.size ≤ w1.heap.size := hb1.size
  clear hb1
  cases q with
  | true =>
    go_wp2_with fail
    go_ret2
    exact ⟨_, rfl, Own.nil_ _ _ _ _, HB1.out⟩
  | false =>
    go_wp2_with (refine wpList_load_mid rfl 50 (.tmp 1) rfl w.heap.size 0 rfl (nodeC x A c) _ (nodeC_whole HBx1.out HX.out) Try.underlying50 rfl (by rw [nodeC_len HX.out]; exact infoNode) ?_)
    refine (refNode_any x HX.out HR1.out (by omega) (by omega)).mono ?_
    rintro e w2 ⟨v2, rfl, ho2, hb2⟩
    have HO2 := Lib.hid ho2
    have HB2 := Lib.hid (HB1.out.trans (hb2.mono (by omega)))
    clear ho2 hb2
    go_wp2_with fail
    go_ret2
    exact ⟨_, rfl, HO2.out.less (by omega), HB2.out⟩
end Go.Proofs.Ytloglpamnalmeaa
