/- CONTRACT: wire.many[int] with readNode's number. -/
import Derived.Test.YtloglpamnalmeaaReadNode
namespace Go.Proofs.Ytloglpamnalmeaa
open Go.RowKit
set_option linter.unusedVariables false
set_option linter.unusedSimpArgs false

theorem eye_low {w w' : World} {B g C : Nat} {ys : List (BitVec 8)} {bad : Bool} (h : Eye w B g ys bad) (hb : Below C w w') (hg : g < C) : Eye w' B g ys bad := by
  have hle := h.le
  obtain ⟨⟨A, c, h1, h2, h3⟩, h4⟩ := h
  exact ⟨⟨A, c, h1.below hb hg, h2.below (hb.mono (by omega)), h3⟩, h4⟩
theorem grown_below {w w1 w2 : World} {r : Option Nat} (h : w.grownBy w1 r) (hb : Below w.heap.size w1 w2) : w.grownBy w2 r :=
  ⟨hb.os.trans h.os, hb.tape.trans h.tape, hb.output.trans h.output, Nat.le_trans h.size hb.size, fun i hi hne => (hb.block i hi).trans (h.block i hi hne)⟩
theorem infoIntE : (Try.prog.info? 3).map (fun i => (i.zero, i.size, i.bytes)) = some (some (.int .i64 0), 1, 8) := by kernel_rfl
set_option maxRecDepth 100000 in
set_option maxHeartbeats 1000000 in
theorem manyInt_any {w : World} {B g : Nat} {s : St} (hE : EyeS w B g s) (hy : s.1.length ≤ 10000000) :
    Calls Try.prog 108 #[.pointer (some ⟨g, 0, none⟩), .func (.func 109) #[] #[]] w fun e w' => ∃ v, e = .returned v ∧ Own cI w' w.heap.size 3 v (pList pOne s).1 ∧ EyeS w' B g (pList pOne s).2 ∧ w.grownBy w' (some g) := by
  obtain ⟨i0, hi0, hz0, hz1, hz2⟩ := info_parts infoIntE
  have HN := Lib.hid (numS_any hE 1 1 rfl (by omega) (by omega))
  obtain ⟨N, hN⟩ : ∃ N, N = (pNum 1 s).1 := ⟨_, rfl⟩
  obtain ⟨s0, hs0⟩ : ∃ s0, s0 = (pNum 1 s).2 := ⟨_, rfl⟩
  have e : pList pOne s = pMany pOne N s0 := by rw [hN, hs0]; rfl
  obtain ⟨L, hL⟩ : ∃ L, L = (pMany pOne N s0).1 := ⟨_, rfl⟩
  obtain ⟨sL, hsL⟩ : ∃ sL, sL = (pMany pOne N s0).2 := ⟨_, rfl⟩
  have hlt : N < 256 := by rw [hN]; exact pNum1_lt s
  have hl0 : s0.1.length ≤ 10000000 := by rw [hs0]; exact Nat.le_trans (pNum_le 1 s) hy
  have HLL := Lib.hid (show pMany pOne N s0 = (L, sL) by rw [hL, hsL])
  rw [e, ← hL, ← hsL]
  rw [← hN, ← hs0] at HN
  have hgl := hE.lt
  clear hN hs0 e hL hsL hE hy
  go_enter Try.func108, Try.ntmps108
  go_wp2_with fail
  refine HN.out.mono ?_
  rintro e w1 ⟨rfl, he1, hg1⟩
  have HE1 := Lib.hid he1
  have HG1 := Lib.hid hg1
  have hsz1 : w.heap.size ≤ w1.heap.size := hg1.size
  clear he1 hg1
  go_wp2_with fail
  go_loopw [5, 8] (fun rv iv wr => ∃ (k : Nat) (acc : List Int) (t : St), k ≤ N ∧ iv = .int .i64 (k : Int) ∧ acc.length = k ∧ t.1.length ≤ 10000000 ∧ (L, sL) = (acc ++ (pMany pOne (N - k) t).1, (pMany pOne (N - k) t).2) ∧ Own cI wr w.heap.size 3 rv acc ∧ EyeS wr B g t ∧ w.grownBy wr (some g)) (fun _ iv _ => N - (intOf iv).toNat)
  case atStart => exact ⟨0, [], s0, by omega, rfl, rfl, hl0, by rw [Nat.sub_zero, List.nil_append, HLL.out], Own.nil_ _ _ _ _, HE1.out, HG1.out⟩
  case round =>
    obtain ⟨k, acc, t, hk, rfl, hal, htl, hLt, ho, he, hg⟩ := hrel
    have HO := Lib.hid ho
    have HE := Lib.hid he
    have HG := Lib.hid hg
    have HLt := Lib.hid hLt
    have HAl := Lib.hid hal
    have hzr : w.heap.size ≤ wr.heap.size := hg.size
    obtain ⟨Ar, cr, rfl, -, -, -, -⟩ := ho.shape' hal
    clear ho hg hLt hal
    by_cases hlt2 : k < N
    · have hlt' : (k : Int) < (N : Int) := by omega
      obtain ⟨bd, hbd⟩ : ∃ bd, bd = t.2 := ⟨_, rfl⟩
      have HBd := Lib.hid hbd
      obtain ⟨⟨A0, c0, h1, -, -⟩, -⟩ := he
      rw [← hbd] at h1
      have c1 := h1.cell 1 rfl
      clear h1 hbd
      cases bd with
      | true =>
        go_wp2_with fail
        go_ret
        have h := HLt.out
        rw [pMany_bad pOne _ HBd.out.symm] at h
        injection h with h1 h2
        subst h1 h2
        exact ⟨_, rfl, HO.out.cast (by simp), HE.out, HG.out⟩
      | false =>
        go_wp2_with fail
        refine (one_any HE.out (by omega)).mono ?_
        rintro e w2 ⟨rfl, he2, hg2⟩
        have HE2 := Lib.hid he2
        have HG2 := Lib.hid (grownBy_trans HG.out hg2 (fun _ e => .inl e))
        have hsz2 : w.heap.size ≤ w2.heap.size := HG2.out.size
        have HO2 := Lib.hid ((HO.out.kept hg2 (.inr (fun e => by have := HO.out.lt _ e; have := HE.out.lt; omega))).alloc (.cells #[.int .i64 (pOne t).1] 3))
        clear he2 hg2
        go_wp2_with (at_builtin; refine wpList_append_rd rfl (.tmp 14) (.tmp 18) 48 rfl cI_one w.heap.size 3 i0 _ 8 Try.underlying48 hi0 hz0 hz1 hz2 rfl _ _ rfl HO2.out (w2.heap.size + 1) (some ⟨w2.heap.size, 0, none⟩) 1 1 [(pOne t).1] rfl rfl (Rd.new cI w2 3 [(pOne t).1]) (by have := HAl.out; simp [maxLen]; omega) (by have := HAl.out; simp; omega) (by simp; omega) ?_; intro v3 w3 hown3 hg3 hbb3; have HO3 := Lib.hid hown3; have HG3 := Lib.hid hg3; have HB3 := Lib.hid hbb3; clear hown3 hg3 hbb3)
        have hb3 : Below w.heap.size w2 w3 := HB3.out w.heap.size w2 (Nat.le_refl _) ((Below.refl _ w2).alloc hsz2 _)
        refine ⟨⟨k + 1, acc ++ [(pOne t).1], (pOne t).2, by omega, by congr 1, by rw [List.length_append, HAl.out]; rfl, Nat.le_trans (pOne_le t) htl, ?_, HO3.out, eye_low HE2.out hb3 hgl, grown_below HG2.out hb3⟩, by show N - ((k : Int) + 1).toNat < N - (k : Int).toNat; omega⟩
        have h := HLt.out
        rw [show N - k = (N - (k + 1)) + 1 by omega, pMany_succ pOne _ HBd.out.symm] at h
        rw [h, List.append_assoc]; rfl
    · obtain rfl : k = N := by omega
      clear he
      go_wp2_with fail
      go_ret
      have h := HLt.out
      rw [Nat.sub_self] at h
      injection h with h1 h2
      subst h1 h2
      exact ⟨_, rfl, HO.out.cast (by simp [pMany]), HE.out, HG.out⟩
end Go.Proofs.Ytloglpamnalmeaa
