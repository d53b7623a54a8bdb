/- CONTRACTS: link.Window: Check, Mark, Highest. -/
import Derived.Test.YtkoefhbmkmepaaaErr
import Derived.StillTailTactics
import Derived.Deep.QuietTactic
import Derived.BigQuiet
namespace Go.Proofs.Ytkoefhbmkmepaaa
open Go.RowKit
set_option linter.unusedVariables false

/-- a window's three cells at the head of block g -/
structure WinAt (w : World) (g : Nat) (t : Bool) (h : Int) (s : BitVec 64) : Prop where
  c0 : w.cell? ⟨g, 0, none⟩ = some (.bool t)
  c1 : w.cell? ⟨g, 1, none⟩ = some (.int .i64 h)
  c2 : w.cell? ⟨g, 2, none⟩ = some (.int .u64 (bv s))
  f0 : w.frozen? ⟨g, 0, none⟩ = false
  f1 : w.frozen? ⟨g, 1, none⟩ = false
  f2 : w.frozen? ⟨g, 2, none⟩ = false
/-- may a number be taken? an error's number -/
def winCheck (t : Bool) (h : Int) (s : BitVec 64) (n : Int) : Nat :=
  if n < 0 ∨ 4294967295 ≤ n then 8 else if t = false ∨ h < n then 0 else if n = h then 7 else if 64 < h - n then 11 else if s.getLsbD (h - n - 1).toNat then 7 else 0
theorem bit_eq (s : BitVec 64) (e : Nat) : (bv (s >>> e &&& 1#64) == 1) = s.getLsbD e := by
  rw [show (1 : Int) = @OfNat.ofNat Int 1 instOfNat from rfl, bv_beq_lit _ 1 (by decide)]
  rw [Bool.eq_iff_iff, beq_iff_eq]
  constructor
  · intro h
    have := congrArg (fun x : BitVec 64 => x.getLsbD 0) h
    simpa using this
  · intro h
    apply BitVec.eq_of_getLsbD_eq
    intro i hi
    by_cases h0 : i = 0
    · subst h0; simpa using h
    · simp [h0]

set_option maxRecDepth 100000 in
set_option maxHeartbeats 2000000 in
theorem wcheck_any (g : Nat) (t : Bool) (h : Int) (s : BitVec 64) (n : Int) (w : World) (hw : WinAt w g t h s) (hh : t = true → 0 ≤ h ∧ h < 4294967295) :
    Calls Try.prog 11 #[.pointer (some ⟨g, 0, none⟩), .int .i64 n] w fun e w' => e = .returned (errV (winCheck t h s n)) ∧ w = w' := by
  obtain ⟨c0, c1, c2, -, -, -⟩ := hw
  by_cases h1 : n < 0
  · have e : winCheck t h s n = 8 := by unfold winCheck; rw [if_pos (.inl h1)]
    rw [e]
    clear hh
    go_enter Try.func11, Try.ntmps11
    go_wp2
    go_ret
    exact ⟨rfl, rfl⟩
  by_cases h2 : 4294967295 ≤ n
  · have e : winCheck t h s n = 8 := by unfold winCheck; rw [if_pos (.inr h2)]
    rw [e]
    clear hh
    have h1' : decide (n < 0) = false := by simpa using h1
    go_enter Try.func11, Try.ntmps11
    go_wp2
    go_ret
    exact ⟨rfl, rfl⟩
  have h1' : decide (n < 0) = false := by simpa using h1
  have h2' : decide (4294967295 ≤ n) = false := by simpa using h2
  have e0 : winCheck t h s n = if t = false ∨ h < n then 0 else if n = h then 7 else if 64 < h - n then 11 else if s.getLsbD (h - n - 1).toNat then 7 else 0 := by unfold winCheck; rw [if_neg (by omega)]
  cases t with
  | false =>
    rw [e0, if_pos (.inl rfl)]
    clear e0 hh
    go_enter Try.func11, Try.ntmps11
    go_wp2
    go_ret
    exact ⟨rfl, rfl⟩
  | true =>
    obtain ⟨hh0, hh1⟩ := hh rfl
    by_cases h3 : h < n
    · rw [e0, if_pos (.inr h3)]
      clear e0
      go_enter Try.func11, Try.ntmps11
      go_wp2
      go_ret
      exact ⟨rfl, rfl⟩
    rw [if_neg (by simp; omega)] at e0
    have h3' : decide (h < n) = false := by simpa using h3
    by_cases h4 : n = h
    · rw [e0, if_pos h4]
      clear e0
      subst h4
      go_enter Try.func11, Try.ntmps11
      go_wp2
      go_ret
      exact ⟨rfl, rfl⟩
    rw [if_neg h4] at e0
    have h4' : (n == h) = false := by simpa using h4
    by_cases h5 : 64 < h - n
    · rw [e0, if_pos h5]
      clear e0
      go_enter Try.func11, Try.ntmps11
      go_wp2
      go_ret
      exact ⟨rfl, rfl⟩
    rw [if_neg h5] at e0
    obtain ⟨k, hk⟩ : ∃ k : Nat, h - n - 1 = (k : Int) := ⟨(h - n - 1).toNat, by omega⟩
    have hk2 : (h - n - 1).toNat = k := by omega
    rw [hk2] at e0
    have hb := bit_eq s k
    have h5' : decide (64 < h - n) = false := by simpa using h5
    rw [e0]
    have b1 : 0 ≤ n := by omega
    have b2 : n < h := by omega
    clear e0 hk2 h1 h2 h3 h4 h5
    cases hbit : s.getLsbD k with
    | true =>
      rw [hbit] at hb
      simp only [if_true]
      go_enter Try.func11, Try.ntmps11
      go_wp2
      go_ret
      exact ⟨rfl, rfl⟩
    | false =>
      rw [hbit] at hb
      simp only [Bool.false_eq_true, if_false]
      go_enter Try.func11, Try.ntmps11
      go_wp2
      go_ret
      exact ⟨rfl, rfl⟩
/-- the window behind a number that was taken -/
def winMark (t : Bool) (h : Int) (s : BitVec 64) (n : Int) : Bool × Int × BitVec 64 :=
  if t = false then (true, n, s) else if n < h then (true, h, s ||| 1#64 <<< (h - n - 1).toNat) else (true, n, s <<< (n - h).toNat ||| 1#64 <<< (n - h - 1).toNat)

theorem grownBy_setCell (w : World) (g i : Nat) (v : Value) : w.grownBy (w.setCell ⟨g, i, none⟩ v) (some g) :=
  ⟨rfl, rfl, rfl, by simp [World.setCell], fun k _ hk => heap_setCell_other w ⟨g, i, none⟩ k v (fun e => hk (by simp [e]))⟩

theorem cell_ne {w : World} {g i j : Nat} {v : Value} (hij : i ≠ j) : (w.setCell ⟨g, i, none⟩ v).cell? ⟨g, j, none⟩ = w.cell? ⟨g, j, none⟩ :=
  World.cell?_setCell_other w _ _ v (fun e => hij (by injection e))
theorem cell_eq {w : World} {g i : Nat} {u v : Value} (h : w.cell? ⟨g, i, none⟩ = some u) : (w.setCell ⟨g, i, none⟩ v).cell? ⟨g, i, none⟩ = some v :=
  World.cell?_setCell_same' w _ v (by rw [h]; rfl)
theorem frozen_set {w : World} {a p : Addr} {v : Value} : (w.setCell a v).frozen? p = w.frozen? p := World.frozen?_setCell ..
section
variable {w : World} {g : Nat} {t : Bool} {h : Int} {s : BitVec 64}
theorem WinAt.set0 (x : WinAt w g t h s) (t' : Bool) : WinAt (w.setCell ⟨g, 0, none⟩ (.bool t')) g t' h s :=
  ⟨cell_eq x.c0, (cell_ne (by decide)).trans x.c1, (cell_ne (by decide)).trans x.c2, frozen_set.trans x.f0, frozen_set.trans x.f1, frozen_set.trans x.f2⟩
theorem WinAt.set1 (x : WinAt w g t h s) (h' : Int) : WinAt (w.setCell ⟨g, 1, none⟩ (.int .i64 h')) g t h' s :=
  ⟨(cell_ne (by decide)).trans x.c0, cell_eq x.c1, (cell_ne (by decide)).trans x.c2, frozen_set.trans x.f0, frozen_set.trans x.f1, frozen_set.trans x.f2⟩
theorem WinAt.set2 (x : WinAt w g t h s) (s' : BitVec 64) : WinAt (w.setCell ⟨g, 2, none⟩ (.int .u64 (bv s'))) g t h s' :=
  ⟨(cell_ne (by decide)).trans x.c0, (cell_ne (by decide)).trans x.c1, cell_eq x.c2, frozen_set.trans x.f0, frozen_set.trans x.f1, frozen_set.trans x.f2⟩
theorem WinAt.drew (x : WinAt w g t h s) : WinAt w.drew g t h s := ⟨x.c0, x.c1, x.c2, x.f0, x.f1, x.f2⟩
end
/-- w' is w but for the first three cells of block g, and new blocks -/
structure Out3 (w w' : World) (g : Nat) : Prop where
  by_ : w.grownBy w' (some g)
  rest : ∀ i, 3 ≤ i → w'.cell? ⟨g, i, none⟩ = w.cell? ⟨g, i, none⟩ ∧ w'.frozen? ⟨g, i, none⟩ = w.frozen? ⟨g, i, none⟩
theorem Out3.refl (w : World) (g : Nat) : Out3 w w g := ⟨World.grownBy.refl _ _, fun _ _ => ⟨rfl, rfl⟩⟩
theorem Out3.set_ {w w' : World} {g : Nat} (x : Out3 w w' g) (j : Nat) (hj : j < 3) (v : Value) : Out3 w (w'.setCell ⟨g, j, none⟩ v) g :=
  ⟨grownBy_trans x.by_ (grownBy_setCell w' g j v) (fun q e => .inl e), fun i hi => ⟨(cell_ne (by omega)).trans (x.rest i hi).1, frozen_set.trans (x.rest i hi).2⟩⟩
theorem Out3.drew {w w' : World} {g : Nat} (x : Out3 w w' g) : Out3 w w'.drew g :=
  ⟨⟨x.by_.os, x.by_.tape, x.by_.output, x.by_.size, x.by_.block⟩, x.rest⟩

set_option maxRecDepth 100000 in
set_option maxHeartbeats 2000000 in
theorem wmark_any (g : Nat) (t : Bool) (h : Int) (s : BitVec 64) (n : Int) (w : World) (hw : WinAt w g t h s) (hh : t = true → 0 ≤ h ∧ h < 4294967295) :
    Calls Try.prog 12 #[.pointer (some ⟨g, 0, none⟩), .int .i64 n] w fun e w' => e = .returned (errV (winCheck t h s n)) ∧
      (winCheck t h s n ≠ 0 → w = w') ∧ (winCheck t h s n = 0 → WinAt w' g (winMark t h s n).1 (winMark t h s n).2.1 (winMark t h s n).2.2 ∧ Out3 w w' g) := by
  have Hw := Lib.hid hw
  by_cases h0 : winCheck t h s n = 0
  · have hr : (0 ≤ n ∧ n < 4294967295) ∧ (t = true → n ≠ h ∧ h - n ≤ 64) := by
      unfold winCheck at h0
      split at h0
      · cases h0
      · rename_i h1
        refine ⟨by omega, ?_⟩
        rintro rfl
        split at h0
        · rename_i h2
          have : h < n := by simpa using h2
          omega
        · split at h0
          · cases h0
          · split at h0
            · cases h0
            · omega
    obtain ⟨c0, c1, c2, f0, f1, f2⟩ := hw
    cases t with
    | false =>
      have H0 := Lib.hid h0
      have Hc := Lib.hid (wcheck_any g false h s n w Hw.out hh)
      clear h0 hh hr
      go_enter Try.func12, Try.ntmps12
      go_wp2_with (go_at_call 11; refine Hc.out.mono ?_; rintro e w' ⟨rfl, rfl⟩; rw [H0.out, errV_zero])
      go_ret
      refine ⟨by rw [H0.out]; rfl, fun hn => absurd H0.out hn, fun _ => ?_⟩
      exact ⟨(Hw.out.set0 true).set1 n, ((Out3.refl w g).set_ 0 (by decide) _).set_ 1 (by decide) _⟩
    | true =>
      obtain ⟨⟨b0, b1⟩, hr2⟩ := hr
      obtain ⟨b2, b3⟩ := hr2 rfl
      obtain ⟨b4, b5⟩ := hh rfl
      have H0 := Lib.hid h0
      have Hc := Lib.hid (wcheck_any g true h s n w Hw.out hh)
      clear h0 hh hr2
      by_cases hlt : n < h
      · obtain ⟨k, hk⟩ : ∃ k : Nat, h - n - 1 = (k : Int) := ⟨(h - n - 1).toNat, by omega⟩
        have e : winMark true h s n = (true, h, s ||| 1#64 <<< k) := by
          unfold winMark
          rw [if_neg (by simp), if_pos hlt, show (h - n - 1).toNat = k from by omega]
        rw [e]
        have hw1 : IntKind.i64.wrap (h - n) = h - n := IntWalk.i64_in _ (by omega)
        have hw2 : IntKind.i64.wrap (h - n - 1) = (k : Int) := by rw [← hk]; exact IntWalk.i64_in _ (by omega)
        clear hk
        clear e b2
        go_enter Try.func12, Try.ntmps12
        go_wp2_with (go_at_call 11; refine Hc.out.mono ?_; rintro e w' ⟨rfl, rfl⟩; rw [H0.out, errV_zero])
        go_still_tail 15, (by kernel_rfl)
        go_wp2
        go_ret
        exact ⟨by rw [H0.out]; rfl, fun hn => absurd H0.out hn, fun _ => ⟨(Hw.out.set2 _).drew, ((Out3.refl w g).set_ 2 (by decide) _).drew⟩⟩
      · obtain ⟨k, hk⟩ : ∃ k : Nat, n - h - 1 = (k : Int) := ⟨(n - h - 1).toNat, by omega⟩
        have hk1 : n - h = ((k + 1 : Nat) : Int) := by omega
        have e : winMark true h s n = (true, n, s <<< (k + 1) ||| 1#64 <<< k) := by
          unfold winMark
          rw [if_neg (by simp), if_neg hlt, show (n - h - 1).toNat = k from by omega, show (n - h).toNat = k + 1 from by omega]
        rw [e]
        have hw1 : IntKind.i64.wrap (n - h) = ((k + 1 : Nat) : Int) := by rw [← hk1]; exact IntWalk.i64_in _ (by omega)
        have hw2 : IntKind.i64.wrap (((k + 1 : Nat) : Int) - 1) = (k : Int) := by rw [IntWalk.i64_in _ (by omega)]; omega
        have hlt' : decide (n < h) = false := by simpa using hlt
        generalize hK : k + 1 = K at hw1 hw2 hk1 ⊢
        clear e b2 hk hlt
        go_enter Try.func12, Try.ntmps12
        go_wp2_with (go_at_call 11; refine Hc.out.mono ?_; rintro e w' ⟨rfl, rfl⟩; rw [H0.out, errV_zero])
        go_still_tail 13, (by kernel_rfl)
        go_wp2
        go_ret
        exact ⟨by rw [H0.out]; rfl, fun hn => absurd H0.out hn, fun _ => ⟨((Hw.out.set2 _).set1 n).drew, (((Out3.refl w g).set_ 2 (by decide) _).set_ 1 (by decide) _).drew⟩⟩
  · have H0 := Lib.hid h0
    have hne := errV_pos h0
    have Hne := Lib.hid hne
    have Hc := Lib.hid (wcheck_any g t h s n w hw hh)
    clear h0 hh hw hne
    go_enter Try.func12, Try.ntmps12
    go_wp2_with (go_at_call 11; refine Hc.out.mono ?_; rintro e w' ⟨rfl, rfl⟩; rw [Hne.out])
    go_ret
    exact ⟨by rw [Hne.out]; rfl, fun _ => rfl, fun hn => absurd hn H0.out⟩

set_option maxRecDepth 100000 in
theorem highest_any (g : Nat) (t : Bool) (h : Int) (s : BitVec 64) (w : World) (hw : WinAt w g t h s) :
    Calls Try.prog 13 #[.pointer (some ⟨g, 0, none⟩)] w fun e w' => e = .returned (.int .i64 (if t then h else -1)) ∧ w = w' := by
  obtain ⟨c0, c1, -, -, -, -⟩ := hw
  cases t <;>
  · go_enter Try.func13, Try.ntmps13
    go_wp2
    go_ret
    exact ⟨rfl, rfl⟩
theorem check_nil (n : Int) (w : World) : Calls Try.prog 11 #[.pointer none, .int .i64 n] w fun e w' => e = .returned (errV 8) ∧ w = w' := by
  go_enter Try.func11, Try.ntmps11
  go_wp2
  go_ret
  exact ⟨rfl, rfl⟩
theorem mark_nil (n : Int) (w : World) : Calls Try.prog 12 #[.pointer none, .int .i64 n] w fun e w' => e = .returned (errV 8) ∧ w = w' := by
  go_enter Try.func12, Try.ntmps12
  go_wp2_with (go_at_call 11; refine (check_nil _ _).mono ?_; rintro e w' ⟨rfl, rfl⟩; rw [errV_pos (by decide)])
  go_ret
  exact ⟨rfl, rfl⟩
theorem highest_nil (w : World) : Calls Try.prog 13 #[.pointer none] w fun e w' => e = .returned (.int .i64 (-1)) ∧ w = w' := by
  go_enter Try.func13, Try.ntmps13
  go_wp2
  go_ret
  exact ⟨rfl, rfl⟩
end Go.Proofs.Ytkoefhbmkmepaaa
