/- CONTRACTS: link.Window: Check, Mark, Highest. -/
import Derived.Test.YtkoefhbmkmepaaaErr
import Derived.StillTailTactics
import Derived.Deep.QuietTactic
import Derived.BigQuiet
namespace Go.Proofs.Ytkoefhbmkmepaaa
open Go.RowKit
set_option linter.unusedVariables false

/-- a window's three cells at the head of block g -/
structure WinAt (w : World) (g : Nat) (t : Bool) (h : Int) (s : BitVec 64) : Prop where
  c0 : w.cell? ⟨g, 0, none⟩ = some (.bool t)
  c1 : w.cell? ⟨g, 1, none⟩ = some (.int .i64 h)
  c2 : w.cell? ⟨g, 2, none⟩ = some (.int .u64 (bv s))
  f0 : w.frozen? ⟨g, 0, none⟩ = false
  f1 : w.frozen? ⟨g, 1, none⟩ = false
  f2 : w.frozen? ⟨g, 2, none⟩ = false
/-- may a number be taken? an error's number -/
def winCheck (t : Bool) (h : Int) (s : BitVec 64) (n : Int) : Nat :=
  if n < 0 ∨ 4294967295 ≤ n then 8 else if t = false ∨ h < n then 0 else if n = h then 7 else if 64 < h - n then 11 else if s.getLsbD (h - n - 1).toNat then 7 else 0
theorem bit_eq (s : BitVec 64) (e : Nat) : (bv (s >>> e &&& 1#64) == 1) = s.getLsbD e := by
  rw [show (1 : Int) = @OfNat.ofNat Int 1 instOfNat from rfl, bv_beq_lit _ 1 (by decide)]
  rw [Bool.eq_iff_iff, beq_iff_eq]
  constructor
  · intro h
    have := congrArg (fun x : BitVec 64 => x.getLsbD 0) h
    simpa using this
  · intro h
    apply BitVec.eq_of_getLsbD_eq
    intro i hi
    by_cases h0 : i = 0
    · subst h0; simpa using h
    · simp [h0]

set_option maxRecDepth 100000 in
set_option maxHeartbeats 2000000 in
theorem wcheck_any (g : Nat) (t : Bool) (h : Int) (s : BitVec 64) (n : Int) (w : World) (hw : WinAt w g t h s) (hh : t = true → 0 ≤ h ∧ h < 4294967295) :
    Calls Try.prog 11 #[.pointer (some ⟨g, 0, none⟩), .int .i64 n] w fun e w' => e = .returned (errV (winCheck t h s n)) ∧ w = w' := by
  obtain ⟨c0, c1, c2, -, -, -⟩ := hw
  by_cases h1 : n < 0
  · have e : winCheck t h s n = 8 := by unfold winCheck; rw [if_pos (.inl h1)]
    rw [e]
    clear hh
    go_enter Try.func11, Try.ntmps11
    go_wp2
    go_ret
    exact ⟨rfl, rfl⟩
  by_cases h2 : 4294967295 ≤ n
  · have e : winCheck t h s n = 8 := by unfold winCheck; rw [if_pos (.inr h2)]
    rw [e]
    clear hh
    have h1' : decide (n < 0) = false := by simpa using h1
    go_enter Try.func11, Try.ntmps11
    go_wp2
    go_ret
    exact ⟨rfl, rfl⟩
  have h1' : decide (n < 0) = false := by simpa using h1
  have h2' : decide (4294967295 ≤ n) = false := by simpa using h2
  have e0 : winCheck t h s n = if t = false ∨ h < n then 0 else if n = h then 7 else if 64 < h - n then 11 else if s.getLsbD (h - n - 1).toNat then 7 else 0 := by unfold winCheck; rw [if_neg (by omega)]
  cases t with
  | false =>
    rw [e0, if_pos (.inl rfl)]
    clear e0 hh
    go_enter Try.func11, Try.ntmps11
    go_wp2
    go_ret
    exact ⟨rfl, rfl⟩
  | true =>
    obtain ⟨hh0, hh1⟩ := hh rfl
    by_cases h3 : h < n
    · rw [e0, if_pos (.inr h3)]
      clear e0
      go_enter Try.func11, Try.ntmps11
      go_wp2
      go_ret
      exact ⟨rfl, rfl⟩
    rw [if_neg (by simp; omega)] at e0
    have h3' : decide (h < n) = false := by simpa using h3
    by_cases h4 : n = h
    · rw [e0, if_pos h4]
      clear e0
      subst h4
      go_enter Try.func11, Try.ntmps11
      go_wp2
      go_ret
      exact ⟨rfl, rfl⟩
    rw [if_neg h4] at e0
    have h4' : (n == h) = false := by simpa using h4
    by_cases h5 : 64 < h - n
    · rw [e0, if_pos h5]
      clear e0
      go_enter Try.func11, Try.ntmps11
      go_wp2
      go_ret
      exact ⟨rfl, rfl⟩
    rw [if_neg h5] at e0
    obtain ⟨k, hk⟩ : ∃ k : Nat, h - n - 1 = (k : Int) := ⟨(h - n - 1).toNat, by omega⟩
    have hk2 : (h - n - 1).toNat = k := by omega
    rw [hk2] at e0
    have hb := bit_eq s k
    have h5' : decide (64 < h - n) = false := by simpa using h5
    rw [e0]
    have b1 : 0 ≤ n := by omega
    have b2 : n < h := by omega
    clear e0 hk2 h1 h2 h3 h4 h5
    cases hbit : s.getLsbD k with
    | true =>
      rw [hbit] at hb
      simp only [if_true]
      go_enter Try.func11, Try.ntmps11
      go_wp2
      go_ret
      exact ⟨rfl, rfl⟩
    | false =>
      rw [hbit] at hb
      simp only [Bool.false_eq_true, if_false]
      go_enter Try.func11, Try.ntmps11
      go_wp2
      go_ret
      exact ⟨rfl, rfl⟩
/-- the window behind a number that was taken -/
def winMark (t : Bool) (h : Int) (s : BitVec 64) (n : Int) : Bool × Int × BitVec 64 :=
  if t = false then (true, n, s) else if n < h then (true, h, s ||| 1#64 <<< (h - n - 1).toNat) else (true, n, s <<< (n - h).toNat ||| 1#64 <<< (n - h - 1).toNat)

theorem grownBy_setCell (w : World) (g i : Nat) (v : Value) : w.grownBy (w.setCell ⟨g, i, none⟩ v) (some g) :=
  ⟨rfl, rfl, rfl, by simp [World.setCell], fun k _ hk => heap_setCell_other w ⟨g, i, none⟩ k v (fun e => hk (by simp [e]))⟩

theorem cell_ne {w : World} {g i j : Nat} {v : Value} (hij : i ≠ j) : (w.setCell ⟨g, i, none⟩ v).cell? ⟨g, j, none⟩ = w.cell? ⟨g, j, none⟩ :=
  World.cell?_setCell_other w _ _ v (fun e => hij (by injection e))
theorem cell_eq {w : World} {g i : Nat} {u v : Value} (h : w.cell? ⟨g, i, none⟩ = some u) : (w.setCell ⟨g, i, none⟩ v).cell? ⟨g, i, none⟩ = some v :=
  World.cell?_setCell_same' w _ v (by rw [h]; rfl)
theorem frozen_set {w : World} {a p : Addr} {v : Value} : (w.setCell a v).frozen? p = w.frozen? p := World.frozen?_setCell ..
section
variable {w : World} {g : Nat} {t : Bool} {h : Int} {s : BitVec 64}
theorem WinAt.set0 (x : WinAt w g t h s) (t' : Bool) : WinAt (w.setCell ⟨g, 0, none⟩ (.bool t')) g t' h s :=
  ⟨cell_eq x.c0, (cell_ne (by decide)).trans x.c1, (cell_ne (by decide)).trans x.c2, frozen_set.trans x.f0, frozen_set.trans x.f1, frozen_set.trans x.f2⟩
theorem WinAt.set1 (x : WinAt w g t h s) (h' : Int) : WinAt (w.setCell ⟨g, 1, none⟩ (.int .i64 h')) g t h' s :=
  ⟨(cell_ne (by decide)).trans x.c0, cell_eq x.c1, (cell_ne (by decide)).trans x.c2, frozen_set.trans x.f0, frozen_set.trans x.f1, frozen_set.trans x.f2⟩
theorem WinAt.set2 (x : WinAt w g t h s) (s' : BitVec 64) : WinAt (w.setCell ⟨g, 2, none⟩ (.int .u64 (bv s'))) g t h s' :=
  ⟨(cell_ne (by decide)).trans x.c0, (cell_ne (by decide)).trans x.c1, cell_eq x.c2, frozen_set.trans x.f0, frozen_set.trans x.f1, frozen_set.trans x.f2⟩
theorem WinAt.drew (x : WinAt w g t h s) : WinAt w.drew g t h s := ⟨x.c0, x.c1, x.c2, x.f0, x.f1, x.f2⟩
end
/-- w' is w but for the first three cells of block g, and new blocks -/
structure Out3 (w w' : World) (g : Nat) : Prop where
  by_ : w.grownBy w' (some g)
  rest : ∀ i, 3 ≤ i → w'.cell? ⟨g, i, none⟩ = w.cell? ⟨g, i, none⟩ ∧ w'.frozen? ⟨g, i, none⟩ = w.frozen? ⟨g, i, none⟩
theorem Out3.refl (w : World) (g : Nat) : Out3 w w g := ⟨World.grownBy.refl _ _, fun _ _ => ⟨rfl, rfl⟩⟩
theorem Out3.set_ {w w' : World} {g : Nat} (x : Out3 w w' g) (j : Nat) (hj : j < 3) (v : Value) : Out3 w (w'.setCell ⟨g, j, none⟩ v) g :=
  ⟨grownBy_trans x.by_ (grownBy_setCell w' g j v) (fun q e => .inl e), fun i hi => ⟨(cell_ne (by omega)).trans (x.rest i hi).1, frozen_set.trans (x.rest i hi).2⟩⟩
theorem Out3.drew {w w' : World} {g : Nat} (x : Out3 w w' g) : Out3 w w'.drew g :=
  ⟨⟨x.by_.os, x.by_.tape, x.by_.output, x.by_.size, x.by_.block⟩, x.rest⟩

set_option maxRecDepth 100000 in
set_option maxHeartbeats 2000000 in
theorem wmark_any (g : Nat) (t : Bool) (h : Int) (s : BitVec 64) (n : Int) (w : World) (hw : WinAt w g t h s) (hh : t = true → 0 ≤ h ∧ h < 4294967295) :
    Calls Try.prog 12 #[.pointer (some ⟨g, 0, none⟩), .int .i64 n] w fun e w' => e = .returned (errV (winCheck t h s n)) ∧
      (winCheck t h s n ≠ 0 → w = w') ∧ (winCheck t h s n = 0 → WinAt w' g (winMark t h s n).1 (winMark t h s n).2.1 (winMark t h s n).2.2 ∧ Out3 w w' g) := by
  have Hw := Lib.hid hw
  by_cases h0 : winCheck t h s n = 0
  · have hr : (0 ≤ n ∧ n < 4294967295) ∧ (t = true → n ≠ h ∧ h - n ≤ 64) := by
      unfold winCheck at h0
      split at h0
      · cases h0
      · rename_i h1
        refine ⟨by omega, ?_⟩
        rintro rfl
        split at h0
        · rename_i h2
          have : h < n := by simpa using h2
          omega
        · split at h0
          · cases h0
          · split at h0
            · cases h0
            · omega
    obtain ⟨c0, c1, c2, f0, f1, f2⟩ := hw
    cases t with
    | false =>
      have H0 := Lib.hid h0
      have Hc := Lib.hid (wcheck_any g false h s n w Hw.out hh)
      clear h0 hh hr
      go_enter Try.func12, Try.ntmps12
      go_wp2_with (go_at_call 11; refine Hc.out.mono ?_; rintro e w' ⟨rfl, rfl⟩; rw [H0.out, errV_zero])
      go_ret
      refine ⟨by rw [H0.out]; rfl, fun hn => absurd H0.out hn, fun _ => ?_⟩
      exact ⟨(Hw.out.set0 true).set1 n, ((Out3.refl w g).set_ 0 (by decide) _).set_ 1 (by decide) _⟩
    | true =>
      obtain ⟨⟨b0, b1⟩, hr2⟩ := hr
      obtain ⟨b2, b3⟩ := hr2 rfl
      obtain ⟨b4, b5⟩ := hh rfl
      have H0 := Lib.hid h0
      have Hc := Lib.hid (wcheck_any g true h s n w Hw.out hh)
      clear h0 hh hr2
      by_cases hlt : n < h
      · obtain ⟨k, hk⟩ : ∃ k : Nat, h - n - 1 = (k : Int) := ⟨(h - n - 1).toNat, by omega⟩
        have e : winMark true h s n = (true, h, s ||| 1#64 <<< k) := by
          unfold winMark
          rw [if_neg (by simp), if_pos hlt, show (h - n - 1).toNat = k from by omega]
        rw [e]
        have hw1 : IntKind.i64.wrap (h - n) = h - n := IntWalk.i64_in _ (by omega)
        have hw2 : IntKind.i64.wrap (h - n - 1) = (k : Int) := by rw [← hk]; exact IntWalk.i64_in _ (by omega)
        clear hk
        clear e b2
        go_enter Try.func12, Try.ntmps12
        go_wp2_with (go_at_call 11; refine Hc.out.mono ?_; rintro e w' ⟨rfl, rfl⟩; rw [H0.out, errV_zero])
        go_still_tail 15, (by kernel_rfl)
        go_wp2
        go_ret
        exact ⟨by rw [H0.out]; rfl, fun hn => absurd H0.out hn, fun _ => ⟨(Hw.out.set2 _).drew, ((Out3.refl w g).set_ 2 (by decide) _).drew⟩⟩
      · obtain ⟨k, hk⟩ : ∃ k : Nat, n - h - 1 = (k : Int) := ⟨(n - h - 1).toNat, by omega⟩
        have hk1 : n - h = ((k + 1 : Nat) : Int) := by omega
        have e : winMark true h s n = (true, n, s <<< (k + 1) ||| 1#64 <<< k) := by
          unfold winMark
          rw [if_neg (by simp), if_neg hlt, show (n - h - 1).toNat = k from by omega, show (n - h).toNat = k + 1 from by omega]
        rw [e]
        have hw1 : IntKind.i64.wrap (n - h) = ((k + 1 : Nat) : Int) := by rw [← hk1]; exact IntWalk.i64_in _ (by omega)
        have hw2 : IntKind.i64.wrap (((k + 1 : Nat) : Int) - 1) = (k : Int) := by rw [IntWalk.i64_in _ (by omega)]; omega
        have hlt' : decide (n < h) = false := by simpa using hlt
        generalize hK : k + 1 = K at hw1 hw2 hk1 ⊢
        clear e b2 hk hlt
        go_enter Try.func12, Try.ntmps12
        go_wp2_with (go_at_call 11; refine Hc.out.mono ?_; rintro e w' ⟨rfl, rfl⟩; rw [H0.out, errV_zero])
        go_still_tail 13, (by kernel_rfl)
        go_wp2
        go_ret
        exact ⟨by rw [H0.out]; rfl, fun hn => absurd H0.out hn, fun _ => ⟨((Hw.out.set2 _).set1 n).drew, (((Out3.refl w g).set_ 2 (by decide) _).set_ 1 (by decide) _).drew⟩⟩
  · have H0 := Lib.hid h0
    have hne := errV_pos h0
    have Hne := Lib.hid hne
    have Hc := Lib.hid (wcheck_any g t h s n w hw hh)
    clear h0 hh hw hne
    go_enter Try.func12, Try.ntmps12
    go_wp2_with (go_at_call 11; refine Hc.out.mono ?_; rintro e w' ⟨rfl, rfl⟩; rw [Hne.out])
    go_ret
    exact ⟨by rw [Hne.out]; rfl, fun _ => rfl, fun hn => absurd hn H0.out⟩

set_option maxRecDepth 100000 in
theorem highest_any (g : Nat) (t : Bool) (h : Int) (s : BitVec 64) (w : World) (hw : WinAt w g t h s) :
    Calls Try.prog 13 #[.pointer (some ⟨g, 0, none⟩)] w fun e w' => e = .returned (.int .i64 (if t then h else -1)) ∧ w = w' := by
  obtain ⟨c0, c1, -, -, -, -⟩ := hw
  cases t <;>
  · go_enter Try.func13, Try.ntmps13
    go_wp2
    go_ret
    exact ⟨rfl, rfl⟩
theorem check_nil (n : Int) (w : World) : Calls Try.prog 11 #[.pointer none, .int .i64 n] w fun e w' => e = .returned (errV 8) ∧ w = w' := by
  go_enter Try.func11, Try.ntmps11
  go_wp2
  go_ret
  exact ⟨rfl, rfl⟩
theorem mark_nil (n : Int) (w : World) : Calls Try.prog 12 #[.pointer none, .int .i64 n] w fun e w' => e = .returned (errV 8) ∧ w = w' := by
  go_enter Try.func12, Try.ntmps12
  go_wp2_with (go_at_call 11; refine (check_nil _ _).mono ?_; rintro e w' ⟨rfl, rfl⟩; rw [errV_pos (by decide)])
  go_ret
  exact ⟨rfl, rfl⟩
theorem highest_nil (w : World) : Calls Try.prog 13 #[.pointer none] w fun e w' => e = .returned (.int .i64 (-1)) ∧ w = w' := by
  go_enter Try.func13, Try.ntmps13
  go_wp2
  go_ret
  exact ⟨rfl, rfl⟩
end Go.Proofs.Ytkoefhbmkmepaaa

/- PLAIN LAW: a window of 64 numbers against the list of all numbers that were taken. -/
namespace Go.Proofs.Ytkoefhbmkmepaaa
open Go.RowKit
set_option linter.unusedVariables false

def hiL (L : List Int) : Int := L.foldl (fun m x => if m < x then x else m) (-1)
def refCheck (L : List Int) (n : Int) : Nat :=
  if n < 0 ∨ 4294967294 < n then 8 else if n < hiL L - 64 then 11 else if n ∈ L then 7 else 0
theorem hiL_snoc (L : List Int) (n : Int) : hiL (L ++ [n]) = if hiL L < n then n else hiL L := by unfold hiL; rw [List.foldl_append]; rfl

structure Inv (L : List Int) (t : Bool) (h : Int) (s : BitVec 64) : Prop where
  none_ : t = false → L = [] ∧ s = 0#64
  some_ : t = true → h = hiL L ∧ 0 ≤ h ∧ h < 4294967295 ∧ h ∈ L ∧ (∀ x ∈ L, x ≤ h) ∧ ∀ n : Int, 0 ≤ n → n < h → h - n ≤ 64 → (n ∈ L ↔ s.getLsbD (h - n - 1).toNat = true)
theorem Inv.start : Inv [] false 0 0#64 := ⟨fun _ => ⟨rfl, rfl⟩, fun h => by cases h⟩
theorem Inv.hi {L : List Int} {t : Bool} {h : Int} {s : BitVec 64} (x : Inv L t h s) : (if t then h else -1) = hiL L := by
  cases t with
  | false => rw [(x.none_ rfl).1]; rfl
  | true => exact (x.some_ rfl).1
theorem Inv.bound {L : List Int} {t : Bool} {h : Int} {s : BitVec 64} (x : Inv L t h s) : t = true → 0 ≤ h ∧ h < 4294967295 := fun ht => ⟨(x.some_ ht).2.1, (x.some_ ht).2.2.1⟩
theorem Inv.check {L : List Int} {t : Bool} {h : Int} {s : BitVec 64} (x : Inv L t h s) (n : Int) : winCheck t h s n = refCheck L n := by
  by_cases h1 : n < 0 ∨ 4294967295 ≤ n
  · unfold winCheck refCheck
    rw [if_pos h1, if_pos (show n < 0 ∨ 4294967294 < n by omega)]
  have er : refCheck L n = if n < hiL L - 64 then 11 else if n ∈ L then 7 else 0 := by unfold refCheck; rw [if_neg (show ¬ (n < 0 ∨ 4294967294 < n) by omega)]
  have ew : winCheck t h s n = if t = false ∨ h < n then 0 else if n = h then 7 else if 64 < h - n then 11 else if s.getLsbD (h - n - 1).toNat then 7 else 0 := by unfold winCheck; rw [if_neg h1]
  rw [er, ew]
  cases t with
  | false =>
    obtain ⟨rfl, -⟩ := x.none_ rfl
    rw [if_pos (show false = false ∨ h < n from .inl rfl), if_neg (show ¬ n < hiL [] - 64 by simp [hiL]; omega), if_neg (show n ∉ ([] : List Int) by simp)]
  | true =>
    obtain ⟨e, b0, b1, hm, hle, hbit⟩ := x.some_ rfl
    rw [← e]
    by_cases h2 : h < n
    · rw [if_pos (show true = false ∨ h < n from .inr h2), if_neg (show ¬ n < h - 64 by omega), if_neg (show n ∉ L from fun hn => by have := hle n hn; omega)]
    rw [if_neg (show ¬ (true = false ∨ h < n) by simp; omega)]
    by_cases h3 : n = h
    · rw [if_pos h3, if_neg (show ¬ n < h - 64 by omega), if_pos (show n ∈ L by rw [h3]; exact hm)]
    rw [if_neg h3]
    by_cases h4 : 64 < h - n
    · rw [if_pos h4, if_pos (show n < h - 64 by omega)]
    rw [if_neg h4, if_neg (show ¬ n < h - 64 by omega)]
    have := hbit n (by omega) (by omega) (by omega)
    by_cases h5 : s.getLsbD (h - n - 1).toNat = true
    · rw [if_pos h5, if_pos (this.2 h5)]
    · rw [if_neg h5, if_neg (fun hn => h5 (this.1 hn))]
theorem Inv.mark {L : List Int} {t : Bool} {h : Int} {s : BitVec 64} (x : Inv L t h s) (n : Int) (h0 : refCheck L n = 0) :
    Inv (L ++ [n]) (winMark t h s n).1 (winMark t h s n).2.1 (winMark t h s n).2.2 := by
  have hb : 0 ≤ n ∧ n ≤ 4294967294 ∧ hiL L - 64 ≤ n ∧ n ∉ L := by
    unfold refCheck at h0
    split at h0
    · cases h0
    · split at h0
      · cases h0
      · split at h0
        · cases h0
        · rename_i a b c
          exact ⟨by omega, by omega, by omega, c⟩
  obtain ⟨c0, c1, c2, c3⟩ := hb
  cases t with
  | false =>
    obtain ⟨rfl, rfl⟩ := x.none_ rfl
    refine ⟨fun hf => by simp [winMark] at hf, fun _ => ?_⟩
    simp only [winMark, if_true, List.nil_append]
    refine ⟨by simp [hiL]; omega, c0, by omega, by simp, by simp, fun m hm0 hm1 _ => ?_⟩
    simp; omega
  | true =>
    obtain ⟨e, b0, b1, hm, hle, hbit⟩ := x.some_ rfl
    have hnh : n ≠ h := fun e => c3 (e ▸ hm)
    by_cases hlt : n < h
    · have ew : winMark true h s n = (true, h, s ||| 1#64 <<< (h - n - 1).toNat) := by unfold winMark; rw [if_neg (by simp), if_pos hlt]
      rw [ew]
      dsimp only
      refine ⟨fun hf => by simp at hf, fun _ => ⟨?_, b0, b1, by simp [hm], fun y hy => ?_, fun m hm0 hm1 hm2 => ?_⟩⟩
      · simp only [hiL_snoc]; rw [if_neg (by omega)]; exact e
      · rcases List.mem_append.1 hy with hy | hy
        · exact hle y hy
        · simp at hy; omega
      · simp only [BitVec.getLsbD_or, BitVec.getLsbD_shiftLeft, BitVec.getLsbD_one, Bool.or_eq_true, Bool.and_eq_true, decide_eq_true_eq, List.mem_append, List.mem_singleton, hbit m hm0 hm1 hm2, Bool.not_eq_true', decide_eq_false_iff_not]
        constructor
        · rintro (h | h)
          · exact .inl h
          · right; refine ⟨⟨by omega, by omega⟩, by omega⟩
        · rintro (h | ⟨⟨h1, h2⟩, h3⟩)
          · exact .inl h
          · right; omega
    · have ew : winMark true h s n = (true, n, s <<< (n - h).toNat ||| 1#64 <<< (n - h - 1).toNat) := by unfold winMark; rw [if_neg (by simp), if_neg hlt]
      rw [ew]
      dsimp only
      refine ⟨fun hf => by simp at hf, fun _ => ⟨?_, c0, by omega, by simp, fun y hy => ?_, fun m hm0 hm1 hm2 => ?_⟩⟩
      · simp only [hiL_snoc]; rw [if_pos (by omega)]
      · rcases List.mem_append.1 hy with hy | hy
        · have := hle y hy; omega
        · simp at hy; omega
      · simp only [BitVec.getLsbD_or, BitVec.getLsbD_shiftLeft, BitVec.getLsbD_one, Bool.or_eq_true, Bool.and_eq_true, decide_eq_true_eq, List.mem_append, List.mem_singleton, Bool.not_eq_true', decide_eq_false_iff_not]
        by_cases hmh : m = h
        · subst hmh
          constructor
          · intro _; right; refine ⟨⟨by omega, by omega⟩, by omega⟩
          · intro _; exact .inl hm
        · by_cases hml : m < h
          · have hq := hbit m hm0 hml (by omega)
            have ei : (n - m - 1).toNat - (n - h).toNat = (h - m - 1).toNat := by omega
            rw [ei, hq]
            constructor
            · rintro (h | h)
              · left; exact ⟨⟨by omega, by omega⟩, h⟩
              · omega
            · rintro (⟨_, h⟩ | ⟨⟨h1, h2⟩, h3⟩)
              · exact .inl h
              · omega
          · constructor
            · rintro (h | h)
              · have := hle m h; omega
              · omega
            · rintro (⟨⟨h1, h2⟩, _⟩ | ⟨⟨h1, h2⟩, h3⟩)
              · omega
              · omega
end Go.Proofs.Ytkoefhbmkmepaaa

/- CONTRACTS: burrowref12.Highest, Check; burrowlaw12.alive; the walk of LinkWindows. -/
namespace Go.Proofs.Ytkoefhbmkmepaaa
open Go.RowKit
set_option linter.unusedVariables false

theorem infoInt : (Try.prog.info? 3).map (fun i => (i.zero, i.size, i.bytes)) = some (some (.int .i64 0), 1, 8) := by kernel_rfl
theorem i64_one (x : Int) : (Value.int .i64 x).oneCell' = true := rfl
def i64v (x : Int) : Value := .int .i64 x
theorem i64v_one (x : Int) : (i64v x).oneCell' = true := rfl
theorem hiL_take (L : List Int) (k : Nat) (h : k < L.length) : hiL (L.take (k + 1)) = if hiL (L.take k) < L[k] then L[k] else hiL (L.take k) := by
  rw [List.take_succ_eq_append_getElem h, hiL_snoc]

set_option maxRecDepth 100000 in
set_option maxHeartbeats 1000000 in
theorem refHighest_any {w : World} {B : Nat} {A : Option Addr} {L : List Int} {n : Nat} (c : Nat) (h : Rd i64v w B A L) (hn : L.length = n) (hm : n ≤ 1000000) :
    Calls Try.prog 14 #[.slice A n c] w fun e w' => e = .returned (.int .i64 (hiL L)) ∧ w = w' := by
  go_enter Try.func14, Try.ntmps14
  go_wp2
  go_loop [3, 4] (fun m i => ∃ k : Nat, k ≤ n ∧ i = .int .i64 k ∧ m = .int .i64 (hiL (L.take k))) (fun _ i => n - (intOf i).toNat)
  case atStart => exact ⟨0, by omega, rfl, rfl⟩
  case round =>
    obtain ⟨k, hk, rfl, rfl⟩ := hrel
    by_cases hlt : k < n
    · have hkl : k < L.length := by omega
      obtain ⟨b, off, rfl, hB, hc⟩ := h.at_ hkl
      have ht := hiL_take L k hkl
      generalize L[k] = x at hc ht
      generalize hiL (L.take k) = m at ht ⊢
      have hc' : w.cell? ⟨b, off + k, none⟩ = some (.int .i64 x) := hc
      have Ht := Lib.hid ht
      have Hh := Lib.hid h
      have Hn := Lib.hid hn
      clear ht hc h hn
      by_cases hx : m < x
      · go_wp2
        go_round
        case rel => exact ⟨k + 1, by omega, by go_num, by rw [Ht.out, if_pos hx]⟩
        case measure => simp [intOf]; omega
      · go_wp2
        go_round
        case rel => exact ⟨k + 1, by omega, by go_num, by rw [Ht.out, if_neg hx]⟩
        case measure => simp [intOf]; omega
    · obtain rfl : k = n := by omega
      have ht : L.take k = L := List.take_of_length_le (by omega)
      rw [ht]
      clear ht h hn
      go_wp2
      go_ret
      exact ⟨rfl, rfl⟩

theorem mem_take_succ (L : List Int) (k : Nat) (h : k < L.length) (n : Int) : n ∈ L.take (k + 1) ↔ n ∈ L.take k ∨ n = L[k] := by
  rw [List.take_succ_eq_append_getElem h, List.mem_append, List.mem_singleton]

set_option maxRecDepth 100000 in
set_option maxHeartbeats 1000000 in
theorem refCheck_any {w : World} {B : Nat} {A : Option Addr} {L : List Int} {n : Nat} (c : Nat) (x : Int) (h : Rd i64v w B A L) (hn : L.length = n) (hm : n ≤ 1000000) (hL : -1 ≤ hiL L ∧ hiL L ≤ 4294967295) :
    Calls Try.prog 9 #[.slice A n c, .int .i64 x] w fun e w' => e = .returned (.int .i64 (refCheck L x)) ∧ w = w' := by
  have Hc := Lib.hid (refHighest_any c h hn hm)
  have Hh := Lib.hid h
  have Hn := Lib.hid hn
  clear h hn
  obtain ⟨q, hq⟩ : ∃ q, q = hiL L := ⟨_, rfl⟩
  rw [← hq] at hL
  have Hq := Lib.hid hq
  clear hq
  by_cases h1 : x < 0
  · have e : refCheck L x = 8 := by unfold refCheck; rw [if_pos (.inl h1)]
    rw [e]
    go_enter Try.func9, Try.ntmps9
    go_wp2
    go_ret
    exact ⟨rfl, rfl⟩
  by_cases h2 : 4294967294 < x
  · have e : refCheck L x = 8 := by unfold refCheck; rw [if_pos (.inr h2)]
    rw [e]
    have h1' : decide (x < 0) = false := by simpa using h1
    go_enter Try.func9, Try.ntmps9
    go_wp2
    go_ret
    exact ⟨rfl, rfl⟩
  have h1' : decide (x < 0) = false := by simpa using h1
  have h2' : decide (4294967294 < x) = false := by simpa using h2
  have e0 : refCheck L x = if x < q - 64 then 11 else if x ∈ L then 7 else 0 := by unfold refCheck; rw [if_neg (show ¬ (x < 0 ∨ 4294967294 < x) by omega), ← Hq.out]
  by_cases h3 : x < q - 64
  · rw [e0, if_pos h3]
    clear e0
    go_enter Try.func9, Try.ntmps9
    go_wp2_with (go_at_call 14; refine Hc.out.mono ?_; rintro e w' ⟨rfl, rfl⟩; rw [← Hq.out])
    go_ret
    exact ⟨rfl, rfl⟩
  rw [if_neg h3] at e0
  have h3' : decide (x < q - 64) = false := by simpa using h3
  have E0 := Lib.hid e0
  clear e0
  go_enter Try.func9, Try.ntmps9
  go_wp2_with (go_at_call 14; refine Hc.out.mono ?_; rintro e w' ⟨rfl, rfl⟩; rw [← Hq.out])
  go_loop [5] (fun i => ∃ k : Nat, k ≤ n ∧ i = .int .i64 k ∧ x ∉ L.take k) (fun i => n - (intOf i).toNat)
  case atStart => exact ⟨0, by omega, rfl, by simp⟩
  case round =>
    obtain ⟨k, hk, rfl, hnot⟩ := hrel
    have Hnot := Lib.hid hnot
    clear hnot
    by_cases hlt : k < n
    · have hkl : k < L.length := by rw [Hn.out]; exact hlt
      obtain ⟨b, off, rfl, hB, hc⟩ := Hh.out.at_ hkl
      have hmt := mem_take_succ L k hkl x
      have hin : x = L[k] → x ∈ L := fun e => by rw [e]; exact List.getElem_mem _
      generalize L[k] = y at hc hmt hin
      have hc' : w.cell? ⟨b, off + k, none⟩ = some (.int .i64 y) := hc
      have Hmt := Lib.hid hmt
      have Hin := Lib.hid hin
      clear hmt hc hin hkl
      by_cases hx : y = x
      · have hx' : (y == x) = true := by simpa using hx
        have Hx := Lib.hid hx
        clear hx
        go_wp2
        go_ret
        exact ⟨by rw [E0.out, if_pos (Hin.out Hx.out.symm)]; rfl, rfl⟩
      · have hx' : (y == x) = false := by simpa using hx
        go_wp2
        go_round
        case rel => exact ⟨k + 1, by omega, by go_num, fun hmem => by rcases Hmt.out.1 hmem with h | h; exact Hnot.out h; exact hx h.symm⟩
        case measure => simp [intOf]; omega
    · obtain rfl : k = n := by omega
      go_wp2
      go_ret
      refine ⟨?_, rfl⟩
      rw [E0.out, if_neg]
      · rfl
      · have ht : L.take k = L := List.take_of_length_le (by rw [Hn.out]; exact Nat.le_refl _)
        rw [← ht]; exact Hnot.out

theorem WinAt.new (w : World) (t : Bool) (h : Int) (s : BitVec 64) (E : TypeId) : WinAt (w.alloc (.cells #[.bool t, .int .i64 h, .int .u64 (bv s)] E)) w.heap.size t h s := by
  have hc : ∀ i, (w.alloc (.cells #[.bool t, .int .i64 h, .int .u64 (bv s)] E)).cell? ⟨w.heap.size, i, none⟩ = (#[.bool t, .int .i64 h, .int .u64 (bv s)] : Array Value)[i]? := fun i => cell_of_row _ w.heap.size i _ E (0, 0) (heap_alloc_new w _)
  have hf : ∀ i, (w.alloc (.cells #[.bool t, .int .i64 h, .int .u64 (bv s)] E)).frozen? ⟨w.heap.size, i, none⟩ = false := fun i => frozen_of_row _ w.heap.size i _ E (heap_alloc_new w _)
  exact ⟨hc 0, hc 1, hc 2, hf 0, hf 1, hf 2⟩
theorem WinAt.keep {w w' : World} {g : Nat} {t : Bool} {h : Int} {s : BitVec 64} (x : WinAt w g t h s) (hb : w'.heap[g]? = w.heap[g]?) : WinAt w' g t h s :=
  ⟨(World.cell?_of_block (a := ⟨g, 0, none⟩) hb).trans x.c0, (World.cell?_of_block (a := ⟨g, 1, none⟩) hb).trans x.c1, (World.cell?_of_block (a := ⟨g, 2, none⟩) hb).trans x.c2,
    (World.frozen?_of_block (a := ⟨g, 0, none⟩) hb).trans x.f0, (World.frozen?_of_block (a := ⟨g, 1, none⟩) hb).trans x.f1, (World.frozen?_of_block (a := ⟨g, 2, none⟩) hb).trans x.f2⟩
theorem WinAt.alloc {w : World} {g : Nat} {t : Bool} {h : Int} {s : BitVec 64} (x : WinAt w g t h s) (o : Obj) (hg : g < w.heap.size) : WinAt (w.alloc o) g t h s := x.keep (Below.heap_alloc w o g hg)

/-- the windows of the chapter's example -/
def exT (k : Nat) : Bool := k != 0
def exH (k : Nat) : Int := [0, 0, 64, 65].getD k 0
def exS (k : Nat) : BitVec 64 := [0#64, 0#64, 1#64 <<< 63, 1#64].getD k 0#64
def exN (k : Nat) : Int := [0, 64, 65].getD k 0
theorem ex_check : ∀ k, k < 3 → winCheck (exT k) (exH k) (exS k) (exN k) = 0 := by
  intro k hk
  match k, hk with
  | 0, _ => rfl
  | 1, _ => rfl
  | 2, _ => rfl
theorem ex_mark : ∀ k, k < 3 → winMark (exT k) (exH k) (exS k) (exN k) = (exT (k + 1), exH (k + 1), exS (k + 1)) := by
  intro k hk
  match k, hk with
  | 0, _ => rfl
  | 1, _ => rfl
  | 2, _ => rfl
theorem ex_bound : ∀ k, k ≤ 3 → 0 ≤ exH k ∧ exH k < 4294967295 := by
  intro k hk
  match k, hk with
  | 0, _ => decide
  | 1, _ => decide
  | 2, _ => decide
  | 3, _ => decide

set_option maxRecDepth 100000 in
set_option maxHeartbeats 2000000 in
theorem alive12_any (w : World) : Calls Try.prog 8 #[] w fun e w' => e = .returned (.bool true) ∧ Below w.heap.size w w' := by
  go_enter Try.func8, Try.ntmps8
  go_wp2
  go_loopw [8] (fun i wr => ∃ k : Nat, k ≤ 3 ∧ i = .int .i64 k ∧ WinAt wr w.heap.size (exT k) (exH k) (exS k) ∧ Rd i64v wr (w.heap.size + 2) (some ⟨w.heap.size + 1, 0, none⟩) [0, 64, 65] ∧ Below w.heap.size w wr ∧ w.heap.size + 2 ≤ wr.heap.size) (fun i _ => 3 - (intOf i).toNat)
  case atStart =>
    have hr := Rd.new i64v (w.alloc (.cells #[.bool false, .int .i64 0, .int .u64 (bv 0#64)] 27)) 3 [0, 64, 65]
    rw [World.size_alloc] at hr
    exact ⟨0, by omega, rfl, (WinAt.new w false 0 0#64 _).alloc _ (by simp), hr, by (repeat' (first | assumption | exact Below.refl _ _ | refine Below.drew ?_ | refine Below.alloc ?_ ?_ _ | omega | (simp; done) | (simp; omega))), by simp⟩
  case round =>
    obtain ⟨k, hk, rfl, hw, hr, hb, hz⟩ := hrel
    by_cases hlt : k < 3
    · have hc : wr.cell? ⟨w.heap.size + 1, k, none⟩ = some (.int .i64 (exN k)) := by
        obtain ⟨b, off, e, _, hcc⟩ := hr (by simp)
        cases e
        have := hcc k (exN k) (by match k, hlt with | 0, _ => rfl | 1, _ => rfl | 2, _ => rfl)
        rw [Nat.zero_add] at this
        exact this
      have h0 := ex_check k hlt
      have hm := ex_mark k hlt
      have Hc := Lib.hid (wcheck_any w.heap.size (exT k) (exH k) (exS k) (exN k) wr hw (fun _ => ex_bound k hk))
      have Hm := Lib.hid (wmark_any w.heap.size (exT k) (exH k) (exS k) (exN k) wr hw (fun _ => ex_bound k hk))
      generalize exN k = x at hc h0 hm Hc Hm
      have H0 := Lib.hid h0
      have Hmk := Lib.hid hm
      have Hr := Lib.hid hr
      clear h0 hm hw hr
      go_wp2_with (first
        | (go_at_call 11; refine Hc.out.mono ?_; rintro e w' ⟨rfl, rfl⟩; rw [H0.out, errV_zero])
        | (go_at_call 12; refine Hm.out.mono ?_; rintro e w2 ⟨rfl, -, hmk⟩; rw [H0.out, errV_zero]; have Hmw := Lib.hid (hmk H0.out); clear hmk))
      go_roundw
      case rel =>
        obtain ⟨hw2, ho2⟩ := Hmw.out
        rw [Hmk.out] at hw2
        exact ⟨k + 1, by omega, by go_num, hw2, (Hr.out.grown ho2.by_ hz (fun a e => by cases e; simp)), hb.grown ho2.by_ (by omega) (fun q e => by cases e; exact Nat.le_refl _), Nat.le_trans hz ho2.by_.size⟩
      case measure => simp [intOf]; omega
    · obtain rfl : k = 3 := by omega
      have c64 := Lib.hid (wcheck_any w.heap.size true 65 1#64 64 wr hw (fun _ => by omega))
      have c0 := Lib.hid (wcheck_any w.heap.size true 65 1#64 0 wr hw (fun _ => by omega))
      have c1 := Lib.hid (wcheck_any w.heap.size true 65 1#64 1 wr hw (fun _ => by omega))
      have hh := Lib.hid (highest_any w.heap.size true 65 1#64 wr hw)
      clear hw hr
      have tok1 : True := trivial
      have tok2 : True := trivial
      have tok3 : True := trivial
      have e64 : winCheck true 65 1#64 64 = 7 := rfl
      have e0 : winCheck true 65 1#64 0 = 11 := rfl
      have e1 : winCheck true 65 1#64 1 = 0 := rfl
      have E64 := Lib.hid e64
      have E0 := Lib.hid e0
      have E1 := Lib.hid e1
      clear e64 e0 e1
      go_wp2_with (first
        | (go_at_call 11; have _t := tok1; clear tok1; refine c64.out.mono ?_; rintro e w' ⟨rfl, rfl⟩; rw [E64.out])
        | (go_at_call 11; have _t := tok2; clear tok2; refine c0.out.mono ?_; rintro e w' ⟨rfl, rfl⟩; rw [E0.out])
        | (go_at_call 11; have _t := tok3; clear tok3; refine c1.out.mono ?_; rintro e w' ⟨rfl, rfl⟩; rw [E1.out, errV_zero])
        | (go_at_call 13; refine hh.out.mono ?_; rintro e w' ⟨rfl, rfl⟩)
        | (go_at_call 15; refine (is_any 7 7 _).mono ?_; rintro e w' ⟨rfl, rfl⟩)
        | (go_at_call 15; refine (is_any 11 11 _).mono ?_; rintro e w' ⟨rfl, rfl⟩))
      go_ret
      exact ⟨rfl, hb⟩

set_option maxRecDepth 100000 in
set_option maxHeartbeats 4000000 in
theorem linkWindows_walk (A1 : Option Addr) (n1 c1 : Nat) (xs : List Int) {w : World} (h1 : Rd i64v w w.heap.size A1 xs) (_ : ∀ z ∈ xs, (Lit.int .i64 z).wf = true) (hn1 : xs.length = n1) (hl1 : n1 ≤ c1) (hm1 : c1 ≤ maxLen) :
    Calls Try.prog 3 #[.slice A1 n1 c1] w fun e w' => e = .returned (.bool true) ∧ Below w.heap.size w w' := by
  unfold maxLen at hm1
  have H1 := Lib.hid h1
  have Hn1 := Lib.hid hn1
  clear h1 hn1
  by_cases hbig : 300 < n1
  · go_enter Try.func3, Try.ntmps3
    go_wp2_with (go_at_call 8; refine (alive12_any _).mono ?_; rintro e w1 ⟨rfl, hb1⟩)
    go_ret
    exact ⟨rfl, hb1⟩
  · have hbig' : decide ((300 : Int) < (n1 : Int)) = false := by simp; omega
    obtain ⟨i0, hi0, hz0, hz1, hz2⟩ := info_parts infoInt
    go_enter Try.func3, Try.ntmps3
    go_wp2_with (go_at_call 8; refine (alive12_any _).mono ?_; rintro e w1 ⟨rfl, hb1⟩)
    have hz1' := hb1.size
    go_loopw [4, 19] (fun v i wr => ∃ (k : Nat) (L : List Int) (t : Bool) (h : Int) (s : BitVec 64), k ≤ n1 ∧ i = .int .i64 k ∧ Own i64v wr w.heap.size 3 v L ∧ L.length ≤ k ∧ Inv L t h s ∧ WinAt wr w1.heap.size t h s ∧ v.ownBlock ≠ some w1.heap.size ∧ Below w.heap.size w wr ∧ w1.heap.size < wr.heap.size) (fun _ i _ => n1 - (intOf i).toNat)
    case atStart =>
      refine ⟨0, [], false, 0, 0#64, by omega, rfl, ?_, by simp, Inv.start, (WinAt.new w1 false 0 0#64 _).alloc _ (by simp), by simp [Value.ownBlock], by (repeat' (first | assumption | exact Below.refl _ _ | refine Below.drew ?_ | refine Below.alloc ?_ ?_ _ | omega | (simp; done) | (simp; omega))), by (first | omega | (simp; done) | (simp; omega) | (simp at *; omega))⟩
      have := Own.lit i64v (w1.alloc (.cells #[.bool false, .int .i64 0, .int .u64 (bv 0#64)] 27)) w.heap.size 3 [] (by simp; omega) (by simp [maxLen])
      rw [World.size_alloc] at this
      exact this
    case round =>
      clear hb1
      obtain ⟨k, L, t, h, s, hk, rfl, ho, hLk, hI, hw, hvb, hb, hg⟩ := hrel
      have Hvb := Lib.hid hvb
      clear hvb
      by_cases hlt : k < n1
      · obtain ⟨b, off, rfl, hB, hc⟩ := H1.out.at_ (k := k) (by rw [Hn1.out]; exact hlt)
        generalize xs[k]'(by rw [Hn1.out]; exact hlt) = x at hc
        have hc' : wr.cell? ⟨b, off + k, none⟩ = some (.int .i64 x) := (hb.cell (p := ⟨b, off + k, none⟩) hB).trans hc
        obtain ⟨Av, cv, hv, hrd, -, -, -⟩ := ho.shape
        have hLb : -1 ≤ hiL L ∧ hiL L ≤ 4294967295 := by
          rw [← hI.hi]
          cases t with
          | false => simp
          | true => have := hI.bound rfl; simp; omega
        have HR := Lib.hid (refCheck_any cv x hrd rfl (by omega) hLb)
        have HC := Lib.hid (wcheck_any w1.heap.size t h s x wr hw hI.bound)
        have HM := Lib.hid (wmark_any w1.heap.size t h s x wr hw hI.bound)
        have HH := Lib.hid (highest_any w1.heap.size t h s wr hw)
        have HL := Lib.hid (refHighest_any cv hrd rfl (by omega))
        have hch := hI.check x
        obtain ⟨r, hr⟩ : ∃ r, r = refCheck L x := ⟨_, rfl⟩
        rw [← hr] at hch
        have Hch := Lib.hid hch
        have Hr := Lib.hid hr
        have HI := Lib.hid hI
        have Ho := Lib.hid ho
        have Hw := Lib.hid hw
        have hLl : L.length ≤ 300 := by omega
        clear hc hch hr hI ho hw hrd hLb
        subst hv
        by_cases h0 : r = 0
        · subst h0
          have HIn := Lib.hid (HI.out.mark x Hr.out.symm)
          go_wp2_with (first
            | (go_at_call 9; refine HR.out.mono ?_; rintro e w' ⟨rfl, rfl⟩; rw [← Hr.out])
            | (go_at_call 11; refine HC.out.mono ?_; rintro e w' ⟨rfl, rfl⟩; rw [Hch.out])
            | (go_at_call 10; refine (num_any 0 _).mono ?_; rintro e w' ⟨rfl, rfl⟩)
            | (go_at_call 12; refine HM.out.mono ?_; rintro e w2 ⟨rfl, -, hmk⟩; rw [Hch.out]; have Hmw := Lib.hid (hmk Hch.out); clear hmk; have hz2' := Hmw.out.2.by_.size)
            | (at_builtin; refine wpList_append_rd rfl _ _ 22 rfl i64v_one w.heap.size 3 i0 _ 8 Try.underlying22 hi0 hz0 hz1 hz2 rfl _ L rfl ((Ho.out.kept' Hmw.out.2.by_ (fun q e => by cases e; exact Hvb.out)).alloc _) (w2.heap.size + 1) _ 1 1 [x] rfl rfl (Rd.new i64v _ _ [x]) (by simp [maxLen]; omega) (by simp; omega) (by simp; omega) ?_; intro v7 w7 hown7 hg7 hbb7; obtain ⟨Av7, cv7, hv7, hrd7, -, -, -⟩ := hown7.shape' (n := L.length + 1) (by simp); have hw7 := (Hmw.out.1.alloc (.cells #[.int .i64 x] 3) (by omega)).keep (hg7.by_.block w1.heap.size (by simp; omega) (fun e => Hvb.out e.symm)); have Hown7 := Lib.hid hown7; have Hg7 := Lib.hid hg7; have Hbb7 := Lib.hid hbb7; have Hw7 := Lib.hid hw7; have Hrd7 := Lib.hid hrd7; have hz7 := hg7.size; clear hown7 hg7 hbb7 hw7 hrd7; subst hv7)
            | (go_at_call 13; refine (highest_any w1.heap.size _ _ _ _ Hw7.out).mono ?_; rintro e w' ⟨rfl, rfl⟩; rw [HIn.out.hi])
            | (go_at_call 14; refine (refHighest_any (n := L.length + 1) cv7 Hrd7.out (by simp) (by omega)).mono ?_; rintro e w' ⟨rfl, rfl⟩))
          go_roundw
          case rel =>
            refine ⟨k + 1, L ++ [x], _, _, _, by omega, by go_num, Hown7.out, by simp; omega, HIn.out, Hw7.out, ?_, Hbb7.out _ _ (Nat.le_refl _) ?_, ?_⟩
            · intro e
              rcases Hg7.out.at_ with e2 | e2
              · exact Hvb.out (e2 ▸ e)
              · rw [e2] at e; injection e with e; simp at e; omega
            · exact (hb.grown Hmw.out.2.by_ (by omega) (fun q e => by cases e; exact hz1')).alloc (by have := hb.size; omega) _
            · simp at hz7; omega
          case measure => simp [intOf]; omega
        · have hr0 : ((r : Int) == 0) = false := by simp; omega
          have hnr : (r = 0) = False := by simp [h0]
          have H0 := Lib.hid h0
          clear h0
          go_wp2_with (first
            | (go_at_call 9; refine HR.out.mono ?_; rintro e w' ⟨rfl, rfl⟩; rw [← Hr.out])
            | (go_at_call 11; refine HC.out.mono ?_; rintro e w' ⟨rfl, rfl⟩; rw [Hch.out])
            | (go_at_call 10; refine (num_any r _).mono ?_; rintro e w' ⟨rfl, rfl⟩)
            | (go_at_call 12; refine HM.out.mono ?_; rintro e w2 ⟨rfl, hmk, -⟩; rw [Hch.out]; obtain rfl := hmk (by rw [Hch.out]; exact H0.out); clear hmk)
            | (go_at_call 13; refine HH.out.mono ?_; rintro e w' ⟨rfl, rfl⟩; rw [HI.out.hi])
            | (go_at_call 14; refine HL.out.mono ?_; rintro e w' ⟨rfl, rfl⟩))
          go_roundw
          case rel => exact ⟨k + 1, L, t, h, s, by omega, by go_num, Ho.out, by omega, HI.out, Hw.out, Hvb.out, hb, hg⟩
          case measure => simp [intOf]; omega
      · obtain rfl : k = n1 := by omega
        clear ho hI hw
        have tok1 : True := trivial
        go_wp2_with (first
          | (go_at_call 11; refine (check_nil _ _).mono ?_; rintro e w' ⟨rfl, rfl⟩)
          | (go_at_call 12; refine (mark_nil _ _).mono ?_; rintro e w' ⟨rfl, rfl⟩)
          | (go_at_call 13; refine (highest_nil _).mono ?_; rintro e w' ⟨rfl, rfl⟩)
          | (go_at_call 15; refine (is_any 8 8 _).mono ?_; rintro e w' ⟨rfl, rfl⟩))
        go_ret
        exact ⟨rfl, hb⟩
end Go.Proofs.Ytkoefhbmkmepaaa
