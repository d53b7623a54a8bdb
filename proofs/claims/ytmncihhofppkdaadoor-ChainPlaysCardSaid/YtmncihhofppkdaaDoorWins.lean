/- CONTRACTS: link.Window: Check, Mark, Highest. -/
import Derived.Test.YtmncihhofppkdaaDoorBase
import Derived.StillTailTactics
import Derived.Deep.QuietTactic
import Derived.BigQuiet
namespace Go.Proofs.YtmncihhofppkdaaDoor
open Go.RowKit
set_option linter.unusedVariables false

/-- a window's three cells at the head of block g -/
structure WinAt (w : World) (g : Nat) (t : Bool) (h : Int) (s : BitVec 64) : Prop where
  c0 : w.cell? ⟨g, 0, none⟩ = some (.bool t)
  c1 : w.cell? ⟨g, 1, none⟩ = some (.int .i64 h)
  c2 : w.cell? ⟨g, 2, none⟩ = some (.int .u64 (bv s))
  f0 : w.frozen? ⟨g, 0, none⟩ = false
  f1 : w.frozen? ⟨g, 1, none⟩ = false
  f2 : w.frozen? ⟨g, 2, none⟩ = false
/-- may a number be taken? an error's number -/
def winCheck (t : Bool) (h : Int) (s : BitVec 64) (n : Int) : Nat :=
  if n < 0 ∨ 4294967295 ≤ n then 8 else if t = false ∨ h < n then 0 else if n = h then 7 else if 64 < h - n then 11 else if s.getLsbD (h - n - 1).toNat then 7 else 0
theorem bit_eq (s : BitVec 64) (e : Nat) : (bv (s >>> e &&& 1#64) == 1) = s.getLsbD e := by
  rw [show (1 : Int) = @OfNat.ofNat Int 1 instOfNat from rfl, bv_beq_lit _ 1 (by decide)]
  rw [Bool.eq_iff_iff, beq_iff_eq]
  constructor
  · intro h
    have := congrArg (fun x : BitVec 64 => x.getLsbD 0) h
    simpa using this
  · intro h
    apply BitVec.eq_of_getLsbD_eq
    intro i hi
    by_cases h0 : i = 0
    · subst h0; simpa using h
    · simp [h0]

set_option maxRecDepth 100000 in
set_option maxHeartbeats 2000000 in
theorem wcheck_any (g : Nat) (t : Bool) (h : Int) (s : BitVec 64) (n : Int) (w : World) (hw : WinAt w g t h s) (hh : t = true → 0 ≤ h ∧ h < 4294967295) :
    Calls Tryd.prog 36 #[.pointer (some ⟨g, 0, none⟩), .int .i64 n] w fun e w' => e = .returned (errV (winCheck t h s n)) ∧ w = w' := by
  obtain ⟨c0, c1, c2, -, -, -⟩ := hw
  by_cases h1 : n < 0
  · have e : winCheck t h s n = 8 := by unfold winCheck; rw [if_pos (.inl h1)]
    rw [e]
    clear hh
    go_enter Tryd.func36, Tryd.ntmps36
    go_wp2
    go_ret
    exact ⟨rfl, rfl⟩
  by_cases h2 : 4294967295 ≤ n
  · have e : winCheck t h s n = 8 := by unfold winCheck; rw [if_pos (.inr h2)]
    rw [e]
    clear hh
    have h1' : decide (n < 0) = false := by simpa using h1
    go_enter Tryd.func36, Tryd.ntmps36
    go_wp2
    go_ret
    exact ⟨rfl, rfl⟩
  have h1' : decide (n < 0) = false := by simpa using h1
  have h2' : decide (4294967295 ≤ n) = false := by simpa using h2
  have e0 : winCheck t h s n = if t = false ∨ h < n then 0 else if n = h then 7 else if 64 < h - n then 11 else if s.getLsbD (h - n - 1).toNat then 7 else 0 := by unfold winCheck; rw [if_neg (by omega)]
  cases t with
  | false =>
    rw [e0, if_pos (.inl rfl)]
    clear e0 hh
    go_enter Tryd.func36, Tryd.ntmps36
    go_wp2
    go_ret
    exact ⟨rfl, rfl⟩
  | true =>
    obtain ⟨hh0, hh1⟩ := hh rfl
    by_cases h3 : h < n
    · rw [e0, if_pos (.inr h3)]
      clear e0
      go_enter Tryd.func36, Tryd.ntmps36
      go_wp2
      go_ret
      exact ⟨rfl, rfl⟩
    rw [if_neg (by simp; omega)] at e0
    have h3' : decide (h < n) = false := by simpa using h3
    by_cases h4 : n = h
    · rw [e0, if_pos h4]
      clear e0
      subst h4
      go_enter Tryd.func36, Tryd.ntmps36
      go_wp2
      go_ret
      exact ⟨rfl, rfl⟩
    rw [if_neg h4] at e0
    have h4' : (n == h) = false := by simpa using h4
    by_cases h5 : 64 < h - n
    · rw [e0, if_pos h5]
      clear e0
      go_enter Tryd.func36, Tryd.ntmps36
      go_wp2
      go_ret
      exact ⟨rfl, rfl⟩
    rw [if_neg h5] at e0
    obtain ⟨k, hk⟩ : ∃ k : Nat, h - n - 1 = (k : Int) := ⟨(h - n - 1).toNat, by omega⟩
    have hk2 : (h - n - 1).toNat = k := by omega
    rw [hk2] at e0
    have hb := bit_eq s k
    have h5' : decide (64 < h - n) = false := by simpa using h5
    rw [e0]
    have b1 : 0 ≤ n := by omega
    have b2 : n < h := by omega
    clear e0 hk2 h1 h2 h3 h4 h5
    cases hbit : s.getLsbD k with
    | true =>
      rw [hbit] at hb
      simp only [if_true]
      go_enter Tryd.func36, Tryd.ntmps36
      go_wp2
      go_ret
      exact ⟨rfl, rfl⟩
    | false =>
      rw [hbit] at hb
      simp only [Bool.false_eq_true, if_false]
      go_enter Tryd.func36, Tryd.ntmps36
      go_wp2
      go_ret
      exact ⟨rfl, rfl⟩
/-- the window behind a number that was taken -/
def winMark (t : Bool) (h : Int) (s : BitVec 64) (n : Int) : Bool × Int × BitVec 64 :=
  if t = false then (true, n, s) else if n < h then (true, h, s ||| 1#64 <<< (h - n - 1).toNat) else (true, n, s <<< (n - h).toNat ||| 1#64 <<< (n - h - 1).toNat)

theorem grownBy_setCell (w : World) (g i : Nat) (v : Value) : w.grownBy (w.setCell ⟨g, i, none⟩ v) (some g) :=
  ⟨rfl, rfl, rfl, by simp [World.setCell], fun k _ hk => heap_setCell_other w ⟨g, i, none⟩ k v (fun e => hk (by simp [e]))⟩

theorem cell_ne {w : World} {g i j : Nat} {v : Value} (hij : i ≠ j) : (w.setCell ⟨g, i, none⟩ v).cell? ⟨g, j, none⟩ = w.cell? ⟨g, j, none⟩ :=
  World.cell?_setCell_other w _ _ v (fun e => hij (by injection e))
theorem cell_eq {w : World} {g i : Nat} {u v : Value} (h : w.cell? ⟨g, i, none⟩ = some u) : (w.setCell ⟨g, i, none⟩ v).cell? ⟨g, i, none⟩ = some v :=
  World.cell?_setCell_same' w _ v (by rw [h]; rfl)
theorem frozen_set {w : World} {a p : Addr} {v : Value} : (w.setCell a v).frozen? p = w.frozen? p := World.frozen?_setCell ..
section
variable {w : World} {g : Nat} {t : Bool} {h : Int} {s : BitVec 64}
theorem WinAt.set0 (x : WinAt w g t h s) (t' : Bool) : WinAt (w.setCell ⟨g, 0, none⟩ (.bool t')) g t' h s :=
  ⟨cell_eq x.c0, (cell_ne (by decide)).trans x.c1, (cell_ne (by decide)).trans x.c2, frozen_set.trans x.f0, frozen_set.trans x.f1, frozen_set.trans x.f2⟩
theorem WinAt.set1 (x : WinAt w g t h s) (h' : Int) : WinAt (w.setCell ⟨g, 1, none⟩ (.int .i64 h')) g t h' s :=
  ⟨(cell_ne (by decide)).trans x.c0, cell_eq x.c1, (cell_ne (by decide)).trans x.c2, frozen_set.trans x.f0, frozen_set.trans x.f1, frozen_set.trans x.f2⟩
theorem WinAt.set2 (x : WinAt w g t h s) (s' : BitVec 64) : WinAt (w.setCell ⟨g, 2, none⟩ (.int .u64 (bv s'))) g t h s' :=
  ⟨(cell_ne (by decide)).trans x.c0, (cell_ne (by decide)).trans x.c1, cell_eq x.c2, frozen_set.trans x.f0, frozen_set.trans x.f1, frozen_set.trans x.f2⟩
theorem WinAt.drew (x : WinAt w g t h s) : WinAt w.drew g t h s := ⟨x.c0, x.c1, x.c2, x.f0, x.f1, x.f2⟩
end
/-- w' is w but for the first three cells of block g, and new blocks -/
structure Out3 (w w' : World) (g : Nat) : Prop where
  by_ : w.grownBy w' (some g)
  rest : ∀ i, 3 ≤ i → w'.cell? ⟨g, i, none⟩ = w.cell? ⟨g, i, none⟩ ∧ w'.frozen? ⟨g, i, none⟩ = w.frozen? ⟨g, i, none⟩
theorem Out3.refl (w : World) (g : Nat) : Out3 w w g := ⟨World.grownBy.refl _ _, fun _ _ => ⟨rfl, rfl⟩⟩
theorem Out3.set_ {w w' : World} {g : Nat} (x : Out3 w w' g) (j : Nat) (hj : j < 3) (v : Value) : Out3 w (w'.setCell ⟨g, j, none⟩ v) g :=
  ⟨grownBy_trans x.by_ (grownBy_setCell w' g j v) (fun q e => .inl e), fun i hi => ⟨(cell_ne (by omega)).trans (x.rest i hi).1, frozen_set.trans (x.rest i hi).2⟩⟩
theorem Out3.drew {w w' : World} {g : Nat} (x : Out3 w w' g) : Out3 w w'.drew g :=
  ⟨⟨x.by_.os, x.by_.tape, x.by_.output, x.by_.size, x.by_.block⟩, x.rest⟩

set_option maxRecDepth 100000 in
set_option maxHeartbeats 2000000 in
theorem wmark_any (g : Nat) (t : Bool) (h : Int) (s : BitVec 64) (n : Int) (w : World) (hw : WinAt w g t h s) (hh : t = true → 0 ≤ h ∧ h < 4294967295) :
    Calls Tryd.prog 37 #[.pointer (some ⟨g, 0, none⟩), .int .i64 n] w fun e w' => e = .returned (errV (winCheck t h s n)) ∧
      (winCheck t h s n ≠ 0 → w = w') ∧ (winCheck t h s n = 0 → WinAt w' g (winMark t h s n).1 (winMark t h s n).2.1 (winMark t h s n).2.2 ∧ Out3 w w' g) := by
  have Hw := Lib.hid hw
  by_cases h0 : winCheck t h s n = 0
  · have hr : (0 ≤ n ∧ n < 4294967295) ∧ (t = true → n ≠ h ∧ h - n ≤ 64) := by
      unfold winCheck at h0
      split at h0
      · cases h0
      · rename_i h1
        refine ⟨by omega, ?_⟩
        rintro rfl
        split at h0
        · rename_i h2
          have : h < n := by simpa using h2
          omega
        · split at h0
          · cases h0
          · split at h0
            · cases h0
            · omega
    obtain ⟨c0, c1, c2, f0, f1, f2⟩ := hw
    cases t with
    | false =>
      have H0 := Lib.hid h0
      have Hc := Lib.hid (wcheck_any g false h s n w Hw.out hh)
      clear h0 hh hr
      go_enter Tryd.func37, Tryd.ntmps37
      go_wp2_with (go_at_call 36; refine Hc.out.mono ?_; rintro e w' ⟨rfl, rfl⟩; rw [H0.out, errV_zero])
      go_ret
      refine ⟨by rw [H0.out]; rfl, fun hn => absurd H0.out hn, fun _ => ?_⟩
      exact ⟨(Hw.out.set0 true).set1 n, ((Out3.refl w g).set_ 0 (by decide) _).set_ 1 (by decide) _⟩
    | true =>
      obtain ⟨⟨b0, b1⟩, hr2⟩ := hr
      obtain ⟨b2, b3⟩ := hr2 rfl
      obtain ⟨b4, b5⟩ := hh rfl
      have H0 := Lib.hid h0
      have Hc := Lib.hid (wcheck_any g true h s n w Hw.out hh)
      clear h0 hh hr2
      by_cases hlt : n < h
      · obtain ⟨k, hk⟩ : ∃ k : Nat, h - n - 1 = (k : Int) := ⟨(h - n - 1).toNat, by omega⟩
        have e : winMark true h s n = (true, h, s ||| 1#64 <<< k) := by
          unfold winMark
          rw [if_neg (by simp), if_pos hlt, show (h - n - 1).toNat = k from by omega]
        rw [e]
        have hw1 : IntKind.i64.wrap (h - n) = h - n := IntWalk.i64_in _ (by omega)
        have hw2 : IntKind.i64.wrap (h - n - 1) = (k : Int) := by rw [← hk]; exact IntWalk.i64_in _ (by omega)
        clear hk
        clear e b2
        go_enter Tryd.func37, Tryd.ntmps37
        go_wp2_with (go_at_call 36; refine Hc.out.mono ?_; rintro e w' ⟨rfl, rfl⟩; rw [H0.out, errV_zero])
        go_still_tail 15, (by kernel_rfl)
        go_wp2
        go_ret
        exact ⟨by rw [H0.out]; rfl, fun hn => absurd H0.out hn, fun _ => ⟨(Hw.out.set2 _).drew, ((Out3.refl w g).set_ 2 (by decide) _).drew⟩⟩
      · obtain ⟨k, hk⟩ : ∃ k : Nat, n - h - 1 = (k : Int) := ⟨(n - h - 1).toNat, by omega⟩
        have hk1 : n - h = ((k + 1 : Nat) : Int) := by omega
        have e : winMark true h s n = (true, n, s <<< (k + 1) ||| 1#64 <<< k) := by
          unfold winMark
          rw [if_neg (by simp), if_neg hlt, show (n - h - 1).toNat = k from by omega, show (n - h).toNat = k + 1 from by omega]
        rw [e]
        have hw1 : IntKind.i64.wrap (n - h) = ((k + 1 : Nat) : Int) := by rw [← hk1]; exact IntWalk.i64_in _ (by omega)
        have hw2 : IntKind.i64.wrap (((k + 1 : Nat) : Int) - 1) = (k : Int) := by rw [IntWalk.i64_in _ (by omega)]; omega
        have hlt' : decide (n < h) = false := by simpa using hlt
        generalize hK : k + 1 = K at hw1 hw2 hk1 ⊢
        clear e b2 hk hlt
        go_enter Tryd.func37, Tryd.ntmps37
        go_wp2_with (go_at_call 36; refine Hc.out.mono ?_; rintro e w' ⟨rfl, rfl⟩; rw [H0.out, errV_zero])
        go_still_tail 13, (by kernel_rfl)
        go_wp2
        go_ret
        exact ⟨by rw [H0.out]; rfl, fun hn => absurd H0.out hn, fun _ => ⟨((Hw.out.set2 _).set1 n).drew, (((Out3.refl w g).set_ 2 (by decide) _).set_ 1 (by decide) _).drew⟩⟩
  · have H0 := Lib.hid h0
    have hne := errV_pos h0
    have Hne := Lib.hid hne
    have Hc := Lib.hid (wcheck_any g t h s n w hw hh)
    clear h0 hh hw hne
    go_enter Tryd.func37, Tryd.ntmps37
    go_wp2_with (go_at_call 36; refine Hc.out.mono ?_; rintro e w' ⟨rfl, rfl⟩; rw [Hne.out])
    go_ret
    exact ⟨by rw [Hne.out]; rfl, fun _ => rfl, fun hn => absurd hn H0.out⟩

set_option maxRecDepth 100000 in
theorem highest_any (g : Nat) (t : Bool) (h : Int) (s : BitVec 64) (w : World) (hw : WinAt w g t h s) :
    Calls Tryd.prog 49 #[.pointer (some ⟨g, 0, none⟩)] w fun e w' => e = .returned (.int .i64 (if t then h else -1)) ∧ w = w' := by
  obtain ⟨c0, c1, -, -, -, -⟩ := hw
  cases t <;>
  · go_enter Tryd.func49, Tryd.ntmps49
    go_wp2
    go_ret
    exact ⟨rfl, rfl⟩
theorem check_nil (n : Int) (w : World) : Calls Tryd.prog 36 #[.pointer none, .int .i64 n] w fun e w' => e = .returned (errV 8) ∧ w = w' := by
  go_enter Tryd.func36, Tryd.ntmps36
  go_wp2
  go_ret
  exact ⟨rfl, rfl⟩
theorem mark_nil (n : Int) (w : World) : Calls Tryd.prog 37 #[.pointer none, .int .i64 n] w fun e w' => e = .returned (errV 8) ∧ w = w' := by
  go_enter Tryd.func37, Tryd.ntmps37
  go_wp2_with (go_at_call 36; refine (check_nil _ _).mono ?_; rintro e w' ⟨rfl, rfl⟩; rw [errV_pos (by decide)])
  go_ret
  exact ⟨rfl, rfl⟩
theorem highest_nil (w : World) : Calls Tryd.prog 49 #[.pointer none] w fun e w' => e = .returned (.int .i64 (-1)) ∧ w = w' := by
  go_enter Tryd.func49, Tryd.ntmps49
  go_wp2
  go_ret
  exact ⟨rfl, rfl⟩
end Go.Proofs.YtmncihhofppkdaaDoor

/- PLAIN LAW: a window of 64 numbers against the list of all numbers that were taken. -/
namespace Go.Proofs.YtmncihhofppkdaaDoor
open Go.RowKit
set_option linter.unusedVariables false

def hiL (L : List Int) : Int := L.foldl (fun m x => if m < x then x else m) (-1)
def refCheck (L : List Int) (n : Int) : Nat :=
  if n < 0 ∨ 4294967294 < n then 8 else if n < hiL L - 64 then 11 else if n ∈ L then 7 else 0
theorem hiL_snoc (L : List Int) (n : Int) : hiL (L ++ [n]) = if hiL L < n then n else hiL L := by unfold hiL; rw [List.foldl_append]; rfl

structure Inv (L : List Int) (t : Bool) (h : Int) (s : BitVec 64) : Prop where
  none_ : t = false → L = [] ∧ s = 0#64
  some_ : t = true → h = hiL L ∧ 0 ≤ h ∧ h < 4294967295 ∧ h ∈ L ∧ (∀ x ∈ L, x ≤ h) ∧ ∀ n : Int, 0 ≤ n → n < h → h - n ≤ 64 → (n ∈ L ↔ s.getLsbD (h - n - 1).toNat = true)
theorem Inv.start : Inv [] false 0 0#64 := ⟨fun _ => ⟨rfl, rfl⟩, fun h => by cases h⟩
theorem Inv.hi {L : List Int} {t : Bool} {h : Int} {s : BitVec 64} (x : Inv L t h s) : (if t then h else -1) = hiL L := by
  cases t with
  | false => rw [(x.none_ rfl).1]; rfl
  | true => exact (x.some_ rfl).1
theorem Inv.bound {L : List Int} {t : Bool} {h : Int} {s : BitVec 64} (x : Inv L t h s) : t = true → 0 ≤ h ∧ h < 4294967295 := fun ht => ⟨(x.some_ ht).2.1, (x.some_ ht).2.2.1⟩
theorem Inv.check {L : List Int} {t : Bool} {h : Int} {s : BitVec 64} (x : Inv L t h s) (n : Int) : winCheck t h s n = refCheck L n := by
  by_cases h1 : n < 0 ∨ 4294967295 ≤ n
  · unfold winCheck refCheck
    rw [if_pos h1, if_pos (show n < 0 ∨ 4294967294 < n by omega)]
  have er : refCheck L n = if n < hiL L - 64 then 11 else if n ∈ L then 7 else 0 := by unfold refCheck; rw [if_neg (show ¬ (n < 0 ∨ 4294967294 < n) by omega)]
  have ew : winCheck t h s n = if t = false ∨ h < n then 0 else if n = h then 7 else if 64 < h - n then 11 else if s.getLsbD (h - n - 1).toNat then 7 else 0 := by unfold winCheck; rw [if_neg h1]
  rw [er, ew]
  cases t with
  | false =>
    obtain ⟨rfl, -⟩ := x.none_ rfl
    rw [if_pos (show false = false ∨ h < n from .inl rfl), if_neg (show ¬ n < hiL [] - 64 by simp [hiL]; omega), if_neg (show n ∉ ([] : List Int) by simp)]
  | true =>
    obtain ⟨e, b0, b1, hm, hle, hbit⟩ := x.some_ rfl
    rw [← e]
    by_cases h2 : h < n
    · rw [if_pos (show true = false ∨ h < n from .inr h2), if_neg (show ¬ n < h - 64 by omega), if_neg (show n ∉ L from fun hn => by have := hle n hn; omega)]
    rw [if_neg (show ¬ (true = false ∨ h < n) by simp; omega)]
    by_cases h3 : n = h
    · rw [if_pos h3, if_neg (show ¬ n < h - 64 by omega), if_pos (show n ∈ L by rw [h3]; exact hm)]
    rw [if_neg h3]
    by_cases h4 : 64 < h - n
    · rw [if_pos h4, if_pos (show n < h - 64 by omega)]
    rw [if_neg h4, if_neg (show ¬ n < h - 64 by omega)]
    have := hbit n (by omega) (by omega) (by omega)
    by_cases h5 : s.getLsbD (h - n - 1).toNat = true
    · rw [if_pos h5, if_pos (this.2 h5)]
    · rw [if_neg h5, if_neg (fun hn => h5 (this.1 hn))]
theorem Inv.mark {L : List Int} {t : Bool} {h : Int} {s : BitVec 64} (x : Inv L t h s) (n : Int) (h0 : refCheck L n = 0) :
    Inv (L ++ [n]) (winMark t h s n).1 (winMark t h s n).2.1 (winMark t h s n).2.2 := by
  have hb : 0 ≤ n ∧ n ≤ 4294967294 ∧ hiL L - 64 ≤ n ∧ n ∉ L := by
    unfold refCheck at h0
    split at h0
    · cases h0
    · split at h0
      · cases h0
      · split at h0
        · cases h0
        · rename_i a b c
          exact ⟨by omega, by omega, by omega, c⟩
  obtain ⟨c0, c1, c2, c3⟩ := hb
  cases t with
  | false =>
    obtain ⟨rfl, rfl⟩ := x.none_ rfl
    refine ⟨fun hf => by simp [winMark] at hf, fun _ => ?_⟩
    simp only [winMark, if_true, List.nil_append]
    refine ⟨by simp [hiL]; omega, c0, by omega, by simp, by simp, fun m hm0 hm1 _ => ?_⟩
    simp; omega
  | true =>
    obtain ⟨e, b0, b1, hm, hle, hbit⟩ := x.some_ rfl
    have hnh : n ≠ h := fun e => c3 (e ▸ hm)
    by_cases hlt : n < h
    · have ew : winMark true h s n = (true, h, s ||| 1#64 <<< (h - n - 1).toNat) := by unfold winMark; rw [if_neg (by simp), if_pos hlt]
      rw [ew]
      dsimp only
      refine ⟨fun hf => by simp at hf, fun _ => ⟨?_, b0, b1, by simp [hm], fun y hy => ?_, fun m hm0 hm1 hm2 => ?_⟩⟩
      · simp only [hiL_snoc]; rw [if_neg (by omega)]; exact e
      · rcases List.mem_append.1 hy with hy | hy
        · exact hle y hy
        · simp at hy; omega
      · simp only [BitVec.getLsbD_or, BitVec.getLsbD_shiftLeft, BitVec.getLsbD_one, Bool.or_eq_true, Bool.and_eq_true, decide_eq_true_eq, List.mem_append, List.mem_singleton, hbit m hm0 hm1 hm2, Bool.not_eq_true', decide_eq_false_iff_not]
        constructor
        · rintro (h | h)
          · exact .inl h
          · right; refine ⟨⟨by omega, by omega⟩, by omega⟩
        · rintro (h | ⟨⟨h1, h2⟩, h3⟩)
          · exact .inl h
          · right; omega
    · have ew : winMark true h s n = (true, n, s <<< (n - h).toNat ||| 1#64 <<< (n - h - 1).toNat) := by unfold winMark; rw [if_neg (by simp), if_neg hlt]
      rw [ew]
      dsimp only
      refine ⟨fun hf => by simp at hf, fun _ => ⟨?_, c0, by omega, by simp, fun y hy => ?_, fun m hm0 hm1 hm2 => ?_⟩⟩
      · simp only [hiL_snoc]; rw [if_pos (by omega)]
      · rcases List.mem_append.1 hy with hy | hy
        · have := hle y hy; omega
        · simp at hy; omega
      · simp only [BitVec.getLsbD_or, BitVec.getLsbD_shiftLeft, BitVec.getLsbD_one, Bool.or_eq_true, Bool.and_eq_true, decide_eq_true_eq, List.mem_append, List.mem_singleton, Bool.not_eq_true', decide_eq_false_iff_not]
        by_cases hmh : m = h
        · subst hmh
          constructor
          · intro _; right; refine ⟨⟨by omega, by omega⟩, by omega⟩
          · intro _; exact .inl hm
        · by_cases hml : m < h
          · have hq := hbit m hm0 hml (by omega)
            have ei : (n - m - 1).toNat - (n - h).toNat = (h - m - 1).toNat := by omega
            rw [ei, hq]
            constructor
            · rintro (h | h)
              · left; exact ⟨⟨by omega, by omega⟩, h⟩
              · omega
            · rintro (⟨_, h⟩ | ⟨⟨h1, h2⟩, h3⟩)
              · exact .inl h
              · omega
          · constructor
            · rintro (h | h)
              · have := hle m h; omega
              · omega
            · rintro (⟨⟨h1, h2⟩, _⟩ | ⟨⟨h1, h2⟩, h3⟩)
              · omega
              · omega
end Go.Proofs.YtmncihhofppkdaaDoor
