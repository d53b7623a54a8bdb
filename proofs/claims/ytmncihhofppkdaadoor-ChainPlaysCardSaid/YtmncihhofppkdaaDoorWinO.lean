/- CONTRACTS: link.Window's Check, Mark, Highest, where the window lies in the middle of a block that is known whole. -/
import Derived.Test.YtmncihhofppkdaaDoorWins
import Derived.Test.YtmncihhofppkdaaDoorBase
namespace Go.Proofs.YtmncihhofppkdaaDoor
open Go.RowKit
set_option linter.unusedVariables false
set_option linter.unusedSimpArgs false

/-- block g holds just these cells, a window from the o-th on -/
structure WinO (w : World) (g o : Nat) (T : TypeId) (cs : List Value) (t : Bool) (h : Int) (s : BitVec 64) : Prop where
  blk : Blk w g T cs
  e0 : cs[o]? = some (.bool t)
  e1 : cs[o + 1]? = some (.int .i64 h)
  e2 : cs[o + 2]? = some (.int .u64 (bv s))
def setW (cs : List Value) (o : Nat) (t : Bool) (h : Int) (s : BitVec 64) : List Value := ((cs.set o (.bool t)).set (o + 1) (.int .i64 h)).set (o + 2) (.int .u64 (bv s))
theorem set_same {α : Type} (l : List α) (i : Nat) (v : α) (h : l[i]? = some v) : l.set i v = l := by
  obtain ⟨hi, rfl⟩ := List.getElem?_eq_some_iff.1 h
  exact List.set_getElem_self hi
theorem grown_drew {w w' : World} {r : Option Nat} (h : w.grownBy w' r) : w.grownBy w'.drew r := ⟨h.os, h.tape, h.output, h.size, h.block⟩
section
variable {w : World} {g o : Nat} {T : TypeId} {cs : List Value} {t : Bool} {h : Int} {s : BitVec 64}
theorem WinO.cells (x : WinO w g o T cs t h s) : w.cell? ⟨g, o, none⟩ = some (.bool t) ∧ w.cell? ⟨g, o + 1, none⟩ = some (.int .i64 h) ∧ w.cell? ⟨g, o + 2, none⟩ = some (.int .u64 (bv s)) ∧
    w.frozen? ⟨g, o, none⟩ = false ∧ w.frozen? ⟨g, o + 1, none⟩ = false ∧ w.frozen? ⟨g, o + 2, none⟩ = false :=
  ⟨x.blk.cell _ x.e0, x.blk.cell _ x.e1, x.blk.cell _ x.e2, x.blk.frozen _, x.blk.frozen _, x.blk.frozen _⟩
theorem WinO.same2 (x : WinO w g o T cs t h s) (t' : Bool) (h' : Int) : setW cs o t' h' s = (cs.set o (.bool t')).set (o + 1) (.int .i64 h') :=
  set_same _ _ _ (by rw [List.getElem?_set_ne (by omega), List.getElem?_set_ne (by omega)]; exact x.e2)
theorem WinO.same0 (x : WinO w g o T cs t h s) (h' : Int) (s' : BitVec 64) : setW cs o t h' s' = (cs.set (o + 2) (.int .u64 (bv s'))).set (o + 1) (.int .i64 h') := by
  unfold setW
  rw [set_same _ _ _ x.e0, List.set_comm _ _ (by omega)]
theorem WinO.same01 (x : WinO w g o T cs t h s) (s' : BitVec 64) : setW cs o t h s' = cs.set (o + 2) (.int .u64 (bv s')) := by
  unfold setW
  rw [set_same _ _ _ x.e0, set_same _ _ _ x.e1]
end

set_option maxRecDepth 100000 in
set_option maxHeartbeats 2000000 in
theorem wcheckO (g o : Nat) (T : TypeId) (cs : List Value) (t : Bool) (h : Int) (s : BitVec 64) (n : Int) (w : World) (hw : WinO w g o T cs t h s) (hh : t = true → 0 ≤ h ∧ h < 4294967295) :
    Calls Tryd.prog 36 #[.pointer (some ⟨g, o, none⟩), .int .i64 n] w fun e w' => e = .returned (errV (winCheck t h s n)) ∧ w = w' := by
  obtain ⟨c0, c1, c2, -, -, -⟩ := hw.cells
  by_cases h1 : n < 0
  · have e : winCheck t h s n = 8 := by unfold winCheck; rw [if_pos (.inl h1)]
    rw [e]
    clear hh
    go_enter Tryd.func36, Tryd.ntmps36
    go_wp2
    go_ret
    exact ⟨rfl, rfl⟩
  by_cases h2 : 4294967295 ≤ n
  · have e : winCheck t h s n = 8 := by unfold winCheck; rw [if_pos (.inr h2)]
    rw [e]
    clear hh
    have h1' : decide (n < 0) = false := by simpa using h1
    go_enter Tryd.func36, Tryd.ntmps36
    go_wp2
    go_ret
    exact ⟨rfl, rfl⟩
  have h1' : decide (n < 0) = false := by simpa using h1
  have h2' : decide (4294967295 ≤ n) = false := by simpa using h2
  have e0 : winCheck t h s n = if t = false ∨ h < n then 0 else if n = h then 7 else if 64 < h - n then 11 else if s.getLsbD (h - n - 1).toNat then 7 else 0 := by unfold winCheck; rw [if_neg (by omega)]
  cases t with
  | false =>
    rw [e0, if_pos (.inl rfl)]
    clear e0 hh
    go_enter Tryd.func36, Tryd.ntmps36
    go_wp2
    go_ret
    exact ⟨rfl, rfl⟩
  | true =>
    obtain ⟨hh0, hh1⟩ := hh rfl
    by_cases h3 : h < n
    · rw [e0, if_pos (.inr h3)]
      clear e0
      go_enter Tryd.func36, Tryd.ntmps36
      go_wp2
      go_ret
      exact ⟨rfl, rfl⟩
    rw [if_neg (by simp; omega)] at e0
    have h3' : decide (h < n) = false := by simpa using h3
    by_cases h4 : n = h
    · rw [e0, if_pos h4]
      clear e0
      subst h4
      go_enter Tryd.func36, Tryd.ntmps36
      go_wp2
      go_ret
      exact ⟨rfl, rfl⟩
    rw [if_neg h4] at e0
    have h4' : (n == h) = false := by simpa using h4
    by_cases h5 : 64 < h - n
    · rw [e0, if_pos h5]
      clear e0
      go_enter Tryd.func36, Tryd.ntmps36
      go_wp2
      go_ret
      exact ⟨rfl, rfl⟩
    rw [if_neg h5] at e0
    obtain ⟨k, hk⟩ : ∃ k : Nat, h - n - 1 = (k : Int) := ⟨(h - n - 1).toNat, by omega⟩
    have hk2 : (h - n - 1).toNat = k := by omega
    rw [hk2] at e0
    have hb := bit_eq s k
    have h5' : decide (64 < h - n) = false := by simpa using h5
    rw [e0]
    have b1 : 0 ≤ n := by omega
    have b2 : n < h := by omega
    clear e0 hk2 h1 h2 h3 h4 h5
    cases hbit : s.getLsbD k with
    | true =>
      rw [hbit] at hb
      simp only [if_true]
      go_enter Tryd.func36, Tryd.ntmps36
      go_wp2
      go_ret
      exact ⟨rfl, rfl⟩
    | false =>
      rw [hbit] at hb
      simp only [Bool.false_eq_true, if_false]
      go_enter Tryd.func36, Tryd.ntmps36
      go_wp2
      go_ret
      exact ⟨rfl, rfl⟩
set_option maxRecDepth 100000 in
set_option maxHeartbeats 2000000 in
theorem wmarkO (g o : Nat) (T : TypeId) (cs : List Value) (t : Bool) (h : Int) (s : BitVec 64) (n : Int) (w : World) (hw : WinO w g o T cs t h s) (hh : t = true → 0 ≤ h ∧ h < 4294967295) :
    Calls Tryd.prog 37 #[.pointer (some ⟨g, o, none⟩), .int .i64 n] w fun e w' => e = .returned (errV (winCheck t h s n)) ∧
      (winCheck t h s n ≠ 0 → w = w') ∧ (winCheck t h s n = 0 → Blk w' g T (setW cs o (winMark t h s n).1 (winMark t h s n).2.1 (winMark t h s n).2.2) ∧ w.grownBy w' (some g)) := by
  have Hw := Lib.hid hw
  by_cases h0 : winCheck t h s n = 0
  · have hr : (0 ≤ n ∧ n < 4294967295) ∧ (t = true → n ≠ h ∧ h - n ≤ 64) := by
      unfold winCheck at h0
      split at h0
      · cases h0
      · rename_i h1
        refine ⟨by omega, ?_⟩
        rintro rfl
        split at h0
        · rename_i h2
          have : h < n := by simpa using h2
          omega
        · split at h0
          · cases h0
          · split at h0
            · cases h0
            · omega
    obtain ⟨c0, c1, c2, f0, f1, f2⟩ := hw.cells
    cases t with
    | false =>
      have H0 := Lib.hid h0
      have Hc := Lib.hid (wcheckO g o T cs false h s n w Hw.out hh)
      clear h0 hh hr
      go_enter Tryd.func37, Tryd.ntmps37
      go_wp2_with (go_at_call 36; refine Hc.out.mono ?_; rintro e w' ⟨rfl, rfl⟩; rw [H0.out, errV_zero])
      go_ret
      refine ⟨by rw [H0.out]; rfl, fun hn => absurd H0.out hn, fun _ => ?_⟩
      exact ⟨((Hw.out.blk.set_ o (.bool true)).set_ (o + 1) (.int .i64 n)).cast (by show _ = setW cs o true n s; exact (Hw.out.same2 _ _).symm), grownBy_trans (grownBy_set _ _ _ _) (grownBy_set _ _ _ _) (fun q e => .inl e)⟩
    | true =>
      obtain ⟨⟨b0, b1⟩, hr2⟩ := hr
      obtain ⟨b2, b3⟩ := hr2 rfl
      obtain ⟨b4, b5⟩ := hh rfl
      have H0 := Lib.hid h0
      have Hc := Lib.hid (wcheckO g o T cs true h s n w Hw.out hh)
      clear h0 hh hr2
      by_cases hlt : n < h
      · obtain ⟨k, hk⟩ : ∃ k : Nat, h - n - 1 = (k : Int) := ⟨(h - n - 1).toNat, by omega⟩
        have e : winMark true h s n = (true, h, s ||| 1#64 <<< k) := by
          unfold winMark
          rw [if_neg (by simp), if_pos hlt, show (h - n - 1).toNat = k from by omega]
        rw [e]
        have hw1 : IntKind.i64.wrap (h - n) = h - n := IntWalk.i64_in _ (by omega)
        have hw2 : IntKind.i64.wrap (h - n - 1) = (k : Int) := by rw [← hk]; exact IntWalk.i64_in _ (by omega)
        clear hk
        clear e b2
        go_enter Tryd.func37, Tryd.ntmps37
        go_wp2_with (go_at_call 36; refine Hc.out.mono ?_; rintro e w' ⟨rfl, rfl⟩; rw [H0.out, errV_zero])
        go_still_tail 15, (by kernel_rfl)
        go_wp2
        go_ret
        exact ⟨by rw [H0.out]; rfl, fun hn => absurd H0.out hn, fun _ => ⟨((Hw.out.blk.set_ (o + 2) _).cast (Hw.out.same01 _).symm).drew, grown_drew (grownBy_set _ _ _ _)⟩⟩
      · obtain ⟨k, hk⟩ : ∃ k : Nat, n - h - 1 = (k : Int) := ⟨(n - h - 1).toNat, by omega⟩
        have hk1 : n - h = ((k + 1 : Nat) : Int) := by omega
        have e : winMark true h s n = (true, n, s <<< (k + 1) ||| 1#64 <<< k) := by
          unfold winMark
          rw [if_neg (by simp), if_neg hlt, show (n - h - 1).toNat = k from by omega, show (n - h).toNat = k + 1 from by omega]
        rw [e]
        have hw1 : IntKind.i64.wrap (n - h) = ((k + 1 : Nat) : Int) := by rw [← hk1]; exact IntWalk.i64_in _ (by omega)
        have hw2 : IntKind.i64.wrap (((k + 1 : Nat) : Int) - 1) = (k : Int) := by rw [IntWalk.i64_in _ (by omega)]; omega
        have hlt' : decide (n < h) = false := by simpa using hlt
        generalize hK : k + 1 = K at hw1 hw2 hk1 ⊢
        clear e b2 hk hlt
        go_enter Tryd.func37, Tryd.ntmps37
        go_wp2_with (go_at_call 36; refine Hc.out.mono ?_; rintro e w' ⟨rfl, rfl⟩; rw [H0.out, errV_zero])
        go_still_tail 13, (by kernel_rfl)
        go_wp2
        go_ret
        exact ⟨by rw [H0.out]; rfl, fun hn => absurd H0.out hn, fun _ => ⟨(((Hw.out.blk.set_ (o + 2) _).set_ (o + 1) (.int .i64 n)).cast (Hw.out.same0 _ _).symm).drew, grown_drew (grownBy_trans (grownBy_set _ _ _ _) (grownBy_set _ _ _ _) (fun q e => .inl e))⟩⟩
  · have H0 := Lib.hid h0
    have hne := errV_pos h0
    have Hne := Lib.hid hne
    have Hc := Lib.hid (wcheckO g o T cs t h s n w hw hh)
    clear h0 hh hw hne
    go_enter Tryd.func37, Tryd.ntmps37
    go_wp2_with (go_at_call 36; refine Hc.out.mono ?_; rintro e w' ⟨rfl, rfl⟩; rw [Hne.out])
    go_ret
    exact ⟨by rw [Hne.out]; rfl, fun _ => rfl, fun hn => absurd hn H0.out⟩

set_option maxRecDepth 100000 in
theorem highestO (g o : Nat) (T : TypeId) (cs : List Value) (t : Bool) (h : Int) (s : BitVec 64) (w : World) (hw : WinO w g o T cs t h s) :
    Calls Tryd.prog 49 #[.pointer (some ⟨g, o, none⟩)] w fun e w' => e = .returned (.int .i64 (if t then h else -1)) ∧ w = w' := by
  obtain ⟨c0, c1, -, -, -, -⟩ := hw.cells
  cases t <;>
  · go_enter Tryd.func49, Tryd.ntmps49
    go_wp2
    go_ret
    exact ⟨rfl, rfl⟩
end Go.Proofs.YtmncihhofppkdaaDoor
