/- CONTRACT: kdf.Equal; the walk of KdfEqual. -/
import Derived.Test.YtgeighnfgniamaaNum
import Derived.Deep.QuietTactic
import Derived.BigQuiet
import Derived.Deep.RegionLaw
import Derived.Deep.RegionWith
namespace Go.Proofs.Ytgeighnfgniamaa
open Go.RowKit

def unlike (xs ys : List (BitVec 8)) (k : Nat) : BitVec 8 := (List.range k).foldl (fun u i => u ||| (xs.getD i 0#8 ^^^ ys.getD i 0#8)) 0#8
theorem unlike_succ (xs ys : List (BitVec 8)) (k : Nat) : unlike xs ys (k + 1) = unlike xs ys k ||| (xs.getD k 0#8 ^^^ ys.getD k 0#8) := by
  simp [unlike, List.range_succ]
theorem unlike_zero (xs ys : List (BitVec 8)) : ∀ k, (unlike xs ys k = 0#8 ↔ ∀ i, i < k → xs.getD i 0#8 = ys.getD i 0#8)
  | 0 => by simp [unlike]
  | k + 1 => by
    rw [unlike_succ, BitVec.or_eq_zero_iff, unlike_zero xs ys k, BitVec.xor_eq_zero_iff]
    constructor
    · rintro ⟨h1, h2⟩ i hi
      rcases Nat.lt_or_eq_of_le (Nat.le_of_lt_succ hi) with h | h
      · exact h1 i h
      · subst h; exact h2
    · intro h
      exact ⟨fun i hi => h i (by omega), h k (by omega)⟩
theorem unlike_all (xs ys : List (BitVec 8)) (h : xs.length = ys.length) : (unlike xs ys xs.length == 0#8) = (xs == ys) := by
  rw [Bool.eq_iff_iff, beq_iff_eq, beq_iff_eq, unlike_zero]
  constructor
  · intro h1
    apply List.ext_getElem h
    intro i a b
    have := h1 i a
    simpa [List.getD, List.getElem?_eq_getElem a, List.getElem?_eq_getElem b] using this
  · rintro rfl i _; rfl

set_option maxRecDepth 100000 in
set_option maxHeartbeats 1000000 in
theorem equal_any {w : World} {B1 B2 : Nat} {A1 A2 : Option Addr} {xs ys : List (BitVec 8)} {n1 n2 : Nat} (c1 c2 : Nat) (h1 : Rd b8 w B1 A1 xs) (h2 : Rd b8 w B2 A2 ys) (hn1 : xs.length = n1) (hn2 : ys.length = n2) (hm : n1 ≤ maxLen) :
    Calls Try.prog 13 #[.slice A1 n1 c1, .slice A2 n2 c2] w fun e w' => e = .returned (.bool (xs == ys)) ∧ Below w.heap.size w w' := by
  unfold maxLen at hm
  by_cases hne : n1 = n2
  · subst hne
    go_enter Try.func13, Try.ntmps13
    go_wp2
    go_loopw [5, 14] (fun u i wr => ∃ k : Nat, k ≤ n1 ∧ i = .int .i64 k ∧ u = .int .u8 (bv (unlike xs ys k)) ∧ Rd b8 wr B1 A1 xs ∧ Rd b8 wr B2 A2 ys ∧ Below w.heap.size w wr) (fun _ i _ => n1 - (intOf i).toNat)
    case atStart => exact ⟨0, by omega, rfl, rfl, h1, h2, Below.refl _ _⟩
    case round =>
      obtain ⟨k, hk, rfl, rfl, hr1, hr2, hb⟩ := hrel
      by_cases hlt : k < n1
      · obtain ⟨b, off, rfl, hB, hc1⟩ := hr1.at_ (k := k) (by omega)
        obtain ⟨b', off', rfl, hB', hc2⟩ := hr2.at_ (k := k) (by omega)
        obtain ⟨x, hx⟩ : ∃ x, x = xs[k] := ⟨_, rfl⟩
        obtain ⟨y, hy⟩ : ∃ y, y = ys[k] := ⟨_, rfl⟩
        rw [← hx, b8_eq] at hc1
        rw [← hy, b8_eq] at hc2
        have hs : unlike xs ys (k + 1) = unlike xs ys k ||| (x ^^^ y) := by
          rw [unlike_succ, hx, hy]
          simp [List.getD, List.getElem?_eq_getElem (show k < xs.length by omega), List.getElem?_eq_getElem (show k < ys.length by omega)]
        have Hs := Lib.hid hs
        have Hr1 := Lib.hid hr1
        have Hr2 := Lib.hid hr2
        have Hn1 := Lib.hid hn1
        have Hn2 := Lib.hid hn2
        generalize unlike xs ys k = U at Hs ⊢
        clear hs hx hy hr1 hr2 hn1 hn2
        go_wp2_with fail
        go_quiet (fail)
        go_wp2
        go_roundw
        case rel => exact ⟨k + 1, by omega, by go_num, by rw [Hs.out], Hr1.out.drewN _, Hr2.out.drewN _, below_drewN hb _⟩
        case measure => simp [intOf]; omega
      · obtain rfl : k = n1 := by omega
        have hu := unlike_all xs ys (by omega)
        rw [hn1] at hu
        go_wp2
        go_ret
        exact ⟨by rw [← hu]; exact congrArg (fun b => Ending.returned (.bool b)) (bv_beq_lit (unlike xs ys k) 0 (by decide)), hb⟩
  · have hf : (xs == ys) = false := by
      rw [beq_eq_false_iff_ne]; rintro rfl; exact hne (hn1.symm.trans hn2)
    have h0 : ((n1 : Int) != (n2 : Int)) = true := by rw [bne_iff_ne]; omega
    go_enter Try.func13, Try.ntmps13
    go_wp2
    go_ret
    exact ⟨by simp [hf], Below.refl _ _⟩

theorem one_lits (w : World) (E : TypeId) : Rd b8 ((w.alloc (.cells #[.int .u8 1] E)).alloc (.cells #[.int .u8 1] E)).drew (w.heap.size + 2) (some ⟨w.heap.size, 0, none⟩) [1#8] ∧ Rd b8 ((w.alloc (.cells #[.int .u8 1] E)).alloc (.cells #[.int .u8 1] E)).drew (w.heap.size + 2) (some ⟨w.heap.size + 1, 0, none⟩) [1#8] := by
  have h1 := (Rd.new b8 w E [1#8]).alloc (by simp) (.cells #[.int .u8 1] E)
  have h2 := Rd.new b8 (w.alloc (.cells #[.int .u8 1] E)) E [1#8]
  rw [World.size_alloc] at h2
  exact ⟨h1.more (by omega), h2⟩
set_option maxRecDepth 100000 in
set_option maxHeartbeats 1000000 in
theorem kdfEqual_walk (A1 : Option Addr) (n1 c1 : Nat) (xs : List (BitVec 8)) {w : World} (h1 : Rd b8 w w.heap.size A1 xs) (hn1 : xs.length = n1) (hl1 : n1 ≤ c1) (hm1 : c1 ≤ maxLen)
    (A2 : Option Addr) (n2 c2 : Nat) (ys : List (BitVec 8)) (h2 : Rd b8 w w.heap.size A2 ys) (hn2 : ys.length = n2) (_ : n2 ≤ c2) (_ : c2 ≤ maxLen) :
    Calls Try.prog 3 #[.slice A1 n1 c1, .slice A2 n2 c2] w fun e w' => e = .returned (.bool true) ∧ Below w.heap.size w w' := by
  have hle : n1 ≤ maxLen := Nat.le_trans hl1 hm1
  have tok1 : True := trivial
  have tok2 : True := trivial
  have tok3 : True := trivial
  have H1 := Lib.hid h1
  have H2 := Lib.hid h2
  have Hn1 := Lib.hid hn1
  have Hn2 := Lib.hid hn2
  have hs := str_beq' xs ys
  have he1 : ([1#8] == [1#8]) = true := rfl
  clear h1 h2 hn1 hn2
  go_enter Try.func3, Try.ntmps3
  go_wp2
  go_region_law (first
    | (go_simp; go_at_call 13; have _t := tok1; clear tok1; refine (equal_any (B1 := w.heap.size + 2) (B2 := w.heap.size + 2) (xs := [1#8]) (ys := [1#8]) 1 1 (by first | exact (one_lits _ _).1 | exact (one_lits _ _).2) (by first | exact (one_lits _ _).1 | exact (one_lits _ _).2) rfl rfl (by simp [maxLen])).mono ?_; rintro e w3 ⟨rfl, hb3⟩; have hbb3 : Below w.heap.size w w3 := (below_step (by (repeat' (first | assumption | exact Below.refl _ _ | refine Below.drew ?_ | refine Below.alloc ?_ ?_ _ | omega | (simp; done) | (simp; omega)))) hb3); have r1 := run_str (P := Try.prog) (H1.out.below hbb3) 22 9 5 c1 Try.underlying22 Try.underlying5 Try.underlying9; have r2 := run_str (P := Try.prog) (H2.out.below hbb3) 22 9 5 c2 Try.underlying22 Try.underlying5 Try.underlying9; rw [Hn1.out] at r1; rw [Hn2.out] at r2)
    | (go_simp; go_at_call 13; have _t := tok2; clear tok2; refine (equal_any (B1 := w.heap.size) (B2 := w.heap.size) (xs := xs) (ys := ys) c1 c2 (H1.out.below hbb3) (H2.out.below hbb3) Hn1.out Hn2.out hle).mono ?_; rintro e w4 ⟨rfl, hb4⟩; have hbb4 : Below w.heap.size w w4 := (below_step (by (repeat' (first | assumption | exact Below.refl _ _ | refine Below.drew ?_ | refine Below.alloc ?_ ?_ _ | omega | (simp; done) | (simp; omega)))) hb4); have r3 := run_str (P := Try.prog) (H1.out.below hbb4) 22 9 5 c1 Try.underlying22 Try.underlying5 Try.underlying9; have r4 := run_str (P := Try.prog) (H2.out.below hbb4) 22 9 5 c2 Try.underlying22 Try.underlying5 Try.underlying9; rw [Hn1.out] at r3; rw [Hn2.out] at r4)
    | (go_simp; go_at_call 13; have _t := tok3; clear tok3; refine (equal_any (B1 := w.heap.size) (B2 := w.heap.size) (xs := xs) (ys := xs) c1 c1 (H1.out.below hbb4) (H1.out.below hbb4) Hn1.out Hn1.out hle).mono ?_; rintro e w5 ⟨rfl, hb5⟩; have hbb5 : Below w.heap.size w w5 := (below_step (by (repeat' (first | assumption | exact Below.refl _ _ | refine Below.drew ?_ | refine Below.alloc ?_ ?_ _ | omega | (simp; done) | (simp; omega)))) hb5)))
  all_goals go_wp2
  all_goals go_ret
  all_goals exact ⟨rfl, hbb5⟩
end Go.Proofs.Ytgeighnfgniamaa
