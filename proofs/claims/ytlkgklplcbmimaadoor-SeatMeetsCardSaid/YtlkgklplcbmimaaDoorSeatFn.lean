/- CONTRACTS: math/bits.TrailingZeros; seat's Level, Children, Root, Leaves and the document's; which sizes and nodes there are. -/
import Derived.Test.YtlkgklplcbmimaaDoorSeatLaw
import Derived.Test.YtlkgklplcbmimaaDoorRows
import Derived.Shelf.Spec.TrailingZeros
import Derived.Lib.Hide
import Derived.WalkSpells
import Derived.WalkLawsBesides
import Derived.WalkKit
namespace Go.Proofs.YtlkgklplcbmimaaDoor
open Go.RowKit
set_option linter.unusedVariables false

/-- the library's table lies in its variable -/
def Tab (w : World) : Prop := TabAt 1 Lib.deBruijn64tab w
theorem Tab.lt {w : World} (h : Tab w) : 1 < w.heap.size := by
  have h0 := h 0 (by decide)
  apply Decidable.byContradiction
  intro hn
  rw [World.cell?] at h0
  simp [Array.getElem?_eq_none (Nat.le_of_not_lt hn)] at h0
theorem Tab.below {w w' : World} (h : Tab w) (hb : Below w.heap.size w w') : Tab w' := fun j hj => (World.cell?_of_block (a := ⟨1, j, none⟩) (hb.block 1 h.lt)).trans (h j hj)

set_option maxRecDepth 100000 in
set_option maxHeartbeats 1000000 in
theorem tz64_core (x k idx : Nat) (w : World) (hx0 : ((x : Int) == 0) = false)
    (key : IntKind.u64.wrap (bits BinOp.and IntKind.u64 (x : Int) (IntKind.u64.wrap (-(x : Int))) * 285870213051353865) / 288230376151711744 = (idx : Int))
    (hi : idx < 64) (hk : k < 64) (hcell : w.cell? ⟨1, idx, none⟩ = some (.int .u8 k)) :
    Calls Tryd.prog 35 #[.int .u64 x] w fun e w' => e = .returned (.int .i64 k) ∧ w = w' := by
  go_enter Tryd.func35, Tryd.ntmps35
  go_wp2_with (simp only [key])
  go_ret
  exact ⟨rfl, rfl⟩
theorem tz64_any (x : Nat) (hx : x < 18446744073709551616) (hx0 : x ≠ 0) (w : World) (hT : Tab w) :
    Calls Tryd.prog 35 #[.int .u64 x] w fun e w' => e = .returned (.int .i64 (Lib.ctz 64 x)) ∧ w = w' := by
  obtain ⟨hlow, hk⟩ := Lib.lowest_bit 64 x hx0 hx
  obtain ⟨hi, htab⟩ := Lib.deBruijn64_at _ hk
  have hcell := hT _ hi
  rw [htab] at hcell
  exact tz64_core x _ _ w (by simp; omega) (tz64_key x _ hx hx0 hlow) hi hk hcell
set_option maxRecDepth 100000 in
set_option maxHeartbeats 1000000 in
theorem tz_any (x : Nat) (hx : x < 18446744073709551616) (hx0 : x ≠ 0) (w : World) (hT : Tab w) :
    Calls Tryd.prog 28 #[.int .u64 x] w fun e w' => e = .returned (.int .i64 (Lib.ctz 64 x)) ∧ w = w' := by
  have Hc := Lib.hid (tz64_any x hx hx0 w hT)
  go_enter Tryd.func28, Tryd.ntmps28
  go_wp2_with (go_at_call 35; refine Hc.out.mono ?_; rintro e w' ⟨rfl, rfl⟩)
  go_ret
  exact ⟨rfl, rfl⟩
set_option maxRecDepth 100000 in
set_option maxHeartbeats 1000000 in
theorem level_any (x : Int) (hx : x < 9223372036854775808) (w : World) (hT : Tab w) :
    Calls Tryd.prog 13 #[.int .i64 x] w fun e w' => e = .returned (.int .i64 (lvl x)) ∧ w = w' := by
  by_cases h0 : x < 0
  · have e : lvl x = -1 := if_pos h0
    rw [e]
    go_enter Tryd.func13, Tryd.ntmps13
    go_wp2
    go_ret
    exact ⟨rfl, rfl⟩
  · obtain ⟨X, rfl, hX⟩ : ∃ X : BitVec 64, x = bv X ∧ X.toNat = x.toNat := ⟨BitVec.ofNat 64 x.toNat, by unfold bv; rw [BitVec.toNat_ofNat]; omega, by rw [BitVec.toNat_ofNat]; omega⟩
    have e : lvl (bv X) = (ones 64 X.toNat : Int) := by unfold lvl; rw [if_neg h0, ← hX]
    have hn : X.toNat < 2 ^ 64 := X.isLt
    have hY : (BitVec.ofNat 64 18446744073709551615 ^^^ X).toNat = 18446744073709551615 - X.toNat := by
      rw [show BitVec.ofNat 64 18446744073709551615 = BitVec.allOnes 64 from rfl, BitVec.allOnes_xor, BitVec.toNat_not]
    have hlt : X.toNat < 9223372036854775808 := by unfold bv at hx; omega
    have ec : Lib.ctz 64 (BitVec.ofNat 64 18446744073709551615 ^^^ X).toNat = ones 64 X.toNat := by
      have := ctz_ones 64 X.toNat hn
      rw [hY]
      unfold Lib.ctz
      rw [if_neg (by omega)]
      exact this
    have hc0 : Calls Tryd.prog 28 #[.int .u64 (bv (BitVec.ofNat 64 18446744073709551615 ^^^ X))] w fun e w' => e = .returned (.int .i64 (Lib.ctz 64 (BitVec.ofNat 64 18446744073709551615 ^^^ X).toNat)) ∧ w = w' :=
      tz_any (BitVec.ofNat 64 18446744073709551615 ^^^ X).toNat (BitVec.isLt _) (by omega) w hT
    have Hc := Lib.hid hc0
    have hxor : bits .xor .u64 (if IntKind.u64.signed = true then -1 else IntKind.u64.max) (bv X) = bv (BitVec.ofNat 64 18446744073709551615 ^^^ X) := by
      rw [show (if IntKind.u64.signed = true then (-1 : Int) else IntKind.u64.max) = @OfNat.ofNat Int 18446744073709551615 instOfNat from rfl]
      exact xor_u64_litl X 18446744073709551615
    have Hx := Lib.hid hxor
    clear hxor
    rw [e, ← ec]
    have h0' : decide (bv X < 0) = false := by simpa using h0
    clear e ec hY hn hX h0 hT hx hlt hc0
    go_enter Tryd.func13, Tryd.ntmps13
    go_wp2_with (go_at_call 28; rw [Hx.out]; (refine Hc.out.mono ?_; rintro e w' ⟨rfl, rfl⟩))
    go_ret
    exact ⟨rfl, rfl⟩
theorem sound_facts : ∀ m : Nat, m < 33 → 1 ≤ m → ((bits .and .i64 (m : Int) ((m : Int) - 1) == 0) = soundB (m : Int)) := by decide +kernel
set_option maxRecDepth 100000 in
set_option maxHeartbeats 1000000 in
theorem sound_any (n : Int) (w : World) :
    Calls Tryd.prog 32 #[.int .i64 n] w fun e w' => e = .returned (.bool (soundB n)) ∧ w = w' := by
  by_cases h1 : n < 1
  · have e : soundB n = false := by simp [soundB]; omega
    have h1' : decide (1 ≤ n) = false := by simp; omega
    rw [e]
    go_enter Tryd.func32, Tryd.ntmps32
    go_wp2
    go_ret
    exact ⟨rfl, rfl⟩
  by_cases h2 : 32 < n
  · have e : soundB n = false := by simp [soundB]; omega
    have h1' : decide (1 ≤ n) = true := by simp; omega
    have h2' : decide (n ≤ 32) = false := by simp; omega
    rw [e]
    go_enter Tryd.func32, Tryd.ntmps32
    go_wp2
    go_ret
    exact ⟨rfl, rfl⟩
  have hf : (bits .and .i64 n (n - 1) == 0) = soundB n := by
    have := sound_facts n.toNat (by omega) (by omega)
    rwa [show ((n.toNat : Nat) : Int) = n by omega] at this
  have h1' : decide (1 ≤ n) = true := by simp; omega
  have h2' : decide (n ≤ 32) = true := by simp; omega
  have b1 : 1 ≤ n := by omega
  have b2 : n ≤ 32 := by omega
  rw [← hf]
  clear hf
  go_enter Tryd.func32, Tryd.ntmps32
  go_wp2
  go_ret
  exact ⟨rfl, rfl⟩
theorem sound_split (n : Int) : (n = 1 ∨ n = 2 ∨ n = 4 ∨ n = 8 ∨ n = 16 ∨ n = 32) ∨ (soundB n = false ∧ (n == 1) = false ∧ (n == 2) = false ∧ (n == 4) = false ∧ (n == 8) = false ∧ (n == 16) = false ∧ (n == 32) = false) := by
  simp [soundB]; omega
set_option maxRecDepth 100000 in
set_option maxHeartbeats 1000000 in
theorem refSound_any (n : Int) (w : World) :
    Calls Tryd.prog 21 #[.int .i64 n] w fun e w' => e = .returned (.bool (soundB n)) ∧ w = w' := by
  rcases sound_split n with (rfl | rfl | rfl | rfl | rfl | rfl) | ⟨e, h1, h2, h3, h4, h5, h6⟩
  case inr =>
    rw [e]
    go_enter Tryd.func21, Tryd.ntmps21
    go_wp2
    go_ret
    exact ⟨rfl, rfl⟩
  all_goals
    go_enter Tryd.func21, Tryd.ntmps21
    go_wp2
    go_ret
    exact ⟨rfl, rfl⟩
end Go.Proofs.YtlkgklplcbmimaaDoor
