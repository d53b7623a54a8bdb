/- CONTRACTS: burrowref03.turn, burrowref03.quarter, burrowref03.Quarter. -/
import Derived.Test.YtkoefhbmkmepaaaMem
import Derived.Test.YtkoefhbmkmepaaaRot
import Derived.WalkSpells
import Derived.WalkLawsBesides
import Derived.StillTailTactics
import Derived.Deep.QuietTactic
import Derived.BigQuiet
namespace Go.Proofs.Ytkoefhbmkmepaaa
open Go.RowKit

def b32 (x : BitVec 32) : Value := .int .u32 (bv x)

theorem rot_add (x : BitVec 32) (k : Nat) (h0 : 0 < k) (h : k < 32) : x <<< k + x >>> (32 - k) = rotl32 x k := by
  unfold rotl32
  rw [BitVec.add_eq_or_of_and_eq_zero]
  apply BitVec.eq_of_getElem_eq
  intro i hi
  simp only [BitVec.getElem_and, BitVec.getElem_shiftLeft, BitVec.getElem_ushiftRight, BitVec.getElem_zero, Bool.and_eq_false_iff, Bool.not_eq_eq_eq_not]
  by_cases h1 : i < k
  · left; simp [h1]
  · right
    exact BitVec.getLsbD_of_ge _ _ (by omega)

theorem turn_any (x : BitVec 32) (k : Nat) (w : World) (h0 : 0 < k) (h : k < 32) :
    Calls Try.prog 72 #[.int .u32 (bv x), .int .u64 (k : Int)] w fun e w' => e = .returned (.int .u32 (bv (rotl32 x k))) ∧ w = w' := by
  have h2 : ((32 : Int) - (k : Int)) = ((32 - k : Nat) : Int) := by omega
  have hr := rot_add x k h0 h
  go_enter Try.func72, Try.ntmps72
  go_wp2
  go_ret
  exact ⟨rfl, rfl⟩

theorem turn_still (x : BitVec 32) (k : Nat) (w : World) (h0 : 0 < k) (h : k < 32) :
    Calls Try.prog 72 #[.int .u32 (bv x), .int .u64 (k : Int)] w fun e w' => e = .returned (.int .u32 (bv (rotl32 x k))) ∧ w' = w :=
  (turn_any x k w h0 h).mono fun _ _ h => ⟨h.1, h.2.symm⟩
theorem grownBy_drew {a w : World} {row : Option Nat} (h : a.grownBy w row) : a.grownBy w.drew row := ⟨h.os, h.tape, h.output, h.size, h.block⟩

/-- two steps of the quarter round of four places, in a list -/
def qstep (a b c d s t : Nat) (xs : List (BitVec 32)) : List (BitVec 32) :=
  let x1 := xs.set a (xs.getD a 0#32 + xs.getD b 0#32)
  let x2 := x1.set d (rotl32 (x1.getD d 0#32 ^^^ x1.getD a 0#32) s)
  let x3 := x2.set c (x2.getD c 0#32 + x2.getD d 0#32)
  x3.set b (rotl32 (x3.getD b 0#32 ^^^ x3.getD c 0#32) t)
def qTo (a b c d : Nat) (k : Nat) (xs : List (BitVec 32)) : List (BitVec 32) :=
  match k with
  | 0 => xs
  | 1 => qstep a b c d 16 12 xs
  | _ => qstep a b c d 8 7 (qstep a b c d 16 12 xs)
def quarterL (a b c d : Nat) (xs : List (BitVec 32)) : List (BitVec 32) := qstep a b c d 8 7 (qstep a b c d 16 12 xs)
theorem qstep_len (a b c d s t : Nat) (xs : List (BitVec 32)) : (qstep a b c d s t xs).length = xs.length := by simp [qstep]
theorem qTo_len (a b c d k : Nat) (xs : List (BitVec 32)) : (qTo a b c d k xs).length = xs.length := by
  unfold qTo; split <;> simp [qstep_len]

/-- the steps of the quarter round, in a block of their own -/
def Steps (w : World) (s : Nat) : Prop := ∀ j u, [16#64, 12#64, 8#64, 7#64][j]? = some u → w.cell? ⟨s, j, none⟩ = some (.int .u64 ((u.toNat : Nat) : Int))
theorem Steps.set_ {w : World} {s g : Nat} (h : Steps w s) (hne : g ≠ s) (i : Nat) (v : Value) : Steps (w.setCell ⟨g, i, none⟩ v) s := fun j u hu =>
  (World.cell?_setCell_other w _ _ v (fun e => hne (by injection e))).trans (h j u hu)
theorem Steps.drew {w : World} {s : Nat} (h : Steps w s) : Steps w.drew s := h
theorem Own.cellD {w : World} {B E : Nat} {g n c : Nat} {xs : List (BitVec 32)} (h : Own b32 w B E (.slice (some ⟨g, 0, none⟩) n c) xs) {i : Nat} (hi : i < xs.length) : w.cell? ⟨g, i, none⟩ = some (.int .u32 (bv (xs.getD i 0#32))) := by
  rw [(h.at_ hi).1]
  simp [b32, List.getD, List.getElem?_eq_getElem hi]

set_option maxRecDepth 100000 in
set_option maxHeartbeats 8000000 in
theorem refquarter_any (g n cap B : Nat) (a b c d : Nat) (xs : List (BitVec 32)) (w : World) (ho : Own b32 w B 90 (.slice (some ⟨g, 0, none⟩) n cap) xs) (ha : a < xs.length) (hb : b < xs.length) (hc : c < xs.length) (hd : d < xs.length) :
    Calls Try.prog 62 #[.slice (some ⟨g, 0, none⟩) n cap, .int .i64 (a : Int), .int .i64 (b : Int), .int .i64 (c : Int), .int .i64 (d : Int)] w fun e w' =>
      e = .returned (.tuple #[]) ∧ Own b32 w' B 90 (.slice (some ⟨g, 0, none⟩) n cap) (quarterL a b c d xs) ∧ w.grownBy w' (some g) := by
  have hlen : n = xs.length := ho.len
  have ha' : a < n := by omega
  have hb' : b < n := by omega
  have hc' : c < n := by omega
  have hd' : d < n := by omega
  have hgs : g < w.heap.size := (ho.lt g rfl).2
  have hne : g ≠ w.heap.size := by omega
  have Hlen := Lib.hid hlen
  have Hne := Lib.hid hne
  clear hlen hne
  go_enter Try.func62, Try.ntmps62
  go_wp2
  go_loopw [11] (fun i wr => ((i = .int .i64 0 ∧ Own b32 wr B 90 (.slice (some ⟨g, 0, none⟩) n cap) xs) ∨ (i = .int .i64 2 ∧ Own b32 wr B 90 (.slice (some ⟨g, 0, none⟩) n cap) (qstep a b c d 16 12 xs)) ∨ (i = .int .i64 4 ∧ Own b32 wr B 90 (.slice (some ⟨g, 0, none⟩) n cap) (quarterL a b c d xs))) ∧
      Steps wr w.heap.size ∧ w.grownBy wr (some g)) (fun i _ => 4 - (intOf i).toNat)
  case atStart =>
    refine ⟨.inl ⟨rfl, ho.alloc _⟩, fun j u hu => ?_, World.grownBy_alloc _ _ _⟩
    have := (Rd.new (fun x : BitVec 64 => .int .u64 ((x.toNat : Nat) : Int)) w 65 [16#64, 12#64, 8#64, 7#64]) (by simp)
    obtain ⟨b', off, e, _, hcc⟩ := this
    cases e
    have := hcc j u hu
    rw [Nat.zero_add] at this
    exact this
  case round =>
    clear ho
    obtain ⟨hcase, hs, hg⟩ := hrel
    rcases hcase with ⟨rfl, ho⟩ | ⟨rfl, ho⟩ | ⟨rfl, ho⟩
    · have Hs := Lib.hid hs
      have Ho := Lib.hid ho
      have Hg := Lib.hid hg
      clear hs ho hg
      obtain ⟨rA1, hrA1⟩ : ∃ x, x = xs.getD a 0#32 := ⟨_, rfl⟩
      obtain ⟨sA1, hsA1⟩ : ∃ x, x = xs.getD b 0#32 := ⟨_, rfl⟩
      have crA1 := Ho.out.cellD (i := a) ha
      have csA1 := Ho.out.cellD (i := b) hb
      rw [← hrA1] at crA1
      rw [← hsA1] at csA1
      have cfA1 := (Ho.out.at_ (k := a) ha).2
      have HrA1 := Lib.hid hrA1
      have HsA1 := Lib.hid hsA1
      clear hrA1 hsA1
      go_wp2_with fail
      go_still_tail 12, (by kernel_rfl)
      go_wp2_with fail
      generalize hW : World.drew _ = wA1
      have howA1 : Own b32 wA1 B 90 (.slice (some ⟨g, 0, none⟩) n cap) (xs.set a (xs.getD a 0#32 + xs.getD b 0#32)) := by rw [← hW, ← HrA1.out, ← HsA1.out]; exact (Ho.out.set_ a _).1
      have hgwA1 : w.grownBy wA1 (some g) := by rw [← hW]; exact grownBy_trans Hg.out (grownBy_drew (Ho.out.set_ a (rA1 + sA1)).2) (fun q e => .inl e)
      have hswA1 : Steps wA1 w.heap.size := by rw [← hW]; exact Hs.out.set_ Hne.out _ _
      generalize hlwA1 : xs.set a (xs.getD a 0#32 + xs.getD b 0#32) = lA1 at howA1
      have hnwA1 : lA1.length = xs.length := by rw [← hlwA1]; simp
      have HlwA1 := Lib.hid hlwA1
      have HowA1 := Lib.hid howA1
      have HgwA1 := Lib.hid hgwA1
      have HswA1 := Lib.hid hswA1
      have HnwA1 := Lib.hid hnwA1
      clear hW hlwA1 howA1 hgwA1 hswA1 hnwA1 crA1 csA1 cfA1
      obtain ⟨rA2, hrA2⟩ : ∃ x, x = lA1.getD d 0#32 := ⟨_, rfl⟩
      obtain ⟨sA2, hsA2⟩ : ∃ x, x = lA1.getD a 0#32 := ⟨_, rfl⟩
      have crA2 := HowA1.out.cellD (i := d) (by rw [HnwA1.out]; exact hd)
      have csA2 := HowA1.out.cellD (i := a) (by rw [HnwA1.out]; exact ha)
      rw [← hrA2] at crA2
      rw [← hsA2] at csA2
      have cfA2 := (HowA1.out.at_ (k := d) (by rw [HnwA1.out]; exact hd)).2
      have ctA2 : wA1.cell? ⟨w.heap.size, 0, none⟩ = some (.int .u64 16) := HswA1.out 0 _ rfl
      have HrA2 := Lib.hid hrA2
      have HsA2 := Lib.hid hsA2
      clear hrA2 hsA2
      go_still_tail 17, (by kernel_rfl)
      still_call (turn_still (rA2 ^^^ sA2) 16 _ (by omega) (by omega))
      repeat still_step
      refine wpStill_nil ?_
      go_wp2_with fail
      generalize hW : World.drew _ = wA2
      have howA2 : Own b32 wA2 B 90 (.slice (some ⟨g, 0, none⟩) n cap) (lA1.set d (rotl32 (lA1.getD d 0#32 ^^^ lA1.getD a 0#32) 16)) := by rw [← hW, ← HrA2.out, ← HsA2.out]; exact (HowA1.out.set_ d _).1
      have hgwA2 : w.grownBy wA2 (some g) := by rw [← hW]; exact grownBy_trans HgwA1.out (grownBy_drew (HowA1.out.set_ d (rotl32 (rA2 ^^^ sA2) 16)).2) (fun q e => .inl e)
      have hswA2 : Steps wA2 w.heap.size := by rw [← hW]; exact HswA1.out.set_ Hne.out _ _
      generalize hlwA2 : lA1.set d (rotl32 (lA1.getD d 0#32 ^^^ lA1.getD a 0#32) 16) = lA2 at howA2
      have hnwA2 : lA2.length = xs.length := by rw [← hlwA2]; simp [HnwA1.out]
      have HlwA2 := Lib.hid hlwA2
      have HowA2 := Lib.hid howA2
      have HgwA2 := Lib.hid hgwA2
      have HswA2 := Lib.hid hswA2
      have HnwA2 := Lib.hid hnwA2
      clear hW hlwA2 howA2 hgwA2 hswA2 hnwA2 crA2 csA2 cfA2 ctA2
      obtain ⟨rA3, hrA3⟩ : ∃ x, x = lA2.getD c 0#32 := ⟨_, rfl⟩
      obtain ⟨sA3, hsA3⟩ : ∃ x, x = lA2.getD d 0#32 := ⟨_, rfl⟩
      have crA3 := HowA2.out.cellD (i := c) (by rw [HnwA2.out]; exact hc)
      have csA3 := HowA2.out.cellD (i := d) (by rw [HnwA2.out]; exact hd)
      rw [← hrA3] at crA3
      rw [← hsA3] at csA3
      have cfA3 := (HowA2.out.at_ (k := c) (by rw [HnwA2.out]; exact hc)).2
      have HrA3 := Lib.hid hrA3
      have HsA3 := Lib.hid hsA3
      clear hrA3 hsA3
      go_still_tail 12, (by kernel_rfl)
      go_wp2_with fail
      generalize hW : World.drew _ = wA3
      have howA3 : Own b32 wA3 B 90 (.slice (some ⟨g, 0, none⟩) n cap) (lA2.set c (lA2.getD c 0#32 + lA2.getD d 0#32)) := by rw [← hW, ← HrA3.out, ← HsA3.out]; exact (HowA2.out.set_ c _).1
      have hgwA3 : w.grownBy wA3 (some g) := by rw [← hW]; exact grownBy_trans HgwA2.out (grownBy_drew (HowA2.out.set_ c (rA3 + sA3)).2) (fun q e => .inl e)
      have hswA3 : Steps wA3 w.heap.size := by rw [← hW]; exact HswA2.out.set_ Hne.out _ _
      generalize hlwA3 : lA2.set c (lA2.getD c 0#32 + lA2.getD d 0#32) = lA3 at howA3
      have hnwA3 : lA3.length = xs.length := by rw [← hlwA3]; simp [HnwA2.out]
      have HlwA3 := Lib.hid hlwA3
      have HowA3 := Lib.hid howA3
      have HgwA3 := Lib.hid hgwA3
      have HswA3 := Lib.hid hswA3
      have HnwA3 := Lib.hid hnwA3
      clear hW hlwA3 howA3 hgwA3 hswA3 hnwA3 crA3 csA3 cfA3
      obtain ⟨rA4, hrA4⟩ : ∃ x, x = lA3.getD b 0#32 := ⟨_, rfl⟩
      obtain ⟨sA4, hsA4⟩ : ∃ x, x = lA3.getD c 0#32 := ⟨_, rfl⟩
      have crA4 := HowA3.out.cellD (i := b) (by rw [HnwA3.out]; exact hb)
      have csA4 := HowA3.out.cellD (i := c) (by rw [HnwA3.out]; exact hc)
      rw [← hrA4] at crA4
      rw [← hsA4] at csA4
      have cfA4 := (HowA3.out.at_ (k := b) (by rw [HnwA3.out]; exact hb)).2
      have ctA4 : wA3.cell? ⟨w.heap.size, 1, none⟩ = some (.int .u64 12) := HswA3.out 1 _ rfl
      have HrA4 := Lib.hid hrA4
      have HsA4 := Lib.hid hsA4
      clear hrA4 hsA4
      have hwA4 : IntKind.i64.wrap 1 = 1 := IntWalk.i64_in _ (by omega)
      go_still_tail 18, (by kernel_rfl)
      still_call (turn_still (rA4 ^^^ sA4) 12 _ (by omega) (by omega))
      repeat still_step
      refine wpStill_nil ?_
      go_wp2
      go_roundw
      case rel =>
        have hq : qstep a b c d 16 12 xs = lA3.set b (rotl32 (rA4 ^^^ sA4) 12) := by
          unfold qstep
          simp only
          rw [HlwA1.out, HlwA2.out, HlwA3.out, HrA4.out, HsA4.out]
        refine ⟨.inr (.inl ⟨rfl, by rw [hq]; exact (HowA3.out.set_ b _).1⟩), ?_, ?_⟩
        · exact HswA3.out.set_ Hne.out _ _
        · exact grownBy_trans HgwA3.out (grownBy_drew (HowA3.out.set_ b (rotl32 (rA4 ^^^ sA4) 12)).2) (fun q e => .inl e)
      case measure => simp [intOf]
    · have hl0 : (qstep a b c d 16 12 xs).length = xs.length := qstep_len _ _ _ _ _ _ _
      have hq2 : quarterL a b c d xs = qstep a b c d 8 7 (qstep a b c d 16 12 xs) := rfl
      generalize qstep a b c d 16 12 xs = zs at ho hl0 hq2
      have Hq2 := Lib.hid hq2
      have Hl0 := Lib.hid hl0
      clear hl0 hq2
      have Hs := Lib.hid hs
      have Ho := Lib.hid ho
      have Hg := Lib.hid hg
      clear hs ho hg
      obtain ⟨rB1, hrB1⟩ : ∃ x, x = zs.getD a 0#32 := ⟨_, rfl⟩
      obtain ⟨sB1, hsB1⟩ : ∃ x, x = zs.getD b 0#32 := ⟨_, rfl⟩
      have crB1 := Ho.out.cellD (i := a) (by rw [Hl0.out]; exact ha)
      have csB1 := Ho.out.cellD (i := b) (by rw [Hl0.out]; exact hb)
      rw [← hrB1] at crB1
      rw [← hsB1] at csB1
      have cfB1 := (Ho.out.at_ (k := a) (by rw [Hl0.out]; exact ha)).2
      have HrB1 := Lib.hid hrB1
      have HsB1 := Lib.hid hsB1
      clear hrB1 hsB1
      go_wp2_with fail
      go_still_tail 12, (by kernel_rfl)
      go_wp2_with fail
      generalize hW : World.drew _ = wB1
      have howB1 : Own b32 wB1 B 90 (.slice (some ⟨g, 0, none⟩) n cap) (zs.set a (zs.getD a 0#32 + zs.getD b 0#32)) := by rw [← hW, ← HrB1.out, ← HsB1.out]; exact (Ho.out.set_ a _).1
      have hgwB1 : w.grownBy wB1 (some g) := by rw [← hW]; exact grownBy_trans Hg.out (grownBy_drew (Ho.out.set_ a (rB1 + sB1)).2) (fun q e => .inl e)
      have hswB1 : Steps wB1 w.heap.size := by rw [← hW]; exact Hs.out.set_ Hne.out _ _
      generalize hlwB1 : zs.set a (zs.getD a 0#32 + zs.getD b 0#32) = lB1 at howB1
      have hnwB1 : lB1.length = xs.length := by rw [← hlwB1]; simp [Hl0.out]
      have HlwB1 := Lib.hid hlwB1
      have HowB1 := Lib.hid howB1
      have HgwB1 := Lib.hid hgwB1
      have HswB1 := Lib.hid hswB1
      have HnwB1 := Lib.hid hnwB1
      clear hW hlwB1 howB1 hgwB1 hswB1 hnwB1 crB1 csB1 cfB1
      obtain ⟨rB2, hrB2⟩ : ∃ x, x = lB1.getD d 0#32 := ⟨_, rfl⟩
      obtain ⟨sB2, hsB2⟩ : ∃ x, x = lB1.getD a 0#32 := ⟨_, rfl⟩
      have crB2 := HowB1.out.cellD (i := d) (by rw [HnwB1.out]; exact hd)
      have csB2 := HowB1.out.cellD (i := a) (by rw [HnwB1.out]; exact ha)
      rw [← hrB2] at crB2
      rw [← hsB2] at csB2
      have cfB2 := (HowB1.out.at_ (k := d) (by rw [HnwB1.out]; exact hd)).2
      have ctB2 : wB1.cell? ⟨w.heap.size, 2, none⟩ = some (.int .u64 8) := HswB1.out 2 _ rfl
      have HrB2 := Lib.hid hrB2
      have HsB2 := Lib.hid hsB2
      clear hrB2 hsB2
      go_still_tail 17, (by kernel_rfl)
      still_call (turn_still (rB2 ^^^ sB2) 8 _ (by omega) (by omega))
      repeat still_step
      refine wpStill_nil ?_
      go_wp2_with fail
      generalize hW : World.drew _ = wB2
      have howB2 : Own b32 wB2 B 90 (.slice (some ⟨g, 0, none⟩) n cap) (lB1.set d (rotl32 (lB1.getD d 0#32 ^^^ lB1.getD a 0#32) 8)) := by rw [← hW, ← HrB2.out, ← HsB2.out]; exact (HowB1.out.set_ d _).1
      have hgwB2 : w.grownBy wB2 (some g) := by rw [← hW]; exact grownBy_trans HgwB1.out (grownBy_drew (HowB1.out.set_ d (rotl32 (rB2 ^^^ sB2) 8)).2) (fun q e => .inl e)
      have hswB2 : Steps wB2 w.heap.size := by rw [← hW]; exact HswB1.out.set_ Hne.out _ _
      generalize hlwB2 : lB1.set d (rotl32 (lB1.getD d 0#32 ^^^ lB1.getD a 0#32) 8) = lB2 at howB2
      have hnwB2 : lB2.length = xs.length := by rw [← hlwB2]; simp [HnwB1.out]
      have HlwB2 := Lib.hid hlwB2
      have HowB2 := Lib.hid howB2
      have HgwB2 := Lib.hid hgwB2
      have HswB2 := Lib.hid hswB2
      have HnwB2 := Lib.hid hnwB2
      clear hW hlwB2 howB2 hgwB2 hswB2 hnwB2 crB2 csB2 cfB2 ctB2
      obtain ⟨rB3, hrB3⟩ : ∃ x, x = lB2.getD c 0#32 := ⟨_, rfl⟩
      obtain ⟨sB3, hsB3⟩ : ∃ x, x = lB2.getD d 0#32 := ⟨_, rfl⟩
      have crB3 := HowB2.out.cellD (i := c) (by rw [HnwB2.out]; exact hc)
      have csB3 := HowB2.out.cellD (i := d) (by rw [HnwB2.out]; exact hd)
      rw [← hrB3] at crB3
      rw [← hsB3] at csB3
      have cfB3 := (HowB2.out.at_ (k := c) (by rw [HnwB2.out]; exact hc)).2
      have HrB3 := Lib.hid hrB3
      have HsB3 := Lib.hid hsB3
      clear hrB3 hsB3
      go_still_tail 12, (by kernel_rfl)
      go_wp2_with fail
      generalize hW : World.drew _ = wB3
      have howB3 : Own b32 wB3 B 90 (.slice (some ⟨g, 0, none⟩) n cap) (lB2.set c (lB2.getD c 0#32 + lB2.getD d 0#32)) := by rw [← hW, ← HrB3.out, ← HsB3.out]; exact (HowB2.out.set_ c _).1
      have hgwB3 : w.grownBy wB3 (some g) := by rw [← hW]; exact grownBy_trans HgwB2.out (grownBy_drew (HowB2.out.set_ c (rB3 + sB3)).2) (fun q e => .inl e)
      have hswB3 : Steps wB3 w.heap.size := by rw [← hW]; exact HswB2.out.set_ Hne.out _ _
      generalize hlwB3 : lB2.set c (lB2.getD c 0#32 + lB2.getD d 0#32) = lB3 at howB3
      have hnwB3 : lB3.length = xs.length := by rw [← hlwB3]; simp [HnwB2.out]
      have HlwB3 := Lib.hid hlwB3
      have HowB3 := Lib.hid howB3
      have HgwB3 := Lib.hid hgwB3
      have HswB3 := Lib.hid hswB3
      have HnwB3 := Lib.hid hnwB3
      clear hW hlwB3 howB3 hgwB3 hswB3 hnwB3 crB3 csB3 cfB3
      obtain ⟨rB4, hrB4⟩ : ∃ x, x = lB3.getD b 0#32 := ⟨_, rfl⟩
      obtain ⟨sB4, hsB4⟩ : ∃ x, x = lB3.getD c 0#32 := ⟨_, rfl⟩
      have crB4 := HowB3.out.cellD (i := b) (by rw [HnwB3.out]; exact hb)
      have csB4 := HowB3.out.cellD (i := c) (by rw [HnwB3.out]; exact hc)
      rw [← hrB4] at crB4
      rw [← hsB4] at csB4
      have cfB4 := (HowB3.out.at_ (k := b) (by rw [HnwB3.out]; exact hb)).2
      have ctB4 : wB3.cell? ⟨w.heap.size, 3, none⟩ = some (.int .u64 7) := HswB3.out 3 _ rfl
      have HrB4 := Lib.hid hrB4
      have HsB4 := Lib.hid hsB4
      clear hrB4 hsB4
      have hwB4 : IntKind.i64.wrap 3 = 3 := IntWalk.i64_in _ (by omega)
      go_still_tail 18, (by kernel_rfl)
      still_call (turn_still (rB4 ^^^ sB4) 7 _ (by omega) (by omega))
      repeat still_step
      refine wpStill_nil ?_
      go_wp2
      go_roundw
      case rel =>
        have hq : qstep a b c d 8 7 zs = lB3.set b (rotl32 (rB4 ^^^ sB4) 7) := by
          unfold qstep
          simp only
          rw [HlwB1.out, HlwB2.out, HlwB3.out, HrB4.out, HsB4.out]
        refine ⟨.inr (.inr ⟨rfl, by rw [Hq2.out, hq]; exact (HowB3.out.set_ b _).1⟩), ?_, ?_⟩
        · exact HswB3.out.set_ Hne.out _ _
        · exact grownBy_trans HgwB3.out (grownBy_drew (HowB3.out.set_ b (rotl32 (rB4 ^^^ sB4) 7)).2) (fun q e => .inl e)
      case measure => simp [intOf]
    · have Ho := Lib.hid ho
      have Hg := Lib.hid hg
      clear hs ho hg
      go_wp2
      go_end0
      exact ⟨rfl, Ho.out, Hg.out⟩

theorem quarterL_four (a b c d : BitVec 32) : quarterL 0 1 2 3 [a, b, c, d] = [(quarter a b c d).1, (quarter a b c d).2.1, (quarter a b c d).2.2.1, (quarter a b c d).2.2.2] := rfl
end Go.Proofs.Ytkoefhbmkmepaaa
