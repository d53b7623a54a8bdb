/- CONTRACT: the fixed fact of chapter 02. -/
import Derived.Test.YtgeighnfgniamaaTag
namespace Go.Proofs.Ytgeighnfgniamaa
open Go.RowKit
set_option linter.unusedVariables false
set_option linter.unusedSimpArgs false

def keyT : List (BitVec 8) := [107#8, 101#8, 121#8]
def foxA : List (BitVec 8) := [84#8, 104#8, 101#8, 32#8, 113#8, 117#8, 105#8, 99#8, 107#8, 32#8, 98#8, 114#8, 111#8, 119#8, 110#8, 32#8, 102#8, 111#8, 120#8, 32#8]
def foxB : List (BitVec 8) := [106#8, 117#8, 109#8, 112#8, 115#8, 32#8, 111#8, 118#8, 101#8, 114#8, 32#8, 116#8, 104#8, 101#8, 32#8, 108#8, 97#8, 122#8, 121#8, 32#8, 100#8, 111#8, 103#8]
set_option maxRecDepth 100000 in
theorem fox32 : (tagV keyT (foxA ++ foxB))[0]? = some 247#8 ∧ (tagV keyT (foxA ++ foxB))[1]? = some 188#8 ∧ (tagV keyT (foxA ++ foxB))[31]? = some 216#8 := ⟨by kernel_rfl, by kernel_rfl, by kernel_rfl⟩
set_option maxRecDepth 100000 in
set_option maxHeartbeats 1000000 in
theorem alive02_any (w : World) : Calls Try.prog 14 #[] w fun e w' => e = .returned (.bool true) ∧ Below w.heap.size w w' := by
  obtain ⟨w1, hw1⟩ : ∃ w1, w1 = w.alloc (.cells (keyT.map b8).toArray 5 (3, 4)) := ⟨_, rfl⟩
  obtain ⟨w2, hw2⟩ : ∃ w2, w2 = w1.alloc (.cells (foxA.map b8).toArray 5 (20, 21)) := ⟨_, rfl⟩
  obtain ⟨w3, hw3⟩ : ∃ w3, w3 = w2.alloc (.cells (foxB.map b8).toArray 5 (23, 24)) := ⟨_, rfl⟩
  have z1 : w1.heap.size = w.heap.size + 1 := by rw [hw1, World.size_alloc]
  have z2 : w2.heap.size = w.heap.size + 1 + 1 := by rw [hw2, World.size_alloc, z1]
  have z3 : w3.heap.size = w.heap.size + 1 + 1 + 1 := by rw [hw3, World.size_alloc, z2]
  have r1 : Rd b8 w1 w1.heap.size (some ⟨w.heap.size, 0, none⟩) keyT := by have := Rd.newF b8 w 5 (3, 4) keyT; rw [← hw1, ← z1] at this; exact this
  have r2 : Rd b8 w2 w2.heap.size (some ⟨w.heap.size + 1, 0, none⟩) foxA := by have := Rd.newF b8 w1 5 (20, 21) foxA; rw [← hw2, z1, ← z2] at this; exact this
  have r3 : Rd b8 w3 w3.heap.size (some ⟨w.heap.size + 1 + 1, 0, none⟩) foxB := by have := Rd.newF b8 w2 5 (23, 24) foxB; rw [← hw3, z2, ← z3] at this; exact this
  have r2' : Rd b8 w3 w3.heap.size (some ⟨w.heap.size + 1, 0, none⟩) foxA := by rw [hw3]; exact ((r2.alloc (Nat.le_refl _) _).more (by simp))
  have r1' : Rd b8 w3 w3.heap.size (some ⟨w.heap.size, 0, none⟩) keyT := by rw [hw3]; exact ((by rw [hw2]; exact (r1.alloc (Nat.le_refl _) _).more (by simp) : Rd b8 w2 w2.heap.size (some ⟨w.heap.size, 0, none⟩) keyT).alloc (Nat.le_refl _) _).more (by simp)
  have ht := tag_two w3 w3.heap.size 3 3 w3.heap.size 20 20 23 23 _ _ _ keyT foxA foxB r1' (Nat.le_refl _) rfl (by decide) r2' r3 (Nat.le_refl _) rfl rfl (by decide)
  have hb3 : Below w.heap.size w w3 := by rw [hw3, hw2, hw1]; exact (((Below.refl _ w).alloc (Nat.le_refl _) _).alloc (by simp) _).alloc (by simp; omega) _
  have h1 := fox32
  have h3 := tagV_len keyT (foxA ++ foxB)
  generalize tagV keyT (foxA ++ foxB) = S at ht h1 h3
  rw [arrV_mk, z3] at ht
  have HT := Lib.hid (show Calls Try.prog 16 #[.slice (some ⟨w.heap.size, 0, none⟩) 3 3, .slice (some ⟨w.heap.size + 1 + 1 + 1, 0, none⟩) 2 2] ((((w.alloc (.cells (keyT.map b8).toArray 5 (3, 4))).alloc (.cells (foxA.map b8).toArray 5 (20, 21))).alloc (.cells (foxB.map b8).toArray 5 (23, 24))).alloc (.cells #[.slice (some ⟨w.heap.size + 1, 0, none⟩) 20 20, .slice (some ⟨w.heap.size + 1 + 1, 0, none⟩) 23 23] 22)) (fun e w' => e = .returned (.agg (S.map b8).toArray) ∧ Below (w.heap.size + 1 + 1 + 1) w3 w') from by rw [hw3, hw2, hw1] at ht; rw [hw3, hw2, hw1]; exact ht)
  have H1 := Lib.hid h1
  have H3 := Lib.hid h3
  have HB3 := Lib.hid hb3
  have HZ3 := Lib.hid z3
  clear ht h1 h3 r1 r2 r3 r1' r2' z1 z2 z3 hw1 hw2 hw3 hb3
  have kc := fun (w : World) (C : Array Value) (n c : Nat) => Lib.run_convert_bytes_const (P := Try.prog) w 22 5 C n c Try.underlying22 Try.underlying5
  have kc2 := fun (C : Array Value) (n c : Nat) (o : Obj) => Lib.run_convert_bytes_const (P := Try.prog) (w.alloc o) 22 5 C n c Try.underlying22 Try.underlying5
  have kc3 := fun (C : Array Value) (n c : Nat) (o o' : Obj) => Lib.run_convert_bytes_const (P := Try.prog) ((w.alloc o).alloc o') 22 5 C n c Try.underlying22 Try.underlying5
  simp only [World.size_alloc] at kc2 kc3
  go_enter Try.func14, Try.ntmps14
  go_wp2_with fail
  refine HT.out.mono ?_
  rintro e w5 ⟨rfl, hb5⟩
  have hz5 := hb5.size
  have HB5 := Lib.hid (HB3.out.trans (hb5.mono (by omega)))
  have hz5' : w.heap.size ≤ w5.heap.size := HB5.out.size
  have HA0 := Lib.hid (Arr.new b8 w5 26 (List.replicate 32 0#8))
  clear hb5 hz5
  go_wp2_with (refine wpList_store_arr rfl 26 (.tmp 1) (.tmp 9) rfl w5.heap.size rfl S rfl _ _ HA0.out (by rw [H3.out]; rfl) (by rw [size32, H3.out]) b8_one' ?_; intro w6 hx6 hg6; have a0 := hx6.at_ H1.out.1; have a1 := hx6.at_ H1.out.2.1; have a2 := hx6.at_ H1.out.2.2; have HG6 := Lib.hid hg6; clear hx6 hg6; rw [show b8 247#8 = .int .u8 247 from rfl] at a0; rw [show b8 188#8 = .int .u8 188 from rfl] at a1; rw [show b8 216#8 = .int .u8 216 from rfl] at a2)
  go_ret
  exact ⟨rfl, (HB5.out.alloc hz5' _).grown HG6.out (by simp; omega) (fun k e => by cases e; omega)⟩
end Go.Proofs.Ytgeighnfgniamaa
