/- CONTRACT: a long digest's state behind a piece. -/
import Derived.Test.YtmncihhofppkdaaDoorShaC
namespace Go.Proofs.YtmncihhofppkdaaDoor
open Go.RowKit
set_option linter.unusedVariables false
set_option linter.unusedSimpArgs false
theorem piece64 (s : S8 64) (p : List (BitVec 8)) : sha64.piece s p = s.add (sha64.rounds (sha64.sched p 80) s 80) := by
  unfold Sha.piece
  rw [show sha64.K = K64 from rfl, K64_len]
theorem wordUp_snoc (l : List (BitVec 8)) (b : BitVec 8) (x : BitVec 64) : wordUp (l ++ [b]) x = wordUp l x <<< 8 ||| b.setWidth 64 := by
  induction l generalizing x with
  | nil => rfl
  | cons a l ih => rw [List.cons_append, wordUp, ih]; rfl
def wordTo (p : List (BitVec 8)) (i j : Nat) : BitVec 64 := wordUp ((p.drop (8 * i)).take j) 0#64
theorem wordTo_succ (p : List (BitVec 8)) (i j : Nat) (h : 8 * i + j < p.length) : wordTo p i (j + 1) = wordTo p i j <<< 8 ||| (p.getD (8 * i + j) 0#8).setWidth 64 := by
  unfold wordTo
  rw [List.take_succ_eq_append_getElem (by rw [List.length_drop]; omega), wordUp_snoc, List.getElem_drop]
  simp [List.getD, List.getElem?_eq_getElem h]
theorem schedTo_gap (p : List (BitVec 8)) (i : Nat) (hi : i < 80) : (schedTo sha64 p 80 i).set i (wordTo p i 0) = schedTo sha64 p 80 i := by
  have e : 80 - i = (80 - (i + 1)) + 1 := by omega
  unfold schedTo
  rw [e, List.replicate_succ, List.set_append_right _ _ (by rw [Sha.sched_len]; exact Nat.le_refl _), Sha.sched_len, Nat.sub_self, List.set_cons_zero]
  rfl
theorem size8w : (Tryd.prog.info? 133).map (·.size) = some 8 := by kernel_rfl

/-- the blocks of sha.wide: the state, the result, the words -/
structure Wd (w wr : World) (s x : List (BitVec 64)) : Prop where
  s : Arr w64 wr w.heap.size 133 s
  o : Arr w64 wr (w.heap.size + 1) 133 (List.replicate 8 0#64)
  x : Arr w64 wr (w.heap.size + 1 + 1) 143 x
  b : Below w.heap.size w wr
section
variable {w wr wr' : World} {s x : List (BitVec 64)}
theorem Wd.drewN (h : Wd w wr s x) (k : Nat) : Wd w (wr.drewN k) s x := ⟨h.s, h.o, h.x, below_drewN h.b k⟩
theorem Wd.drew (h : Wd w wr s x) : Wd w wr.drew s x := ⟨h.s, h.o, h.x, h.b.drew⟩
theorem Wd.setX (h : Wd w wr s x) (k : Nat) (u : BitVec 64) : Wd w (wr.setCell ⟨w.heap.size + 1 + 1, k, none⟩ (.int .u64 (bv u))) s (x.set k u) :=
  ⟨h.s.far (by simp; omega) _, h.o.far (by simp) _, h.x.set_ k u, h.b.setCell (p := ⟨w.heap.size + 1 + 1, k, none⟩) (by simp; omega) _⟩
theorem Wd.setS (h : Wd w wr s x) (k : Nat) (u : BitVec 64) : Wd w (wr.setCell ⟨w.heap.size, k, none⟩ (.int .u64 (bv u))) (s.set k u) x :=
  ⟨h.s.set_ k u, h.o.far (by simp) _, h.x.far (by simp; omega) _, h.b.setCell (p := ⟨w.heap.size, k, none⟩) (Nat.le_refl _) _⟩
theorem Wd.castX {y : List (BitVec 64)} (h : Wd w wr s x) (e : x = y) : Wd w wr s y := e ▸ h
theorem Wd.castS {y : List (BitVec 64)} (h : Wd w wr s x) (e : s = y) : Wd w wr y x := e ▸ h
theorem Wd.lt (h : Wd w wr s x) : w.heap.size + 1 + 1 < wr.heap.size := h.x.lt
theorem Wd.grown {g : Nat} (h : Wd w wr s x) (hg : wr.grownBy wr' (some g)) (hh : w.heap.size + 1 + 1 < g) : Wd w wr' s x :=
  ⟨h.s.grown hg (by simp; omega), h.o.grown hg (by simp; omega), h.x.grown hg (by simp; omega), h.b.grown hg h.b.size (fun k e => by cases e; omega)⟩
theorem Wd.alloc (h : Wd w wr s x) (o : Obj) : Wd w (wr.alloc o) s x := ⟨h.s.alloc o, h.o.alloc o, h.x.alloc o, h.b.alloc h.b.size o⟩
end
end Go.Proofs.YtmncihhofppkdaaDoor
