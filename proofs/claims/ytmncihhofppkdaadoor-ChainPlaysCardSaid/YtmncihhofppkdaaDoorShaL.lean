/- CONTRACTS: the digests of a few slices; the fixed fact of chapter 01. -/
import Derived.Test.YtmncihhofppkdaaDoorShortD
import Derived.Test.YtmncihhofppkdaaDoorLong
import Derived.Lib.SlBytesConst
namespace Go.Proofs.YtmncihhofppkdaaDoor
open Go.RowKit
set_option linter.unusedVariables false
set_option linter.unusedSimpArgs false

theorem pts_new (W : World) (B : Nat) (ps : List Pt) (hr : ∀ u ∈ ps, Rd b8 W B u.1.1 u.2) (hl : ∀ u ∈ ps, u.1.2.1 = u.2.length) (hB : B ≤ W.heap.size) : Pts (W.alloc (.cells (ps.map fun u => sl u.1).toArray 30)) B W.heap.size 0 ps :=
  ⟨fun k u hu => by
    rw [Nat.zero_add, cell_of_row _ W.heap.size k _ 30 (0, 0) (heap_alloc_new W _)]
    simp [hu], by simp, fun u hu => (hr u hu).alloc hB _, hl⟩
theorem short_n (W : World) (B n : Nat) (ps : List Pt) (cs : Array Value) (hcs : cs = (ps.map fun u => sl u.1).toArray) (hr : ∀ u ∈ ps, Rd b8 W B u.1.1 u.2) (hl : ∀ u ∈ ps, u.1.2.1 = u.2.length) (hB : B ≤ W.heap.size) (hn : n = ps.length) (hn2 : n ≤ 100000) (xs : List (BitVec 8)) (hxs : xs = ps.flatMap fun p => p.2) (htot : xs.length ≤ 50000000) :
    Calls Tryd.prog 76 #[.slice (some ⟨W.heap.size, 0, none⟩) n n] (W.alloc (.cells cs 30)) fun e w' => e = .returned (arrV b8 (sum32 xs)) ∧ Below W.heap.size W w' := by
  subst hcs
  refine (short_any _ B W.heap.size 0 n n ps (pts_new W B ps hr hl hB) (by simp; omega) hn hn2 xs hxs htot).mono ?_
  rintro e w' ⟨rfl, hb⟩
  exact ⟨rfl, ((Below.refl _ W).alloc (Nat.le_refl _) _).trans (hb.mono (by simp))⟩
theorem short_one (W : World) (B n c : Nat) (A : Option Addr) (xs : List (BitVec 8)) (hr : Rd b8 W B A xs) (hB : B ≤ W.heap.size) (hn : n = xs.length) (htot : xs.length ≤ 50000000) :
    Calls Tryd.prog 76 #[.slice (some ⟨W.heap.size, 0, none⟩) 1 1] (W.alloc (.cells #[.slice A n c] 30)) fun e w' => e = .returned (arrV b8 (sum32 xs)) ∧ Below W.heap.size W w' :=
  short_n W B 1 [((A, n, c), xs)] _ rfl (by simpa using hr) (by simpa using hn) hB rfl (by omega) xs (by simp) htot
def abc : List (BitVec 8) := [97#8, 98#8, 99#8]
set_option maxRecDepth 100000 in
theorem abc32 : (sum32 abc)[0]? = some 186#8 ∧ (sum32 abc)[1]? = some 120#8 ∧ (sum32 abc)[31]? = some 173#8 := ⟨by kernel_rfl, by kernel_rfl, by kernel_rfl⟩
set_option maxRecDepth 100000 in
theorem abc64 : (sum64 abc)[0]? = some 221#8 ∧ (sum64 abc)[1]? = some 175#8 ∧ (sum64 abc)[63]? = some 159#8 := ⟨by kernel_rfl, by kernel_rfl, by kernel_rfl⟩
theorem sum32_len (xs : List (BitVec 8)) : (sum32 xs).length = 32 := by
  unfold sum32
  generalize Sha.pieces _ _ _ _ = R
  exact out32_len R
theorem sum64_len (xs : List (BitVec 8)) : (sum64 xs).length = 64 := by
  unfold sum64
  generalize Sha.pieces _ _ _ _ = R
  exact out64_len R

theorem Rd.newF {α : Type} (f : α → Value) (w : World) (E : TypeId) (fr : Nat × Nat) (xs : List α) : Rd f (w.alloc (.cells (xs.map f).toArray E fr)) (w.heap.size + 1) (some ⟨w.heap.size, 0, none⟩) xs := fun _ =>
  ⟨w.heap.size, 0, rfl, by omega, fun j u hu => by
    rw [Nat.zero_add, cell_of_row _ w.heap.size j (xs.map f).toArray E fr (heap_alloc_new w _)]
    simp [hu]⟩
end Go.Proofs.YtmncihhofppkdaaDoor
