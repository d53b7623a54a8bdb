/- A LINK in its block; numbers of four bytes. Plain lemmas. -/
import Derived.Test.YtkoefhbmkmepaaaLinkW
import Derived.Test.YtkoefhbmkmepaaaAeadD
import Derived.Test.YtkoefhbmkmepaaaArr
namespace Go.Proofs.Ytkoefhbmkmepaaa
open Go.RowKit
set_option linter.unusedVariables false
set_option linter.unusedSimpArgs false

/-- a number's four bytes, the highest first -/
def headV (n : Nat) : List (BitVec 8) := [BitVec.ofNat 8 (n / 16777216), BitVec.ofNat 8 (n / 65536), BitVec.ofNat 8 (n / 256), BitVec.ofNat 8 n]
def headN : List (BitVec 8) → Nat
  | [a, b, c, d] => ((a.toNat * 256 + b.toNat) * 256 + c.toNat) * 256 + d.toNat
  | _ => 0
theorem headV_len (n : Nat) : (headV n).length = 4 := rfl
theorem headN_headV (n : Nat) (h : n < 4294967296) : headN (headV n) = n := by
  unfold headV headN
  simp only [BitVec.toNat_ofNat]
  omega
theorem headN_lt (b : List (BitVec 8)) : headN b < 4294967296 := by
  unfold headN
  split
  · rename_i a b c d; have := a.isLt; have := b.isLt; have := c.isLt; have := d.isLt; omega
  · omega
/-- a message -/
def msgV (key : List (BitVec 8)) (n : Nat) (text : List (BitVec 8)) : List (BitVec 8) := headV n ++ sealV key (nonce (BitVec.ofNat 64 n)) (headV n) text
/-- a link at the head of block g: a window, two keys, the next number -/
structure LinkAt (w : World) (g : Nat) (t : Bool) (h : Int) (s : BitVec 64) (sk rk : List (BitVec 8)) (nx : Int) : Prop where
  win : WinAt w g t h s
  ks : w.rangeAt g 3 (sk.map b8)
  kr : w.rangeAt g 35 (rk.map b8)
  nc : w.cell? ⟨g, 67, none⟩ = some (.int .i64 nx)
  fx : w.frozen? ⟨g, 67, none⟩ = false
  lt : g < w.heap.size
  sl : sk.length = 32
  rl : rk.length = 32
section
variable {w w' : World} {g : Nat} {t : Bool} {h : Int} {s : BitVec 64} {sk rk : List (BitVec 8)} {nx : Int}
theorem LinkAt.keep (x : LinkAt w g t h s sk rk nx) (hb : w'.heap[g]? = w.heap[g]?) : LinkAt w' g t h s sk rk nx :=
  ⟨x.win.keep hb, fun j v hv => (World.cell?_of_block (a := ⟨g, 3 + j, none⟩) hb).trans (x.ks j v hv), fun j v hv => (World.cell?_of_block (a := ⟨g, 35 + j, none⟩) hb).trans (x.kr j v hv), (World.cell?_of_block (a := ⟨g, 67, none⟩) hb).trans x.nc, (World.frozen?_of_block (a := ⟨g, 67, none⟩) hb).trans x.fx, (Array.getElem?_eq_some_iff.1 (hb.trans (Array.getElem?_eq_getElem x.lt))).1, x.sl, x.rl⟩
theorem LinkAt.below {B : Nat} (x : LinkAt w g t h s sk rk nx) (hb : Below B w w') (hg : g < B) : LinkAt w' g t h s sk rk nx := x.keep (hb.block g hg)
theorem LinkAt.grown {row : Option Nat} (x : LinkAt w g t h s sk rk nx) (hb : w.grownBy w' row) (hg : some g ≠ row) : LinkAt w' g t h s sk rk nx := x.keep (hb.block g x.lt hg)
theorem LinkAt.setNext (x : LinkAt w g t h s sk rk nx) (m : Int) : LinkAt (w.setCell ⟨g, 67, none⟩ (.int .i64 m)) g t h s sk rk m :=
  ⟨⟨(cell_ne (by omega)).trans x.win.c0, (cell_ne (by omega)).trans x.win.c1, (cell_ne (by omega)).trans x.win.c2, frozen_set.trans x.win.f0, frozen_set.trans x.win.f1, frozen_set.trans x.win.f2⟩,
    fun j v hv => (cell_ne (by have h1 := (List.getElem?_eq_some_iff.1 hv).1; rw [List.length_map, x.sl] at h1; omega)).trans (x.ks j v hv), fun j v hv => (cell_ne (by have h1 := (List.getElem?_eq_some_iff.1 hv).1; rw [List.length_map, x.rl] at h1; omega)).trans (x.kr j v hv), cell_eq x.nc, frozen_set.trans x.fx, by simpa using x.lt, x.sl, x.rl⟩
theorem LinkAt.mark {t' : Bool} {h' : Int} {s' : BitVec 64} (x : LinkAt w g t h s sk rk nx) (hw : WinAt w' g t' h' s') (ho : Out3 w w' g) : LinkAt w' g t' h' s' sk rk nx :=
  ⟨hw, fun j v hv => (ho.rest (3 + j) (by omega)).1.trans (x.ks j v hv), fun j v hv => (ho.rest (35 + j) (by omega)).1.trans (x.kr j v hv), (ho.rest 67 (by omega)).1.trans x.nc, (ho.rest 67 (by omega)).2.trans x.fx, Nat.lt_of_lt_of_le x.lt ho.by_.size, x.sl, x.rl⟩
end
end Go.Proofs.Ytkoefhbmkmepaaa
