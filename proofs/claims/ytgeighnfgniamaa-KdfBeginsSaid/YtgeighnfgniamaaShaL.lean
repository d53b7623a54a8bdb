/- CONTRACTS: the digests of a few slices; the fixed fact of chapter 01. -/
import Derived.Test.YtgeighnfgniamaaShortD
import Derived.Test.YtgeighnfgniamaaLong
import Derived.Lib.SlBytesConst
namespace Go.Proofs.Ytgeighnfgniamaa
open Go.RowKit
set_option linter.unusedVariables false
set_option linter.unusedSimpArgs false

theorem pts_new (W : World) (B : Nat) (ps : List Pt) (hr : ∀ u ∈ ps, Rd b8 W B u.1.1 u.2) (hl : ∀ u ∈ ps, u.1.2.1 = u.2.length) (hB : B ≤ W.heap.size) : Pts (W.alloc (.cells (ps.map fun u => sl u.1).toArray 22)) B W.heap.size 0 ps :=
  ⟨fun k u hu => by
    rw [Nat.zero_add, cell_of_row _ W.heap.size k _ 22 (0, 0) (heap_alloc_new W _)]
    simp [hu], by simp, fun u hu => (hr u hu).alloc hB _, hl⟩
theorem short_n (W : World) (B n : Nat) (ps : List Pt) (cs : Array Value) (hcs : cs = (ps.map fun u => sl u.1).toArray) (hr : ∀ u ∈ ps, Rd b8 W B u.1.1 u.2) (hl : ∀ u ∈ ps, u.1.2.1 = u.2.length) (hB : B ≤ W.heap.size) (hn : n = ps.length) (hn2 : n ≤ 100000) (xs : List (BitVec 8)) (hxs : xs = ps.flatMap fun p => p.2) (htot : xs.length ≤ 50000000) :
    Calls Try.prog 15 #[.slice (some ⟨W.heap.size, 0, none⟩) n n] (W.alloc (.cells cs 22)) fun e w' => e = .returned (arrV b8 (sum32 xs)) ∧ Below W.heap.size W w' := by
  subst hcs
  refine (short_any _ B W.heap.size 0 n n ps (pts_new W B ps hr hl hB) (by simp; omega) hn hn2 xs hxs htot).mono ?_
  rintro e w' ⟨rfl, hb⟩
  exact ⟨rfl, ((Below.refl _ W).alloc (Nat.le_refl _) _).trans (hb.mono (by simp))⟩
theorem long_n (W : World) (B n : Nat) (ps : List Pt) (cs : Array Value) (hcs : cs = (ps.map fun u => sl u.1).toArray) (hr : ∀ u ∈ ps, Rd b8 W B u.1.1 u.2) (hl : ∀ u ∈ ps, u.1.2.1 = u.2.length) (hB : B ≤ W.heap.size) (hn : n = ps.length) (hn2 : n ≤ 100000) (xs : List (BitVec 8)) (hxs : xs = ps.flatMap fun p => p.2) (htot : xs.length ≤ 50000000) :
    Calls Try.prog 23 #[.slice (some ⟨W.heap.size, 0, none⟩) n n] (W.alloc (.cells cs 22)) fun e w' => e = .returned (arrV b8 (sum64 xs)) ∧ Below W.heap.size W w' := by
  subst hcs
  refine (long_any _ B W.heap.size 0 n n ps (pts_new W B ps hr hl hB) (by simp; omega) hn hn2 xs hxs htot).mono ?_
  rintro e w' ⟨rfl, hb⟩
  exact ⟨rfl, ((Below.refl _ W).alloc (Nat.le_refl _) _).trans (hb.mono (by simp))⟩
theorem short_one (W : World) (B n c : Nat) (A : Option Addr) (xs : List (BitVec 8)) (hr : Rd b8 W B A xs) (hB : B ≤ W.heap.size) (hn : n = xs.length) (htot : xs.length ≤ 50000000) :
    Calls Try.prog 15 #[.slice (some ⟨W.heap.size, 0, none⟩) 1 1] (W.alloc (.cells #[.slice A n c] 22)) fun e w' => e = .returned (arrV b8 (sum32 xs)) ∧ Below W.heap.size W w' :=
  short_n W B 1 [((A, n, c), xs)] _ rfl (by simpa using hr) (by simpa using hn) hB rfl (by omega) xs (by simp) htot
theorem long_one (W : World) (B n c : Nat) (A : Option Addr) (xs : List (BitVec 8)) (hr : Rd b8 W B A xs) (hB : B ≤ W.heap.size) (hn : n = xs.length) (htot : xs.length ≤ 50000000) :
    Calls Try.prog 23 #[.slice (some ⟨W.heap.size, 0, none⟩) 1 1] (W.alloc (.cells #[.slice A n c] 22)) fun e w' => e = .returned (arrV b8 (sum64 xs)) ∧ Below W.heap.size W w' :=
  long_n W B 1 [((A, n, c), xs)] _ rfl (by simpa using hr) (by simpa using hn) hB rfl (by omega) xs (by simp) htot

def abc : List (BitVec 8) := [97#8, 98#8, 99#8]
set_option maxRecDepth 100000 in
theorem abc32 : (sum32 abc)[0]? = some 186#8 ∧ (sum32 abc)[1]? = some 120#8 ∧ (sum32 abc)[31]? = some 173#8 := ⟨by kernel_rfl, by kernel_rfl, by kernel_rfl⟩
set_option maxRecDepth 100000 in
theorem abc64 : (sum64 abc)[0]? = some 221#8 ∧ (sum64 abc)[1]? = some 175#8 ∧ (sum64 abc)[63]? = some 159#8 := ⟨by kernel_rfl, by kernel_rfl, by kernel_rfl⟩
theorem sum32_len (xs : List (BitVec 8)) : (sum32 xs).length = 32 := by
  unfold sum32
  generalize Sha.pieces _ _ _ _ = R
  exact out32_len R
theorem sum64_len (xs : List (BitVec 8)) : (sum64 xs).length = 64 := by
  unfold sum64
  generalize Sha.pieces _ _ _ _ = R
  exact out64_len R

theorem Rd.newF {α : Type} (f : α → Value) (w : World) (E : TypeId) (fr : Nat × Nat) (xs : List α) : Rd f (w.alloc (.cells (xs.map f).toArray E fr)) (w.heap.size + 1) (some ⟨w.heap.size, 0, none⟩) xs := fun _ =>
  ⟨w.heap.size, 0, rfl, by omega, fun j u hu => by
    rw [Nat.zero_add, cell_of_row _ w.heap.size j (xs.map f).toArray E fr (heap_alloc_new w _)]
    simp [hu]⟩
set_option maxRecDepth 100000 in
set_option maxHeartbeats 1000000 in
theorem alive01_any (w : World) : Calls Try.prog 21 #[] w fun e w' => e = .returned (.bool true) ∧ Below w.heap.size w w' := by
  have hs := short_one (w.alloc (.cells (abc.map b8).toArray 5 (3, 4))) (w.heap.size + 1) 3 3 (some ⟨w.heap.size, 0, none⟩) abc (Rd.newF b8 w _ _ abc) (by simp) rfl (by decide)
  have hl := fun W => long_one (W.alloc (.cells (abc.map b8).toArray 5 (3, 4))) (W.heap.size + 1) 3 3 (some ⟨W.heap.size, 0, none⟩) abc (Rd.newF b8 W _ _ abc) (by simp) rfl (by decide)
  simp only [World.size_alloc] at hs hl
  obtain ⟨S, hS⟩ : ∃ S, S = sum32 abc := ⟨_, rfl⟩
  obtain ⟨L, hL⟩ : ∃ L, L = sum64 abc := ⟨_, rfl⟩
  have h1 := abc32
  have h2 := abc64
  have h3 := sum32_len abc
  have h4 := sum64_len abc
  rw [← hS] at h1 h3 hs
  simp only [← hL] at h2 h4 hl
  rw [arrV_mk] at hs
  simp only [arrV_mk] at hl
  have HS := Lib.hid hs
  have HL := Lib.hid hl
  have H1 := Lib.hid h1
  have H2 := Lib.hid h2
  have H3 := Lib.hid h3
  have H4 := Lib.hid h4
  clear hs hl h1 h2 h3 h4 hS hL
  have kc := fun (w : World) (C : Array Value) (n c : Nat) => Lib.run_convert_bytes_const (P := Try.prog) w 22 5 C n c Try.underlying22 Try.underlying5
  go_enter Try.func21, Try.ntmps21
  go_wp2_with fail
  refine HS.out.mono ?_
  rintro e w1 ⟨rfl, hb1⟩
  have HB1 := Lib.hid hb1
  have hz1 := hb1.size
  clear hb1
  go_wp2_with fail
  refine (HL.out _).mono ?_
  rintro e w2 ⟨rfl, hb2⟩
  have HB2 := Lib.hid hb2
  have hz2 := hb2.size
  simp only [World.size_alloc] at hz1
  simp only [World.size_alloc] at hz2
  clear hb2
  have HA0 := Lib.hid (show Arr b8 ((w2.alloc (.cells ((List.replicate 32 0#8).map b8).toArray 26)).alloc (.cells ((List.replicate 64 0#8).map b8).toArray 35)) w2.heap.size 26 (List.replicate 32 0#8) from (Arr.new b8 w2 _ _).alloc _)
  have HB0 := Lib.hid (show Arr b8 ((w2.alloc (.cells ((List.replicate 32 0#8).map b8).toArray 26)).alloc (.cells ((List.replicate 64 0#8).map b8).toArray 35)) (w2.heap.size + 1) 35 (List.replicate 64 0#8) from Arr.at_size b8 _ (List.replicate 64 0#8) (by simp))
  go_wp2_with (first
    | (refine wpList_store_arr rfl 26 (.tmp 1) (.tmp 6) rfl w2.heap.size rfl S rfl _ _ HA0.out (by rw [H3.out]; rfl) (by rw [size32, H3.out]) b8_one' ?_; intro w4 hx4 hg4; have HS4 := Lib.hid hx4; have HG4 := Lib.hid hg4; have HK4 := Lib.hid (HB0.out.grown hg4 (by simp)); clear hx4 hg4)
    | (refine wpList_store_arr rfl 35 (.tmp 2) (.tmp 10) rfl (w2.heap.size + 1) rfl L rfl _ _ HK4.out (by rw [H4.out]; rfl) (by rw [size64b, H4.out]) b8_one' ?_; intro w5 hx5 hg5; have hs5 := HS4.out.grown hg5 (by simp); have a0 := hs5.at_ H1.out.1; have a1 := hs5.at_ H1.out.2.1; have a2 := hs5.at_ H1.out.2.2; have b0 := hx5.at_ H2.out.1; have b1 := hx5.at_ H2.out.2.1; have b2 := hx5.at_ H2.out.2.2; have HG5 := Lib.hid hg5; clear hs5 hx5 hg5; rw [show b8 186#8 = .int .u8 186 from rfl] at a0; rw [show b8 120#8 = .int .u8 120 from rfl] at a1; rw [show b8 173#8 = .int .u8 173 from rfl] at a2; rw [show b8 221#8 = .int .u8 221 from rfl] at b0; rw [show b8 175#8 = .int .u8 175 from rfl] at b1; rw [show b8 159#8 = .int .u8 159 from rfl] at b2))
  go_ret
  refine ⟨rfl, ?_⟩
  have h0 : Below w.heap.size w w2 := ((((Below.refl _ w).alloc (Nat.le_refl _) _).trans (HB1.out.mono (by (first | omega | (simp; done) | (simp; omega) | (simp at *; omega))))).alloc (by omega) _).trans (HB2.out.mono (by (first | omega | (simp; done) | (simp; omega) | (simp at *; omega))))
  exact (((h0.alloc (by omega) _).alloc (by (first | omega | (simp; done) | (simp; omega) | (simp at *; omega))) _).grown HG4.out (by (first | omega | (simp; done) | (simp; omega) | (simp at *; omega))) (fun k e => by cases e; omega)).grown HG5.out (by have := HG4.out.size; simp only [World.size_alloc] at this; omega) (fun k e => by cases e; omega)
end Go.Proofs.Ytgeighnfgniamaa
