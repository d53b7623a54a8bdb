/- LinkAll, the walk; the opener of its argument. -/
import Derived.Test.YtkoefhbmkmepaaaLinkO
import Derived.Test.YtkoefhbmkmepaaaOpenKey
namespace Go.Proofs.Ytkoefhbmkmepaaa
open Go.RowKit Go.ChangeShapes Go.WideShapes Go.ChangeAt
set_option linter.unusedVariables false
set_option linter.unusedSimpArgs false

/-- an Order's cells -/
def orderC (ka kb : List (BitVec 8)) (z : Int) (A : Option Addr) (n c : Nat) : List Value := ka.map b8 ++ (kb.map b8 ++ [.int .i64 z, .slice A n c])
theorem orderC_len {ka kb : List (BitVec 8)} {z : Int} {A : Option Addr} {n c : Nat} (ha : ka.length = 32) (hb : kb.length = 32) : (orderC ka kb z A n c).length = 66 := by simp [orderC, ha, hb]
set_option maxRecDepth 100000 in
theorem open_order {H : Type} {enc : TypeId × Value → H} {w : World} {base : Nat} {spare : Nat → Bool} {held : Bool} {r : Reach} {b0 : Nat} {v : Value} {d : DataW H} {p : List MemPlace} (hv : Value.okWide Try.prog w r b0 41 v)
    (h : DataW.Trod enc Try.prog w base spare held 41 v d p) :
    ∃ (ka kb : List (BitVec 8)) (z : Int) (A : Option Addr) (n c : Nat) (ys : List Int), v = .agg (orderC ka kb z A n c).toArray ∧ ka.length = 32 ∧ kb.length = 32 ∧ Rd i64v w w.heap.size A ys ∧ ys.length = n := by
  obtain ⟨cs, rfl, hsz⟩ := okWide_struct Try.underlying41 hv
  obtain ⟨fuel, hf⟩ := h
  obtain ⟨y0, y1, y2, y3, k, -, hl, h0, h1, h2, h3⟩ := Joins.trod_struct4 Try.underlying41 hf
  obtain ⟨L, rfl⟩ : ∃ L : List Value, cs = L.toArray := ⟨cs.toList, by simp⟩
  have hl66 : L.length = 66 := hl
  obtain ⟨ka, hka, hkc⟩ := open_barray Try.underlying39 Try.underlying5 (by kernel_rfl) (by kernel_rfl) h0
  obtain ⟨kb, hkb, hkd⟩ := open_barray Try.underlying39 Try.underlying5 (by kernel_rfl) (by kernel_rfl) h1
  obtain ⟨z, e2, -, wf2⟩ := DataW.trod_int Try.underlying3 h2
  obtain ⟨A, n, c, e3⟩ := slice_cell Try.underlying22 h3
  rw [e3] at h3
  obtain ⟨ys, rd3, wf3, ln3, le3, mx3⟩ : ∃ xs : List Int, Rd (Value.int .i64) w w.heap.size A xs ∧ (∀ z ∈ xs, (Lit.int .i64 z).wf = true) ∧ xs.length = n ∧ n ≤ c ∧ c ≤ maxLen := open_row Try.underlying22 Try.underlying3 (by kernel_rfl) h3
  refine ⟨ka, kb, z, A, n, c, ys, ?_, hka, hkb, rd3, ln3⟩
  have q0 : List.take (Try.prog.cellsOf 39) (List.drop 0 L) = ka.map b8 := hkc
  have q1 : List.take (Try.prog.cellsOf 39) (List.drop 32 L) = kb.map b8 := hkd
  have q2 : List.take (Try.prog.cellsOf 3) (List.drop 64 L) = [.int .i64 z] := e2
  have q3 : List.take (Try.prog.cellsOf 22) (List.drop 65 L) = [.slice A n c] := e3
  rw [show Try.prog.cellsOf 39 = 32 by kernel_rfl] at q0 q1
  rw [List.drop_zero] at q0
  rw [show Try.prog.cellsOf 22 = 1 by kernel_rfl] at q3
  rw [show Try.prog.cellsOf 3 = 1 by kernel_rfl] at q2
  have e : L = orderC ka kb z A n c := by
    unfold orderC
    rw [← q0, ← q1]
    have a1 : L.drop 64 = [.int .i64 z, .slice A n c] := by
      have g2 := cell_of_take q2
      have g3 := cell_of_take q3
      refine List.ext_getElem? fun i => ?_
      rw [List.getElem?_drop]
      match i with
      | 0 => exact g2
      | 1 => exact g3
      | i + 2 => rw [List.getElem?_eq_none (by omega)]; simp
    rw [← a1, show L.drop 64 = (L.drop 32).drop 32 by rw [List.drop_drop], List.take_append_drop, List.take_append_drop]
  rw [e]
set_option maxRecDepth 100000 in
set_option maxHeartbeats 1000000 in
theorem linkAll_walk (ka kb : List (BitVec 8)) (z : Int) (A : Option Addr) (n c : Nat) (ys : List Int) (W : World) (hka : ka.length = 32) (hkb : kb.length = 32) (hr : Rd i64v W W.heap.size A ys) (hn : ys.length = n) :
    Calls Try.prog 4 #[.agg (orderC ka kb z A n c).toArray] W fun e w' => e = .returned (.bool true) ∧ Below W.heap.size W w' := by
  have hA : Arr (fun v : Value => v) (W.alloc (.cells (orderC ka kb z A n c).toArray 41)) W.heap.size 41 (orderC ka kb z A n c) := by
    have := Arr.new (fun v : Value => v) W 41 (orderC ka kb z A n c)
    rwa [List.map_id'] at this
  have h1 := hA.range 0 32
  have h2 := hA.range 32 32
  have c3 := hA.at_ (k := 64) (u := .int .i64 z) (by unfold orderC; rw [List.getElem?_append_right (by simp [hka]), List.getElem?_append_right (by simp [hka, hkb])]; simp [hka, hkb])
  have c4 := hA.at_ (k := 65) (u := .slice A n c) (by unfold orderC; rw [List.getElem?_append_right (by simp [hka]), List.getElem?_append_right (by simp [hka, hkb])]; simp [hka, hkb])
  rw [List.map_id', List.drop_zero, show (orderC ka kb z A n c).take 32 = ka.map b8 by unfold orderC; exact List.take_left' (by simp [hka])] at h1
  rw [List.map_id', show (orderC ka kb z A n c).drop 32 = kb.map b8 ++ [.int .i64 z, .slice A n c] by unfold orderC; exact List.drop_left' (by simp [hka]), List.take_left' (by simp [hkb])] at h2
  have H1 := Lib.hid h1
  have H2 := Lib.hid h2
  have HO := Lib.hid (once_any ka hka kb hkb z A n c ys W.heap.size (hr.alloc (Nat.le_refl _) (.cells (orderC ka kb z A n c).toArray 41)) (by simp) hn)
  have HB := Lib.hid (show Below W.heap.size W (W.alloc (.cells (orderC ka kb z A n c).toArray 41)) by (repeat' (first | assumption | exact Below.refl _ _ | refine Below.drew ?_ | refine Below.alloc ?_ ?_ _ | omega | (simp; done) | (simp; omega))))
  have HKa := Lib.hid hka
  have HKb := Lib.hid hkb
  clear h1 h2 hA hka hkb hr hn
  go_enter Try.func4, Try.ntmps4
  go_wp2_with (first
    | (refine wpList_load_mid rfl 39 (.tmp 3) rfl W.heap.size 0 rfl (ka.map b8) _ H1.out Try.underlying39 rfl (by rw [List.length_map, HKa.out]; exact size32k) ?_)
    | (refine wpList_load_mid rfl 39 (.tmp 5) rfl W.heap.size 32 rfl (kb.map b8) _ H2.out Try.underlying39 rfl (by rw [List.length_map, HKb.out]; exact size32k) ?_)
    | (go_at_call 16; refine HO.out.mono ?_; rintro e w2 ⟨rfl, hb2⟩))
  go_ret
  refine ⟨rfl, HB.out.trans (hb2.mono (by simp))⟩
end Go.Proofs.Ytkoefhbmkmepaaa
