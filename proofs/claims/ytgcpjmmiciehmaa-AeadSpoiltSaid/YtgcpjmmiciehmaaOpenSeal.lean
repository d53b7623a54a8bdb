/- CONTRACTS AND OPENERS for the laws of chapter 4: a key, a Sealed (a key, a nonce, a context, a text) as arguments; large. -/
import Derived.Test.YtgcpjmmiciehmaaArr
import Derived.Test.YtgcpjmmiciehmaaInfo
import Derived.Test.YtgcpjmmiciehmaaOpen
import Derived.Test.YtgcpjmmiciehmaaOpenS
namespace Go.Proofs.Ytgcpjmmiciehmaa
open Go.RowKit Go.ChangeShapes Go.WideShapes Go.ChangeAt
set_option linter.unusedVariables false
set_option linter.unusedSimpArgs false

set_option maxRecDepth 100000 in
theorem open_key {H : Type} {enc : TypeId × Value → H} {w : World} {base : Nat} {spare : Nat → Bool} {held : Bool} {r : Reach} {b0 : Nat} {v : Value} {d : DataW H} {p : List MemPlace} (hv : Value.okWide Try.prog w r b0 38 v)
    (h : DataW.Trod enc Try.prog w base spare held 38 v d p) : ∃ key : List (BitVec 8), key.length = 32 ∧ v = .agg (key.map b8).toArray := by
  have hv' : ∃ cs, v = .agg cs := by
    unfold Value.okWide at hv
    rw [Try.underlying38] at hv
    obtain ⟨cs, h, -⟩ := hv
    exact ⟨cs, h⟩
  obtain ⟨cs, rfl⟩ := hv'
  obtain ⟨fuel, hf⟩ := h
  obtain ⟨L, rfl⟩ : ∃ L : List Value, cs = L.toArray := ⟨cs.toList, by simp⟩
  obtain ⟨key, hk, hkc⟩ := open_barray (cs := L) Try.underlying38 Try.underlying5 (by kernel_rfl) (by kernel_rfl) hf
  exact ⟨key, hk, by rw [hkc]⟩
/-- a Sealed as a value's cells -/
def sealedC (key : List (BitVec 8)) (A : Option Addr) (n c : Nat) (C : Option Addr) (l cc : Nat) (T : Option Addr) (m d : Nat) : List Value := key.map b8 ++ [.slice A n c, .slice C l cc, .slice T m d]
set_option maxRecDepth 100000 in
theorem open_sealed {H : Type} {enc : TypeId × Value → H} {w : World} {base : Nat} {spare : Nat → Bool} {held : Bool} {r : Reach} {b0 : Nat} {v : Value} {d : DataW H} {p : List MemPlace} (hv : Value.okWide Try.prog w r b0 65 v)
    (h : DataW.Trod enc Try.prog w base spare held 65 v d p) :
    ∃ (key : List (BitVec 8)) (A : Option Addr) (n c : Nat) (nonce : List (BitVec 8)) (C : Option Addr) (l cc : Nat) (ctx : List (BitVec 8)) (T : Option Addr) (m d : Nat) (text : List (BitVec 8)), v = .agg (sealedC key A n c C l cc T m d).toArray ∧ key.length = 32 ∧
      Rd b8 w w.heap.size A nonce ∧ nonce.length = n ∧ n ≤ c ∧ c ≤ maxLen ∧ Rd b8 w w.heap.size C ctx ∧ ctx.length = l ∧ l ≤ cc ∧ cc ≤ maxLen ∧ Rd b8 w w.heap.size T text ∧ text.length = m ∧ m ≤ d ∧ d ≤ maxLen := by
  obtain ⟨cs, rfl, hsz⟩ := okWide_struct Try.underlying65 hv
  obtain ⟨fuel, hf⟩ := h
  obtain ⟨y0, y1, y2, y3, k, -, hl, h0, h1, h2, h3⟩ := Joins.trod_struct4 Try.underlying65 hf
  obtain ⟨L, rfl⟩ : ∃ L : List Value, cs = L.toArray := ⟨cs.toList, by simp⟩
  have hl35 : L.length = 35 := hl
  obtain ⟨key, hk, hkc⟩ := open_barray Try.underlying38 Try.underlying5 (by kernel_rfl) (by kernel_rfl) h0
  obtain ⟨A, n, c, e1⟩ := slice_cell Try.underlying22 h1
  obtain ⟨C, l, cc, e2⟩ := slice_cell Try.underlying22 h2
  obtain ⟨T, m, d, e3⟩ := slice_cell Try.underlying22 h3
  rw [e1] at h1
  rw [e2] at h2
  rw [e3] at h3
  obtain ⟨nonce, rd1, ln1, le1, mx1⟩ := open_bytes Try.underlying22 Try.underlying5 (by kernel_rfl) h1
  obtain ⟨ctx, rd2, ln2, le2, mx2⟩ := open_bytes Try.underlying22 Try.underlying5 (by kernel_rfl) h2
  obtain ⟨text, rd3, ln3, le3, mx3⟩ := open_bytes Try.underlying22 Try.underlying5 (by kernel_rfl) h3
  refine ⟨key, A, n, c, nonce, C, l, cc, ctx, T, m, d, text, ?_, hk, rd1, ln1, le1, mx1, rd2, ln2, le2, mx2, rd3, ln3, le3, mx3⟩
  have q0 : List.take (Try.prog.cellsOf 38) (List.drop 0 L) = key.map b8 := hkc
  have q1 : List.take (Try.prog.cellsOf 22) (List.drop 32 L) = [.slice A n c] := e1
  have q2 : List.take (Try.prog.cellsOf 22) (List.drop 33 L) = [.slice C l cc] := e2
  have q3 : List.take (Try.prog.cellsOf 22) (List.drop 34 L) = [.slice T m d] := e3
  rw [show Try.prog.cellsOf 38 = 32 by kernel_rfl, List.drop_zero] at q0
  rw [show Try.prog.cellsOf 22 = 1 by kernel_rfl] at q1 q2 q3
  have e : L = sealedC key A n c C l cc T m d := by
    unfold sealedC
    rw [← q0]
    have a1 : L.drop 32 = [.slice A n c, .slice C l cc, .slice T m d] := by
      have g1 := cell_of_take q1
      have g2 := cell_of_take q2
      have g3 := cell_of_take q3
      refine List.ext_getElem? fun i => ?_
      rw [List.getElem?_drop]
      match i with
      | 0 => exact g1
      | 1 => exact g2
      | 2 => exact g3
      | i + 3 => rw [List.getElem?_eq_none (by omega)]; simp
    rw [← a1, List.take_append_drop]
  rw [e]


section
variable {w w' : World} {g : Nat} {key : List (BitVec 8)} {A : Option Addr} {n c : Nat} {C : Option Addr} {l cc : Nat} {T : Option Addr} {m d : Nat}
/-- a box that holds a Stream -/
def SdBox (w : World) (g : Nat) (key : List (BitVec 8)) (A : Option Addr) (n c : Nat) (C : Option Addr) (l cc : Nat) (T : Option Addr) (m d : Nat) : Prop := w.heap[g]? = some (.cells (sealedC key A n c C l cc T m d).toArray 65 (0, 0))
theorem SdBox.arr (h : SdBox w g key A n c C l cc T m d) : Arr (fun v : Value => v) w g 65 (sealedC key A n c C l cc T m d) := by unfold Arr; rw [List.map_id']; exact h
theorem SdBox.new (w : World) (key : List (BitVec 8)) (A : Option Addr) (n c : Nat) (C : Option Addr) (l cc : Nat) (T : Option Addr) (m d : Nat) : SdBox (w.alloc (.cells (sealedC key A n c C l cc T m d).toArray 65)) w.heap.size key A n c C l cc T m d := heap_alloc_new w _
theorem SdBox.lt (h : SdBox w g key A n c C l cc T m d) : g < w.heap.size := h.arr.lt
theorem SdBox.below {B : Nat} (h : SdBox w g key A n c C l cc T m d) (hb : Below B w w') (hg : g < B) : SdBox w' g key A n c C l cc T m d := (hb.block g hg).trans h
theorem SdBox.nonceC (h : SdBox w g key A n c C l cc T m d) (hk : key.length = 32) : w.cell? ⟨g, 32, none⟩ = some (.slice A n c) := h.arr.at_ (k := 32) (by simp [sealedC, hk])
theorem SdBox.ctxC (h : SdBox w g key A n c C l cc T m d) (hk : key.length = 32) : w.cell? ⟨g, 33, none⟩ = some (.slice C l cc) := h.arr.at_ (k := 33) (by simp [sealedC, hk])
theorem SdBox.textC (h : SdBox w g key A n c C l cc T m d) (hk : key.length = 32) : w.cell? ⟨g, 34, none⟩ = some (.slice T m d) := h.arr.at_ (k := 34) (by simp [sealedC, hk])
theorem SdBox.keyC (h : SdBox w g key A n c C l cc T m d) (hk : key.length = 32) : w.rangeAt g 0 (key.map b8) := by
  have := h.arr.range 0 32
  rw [List.map_id', List.drop_zero] at this
  unfold sealedC at this
  rw [List.take_append_of_le_length (by simp [hk]), List.take_of_length_le (by simp [hk])] at this
  exact this
theorem SdBox.all4 (h : SdBox w g key A n c C l cc T m d) (hk : key.length = 32) : w.cell? ⟨g, 32, none⟩ = some (.slice A n c) ∧ w.cell? ⟨g, 33, none⟩ = some (.slice C l cc) ∧ w.cell? ⟨g, 34, none⟩ = some (.slice T m d) ∧ w.rangeAt g 0 (key.map b8) := ⟨h.nonceC hk, h.ctxC hk, h.textC hk, h.keyC hk⟩
theorem SdBox.all (h : SdBox w g key A n c C l cc T m d) : w.rangeAt g 0 (sealedC key A n c C l cc T m d) := by
  have := h.arr.whole
  rw [List.map_id'] at this
  exact this
end
theorem sealedC_len {key : List (BitVec 8)} {A : Option Addr} {n c : Nat} {C : Option Addr} {l cc : Nat} {T : Option Addr} {m d : Nat} (hk : key.length = 32) : (sealedC key A n c C l cc T m d).length = 35 := by simp [sealedC, hk]
theorem infoSealed : (Try.prog.info? 65).map (·.size) = some 35 := by kernel_rfl
theorem infoKeyS : (Try.prog.info? 38).map (·.size) = some 32 := by kernel_rfl

def largeP (n l m : Nat) : Bool := decide (1000 < n) || ((decide (500 < l) && decide (l ≤ 1048576)) || (decide (500 < m) && decide (m ≤ 1048576)))
set_option maxRecDepth 100000 in
theorem large04_any (key : List (BitVec 8)) (A : Option Addr) (n c : Nat) (C : Option Addr) (l cc : Nat) (T : Option Addr) (m d : Nat) (w : World) (hk : key.length = 32) :
    Calls Try.prog 34 #[.agg (sealedC key A n c C l cc T m d).toArray] w fun e w' => e = .returned (.bool (largeP n l m)) ∧ Below w.heap.size w w' := by
  have hb := SdBox.new w key A n c C l cc T m d
  have c1 := hb.nonceC hk
  have c2 := hb.ctxC hk
  have c3 := hb.textC hk
  clear hb
  by_cases h : (n : Int) > 1000
  ·
    have e : largeP n l m = true := by unfold largeP; simp; omega
    rw [e]
    clear e
    go_enter Try.func34, Try.ntmps34
    go_wp2_with fail
    go_ret
    exact ⟨rfl, by (repeat' (first | assumption | exact Below.refl _ _ | refine Below.drew ?_ | refine Below.alloc ?_ ?_ _ | omega | (simp; done) | (simp; omega)))⟩
  · by_cases h2 : (l : Int) > 500
    · by_cases h3 : (l : Int) ≤ 1048576
      ·
        have e : largeP n l m = true := by unfold largeP; simp; omega
        rw [e]
        clear e
        go_enter Try.func34, Try.ntmps34
        go_wp2_with fail
        go_ret
        exact ⟨rfl, by (repeat' (first | assumption | exact Below.refl _ _ | refine Below.drew ?_ | refine Below.alloc ?_ ?_ _ | omega | (simp; done) | (simp; omega)))⟩
      · by_cases h4 : (m : Int) > 500
        · by_cases h5 : (m : Int) ≤ 1048576
          ·
            have e : largeP n l m = true := by unfold largeP; simp; omega
            rw [e]
            clear e
            go_enter Try.func34, Try.ntmps34
            go_wp2_with fail
            go_ret
            exact ⟨rfl, by (repeat' (first | assumption | exact Below.refl _ _ | refine Below.drew ?_ | refine Below.alloc ?_ ?_ _ | omega | (simp; done) | (simp; omega)))⟩
          ·
            have e : largeP n l m = false := by unfold largeP; simp; omega
            rw [e]
            clear e
            go_enter Try.func34, Try.ntmps34
            go_wp2_with fail
            go_ret
            exact ⟨rfl, by (repeat' (first | assumption | exact Below.refl _ _ | refine Below.drew ?_ | refine Below.alloc ?_ ?_ _ | omega | (simp; done) | (simp; omega)))⟩
        ·
          have e : largeP n l m = false := by unfold largeP; simp; omega
          rw [e]
          clear e
          go_enter Try.func34, Try.ntmps34
          go_wp2_with fail
          go_ret
          exact ⟨rfl, by (repeat' (first | assumption | exact Below.refl _ _ | refine Below.drew ?_ | refine Below.alloc ?_ ?_ _ | omega | (simp; done) | (simp; omega)))⟩
    · by_cases h4 : (m : Int) > 500
      · by_cases h5 : (m : Int) ≤ 1048576
        ·
          have e : largeP n l m = true := by unfold largeP; simp; omega
          rw [e]
          clear e
          go_enter Try.func34, Try.ntmps34
          go_wp2_with fail
          go_ret
          exact ⟨rfl, by (repeat' (first | assumption | exact Below.refl _ _ | refine Below.drew ?_ | refine Below.alloc ?_ ?_ _ | omega | (simp; done) | (simp; omega)))⟩
        ·
          have e : largeP n l m = false := by unfold largeP; simp; omega
          rw [e]
          clear e
          go_enter Try.func34, Try.ntmps34
          go_wp2_with fail
          go_ret
          exact ⟨rfl, by (repeat' (first | assumption | exact Below.refl _ _ | refine Below.drew ?_ | refine Below.alloc ?_ ?_ _ | omega | (simp; done) | (simp; omega)))⟩
      ·
        have e : largeP n l m = false := by unfold largeP; simp; omega
        rw [e]
        clear e
        go_enter Try.func34, Try.ntmps34
        go_wp2_with fail
        go_ret
        exact ⟨rfl, by (repeat' (first | assumption | exact Below.refl _ _ | refine Below.drew ?_ | refine Below.alloc ?_ ?_ _ | omega | (simp; done) | (simp; omega)))⟩
end Go.Proofs.Ytgcpjmmiciehmaa
