/- CONTRACTS AND OPENER for the laws of chapter 3: a Stream (a key, a nonce, a number, a text) as an argument; large; alive. -/
import Derived.Test.YtgcpjmmiciehmaaArr
import Derived.Test.YtgcpjmmiciehmaaOpen
import Derived.Test.YtgcpjmmiciehmaaCQuarter
namespace Go.Proofs.Ytgcpjmmiciehmaa
open Go.RowKit Go.ChangeShapes Go.WideShapes Go.ChangeAt
set_option linter.unusedVariables false

theorem list_bytes : ∀ (cs : List Value), (∀ i, i < cs.length → ∃ x : BitVec 8, cs[i]? = some (b8 x)) → ∃ xs : List (BitVec 8), cs = xs.map b8
  | [], _ => ⟨[], rfl⟩
  | c :: cs, h => by
    obtain ⟨x, hx⟩ := h 0 (by simp)
    simp at hx
    obtain ⟨xs, hxs⟩ := list_bytes cs (fun i hi => by simpa using h (i + 1) (by simp; omega))
    exact ⟨x :: xs, by rw [hx, hxs]; rfl⟩
section
variable {H : Type} {enc : TypeId × Value → H} {P : Program} {w : World} {base : Nat} {spare : Nat → Bool} {held : Bool}
/-- an array of bytes, opened -/
theorem open_barray {t e : TypeId} {n fuel : Nat} {cs : List Value} {x : DataW H × List MemPlace} (ht : P.underlying t = some (.array n e)) (he : P.underlying e = some (.int .u8)) (hc : P.cellsOf e = 1) (hct : P.cellsOf t = n)
    (h : DataW.trod enc P w base spare held fuel t cs = some x) : ∃ xs : List (BitVec 8), xs.length = n ∧ cs = xs.map b8 := by
  obtain ⟨ys, m, -, -, hl, hlen, hf⟩ := DataW.trod_array ht h
  rw [hct] at hl
  obtain ⟨xs, hxs⟩ := list_bytes cs (fun i hi => by
    have h1 := hf i (by omega)
    rw [hc] at h1
    obtain ⟨y, hy⟩ : ∃ y, ys[i]? = some y := ⟨ys[i], List.getElem?_eq_getElem (by omega)⟩
    rw [hy] at h1
    obtain ⟨z, hz, -, hwf⟩ := DataW.trod_int he h1
    obtain ⟨u, rfl⟩ := byte_of hwf
    refine ⟨u, ?_⟩
    have h2 := congrArg (fun l : List Value => l[0]?) hz
    simp only [List.getElem?_take, List.getElem?_drop] at h2
    simpa [b8] using h2)
  refine ⟨xs, ?_, hxs⟩
  rw [hxs, List.length_map] at hl
  exact hl
/-- one cell of a struct -/
theorem cell_of_take {cs : List Value} {o : Nat} {v : Value} (h : (cs.drop o).take 1 = [v]) : cs[o]? = some v := by
  have h2 := congrArg (fun l : List Value => l[0]?) h
  simpa [List.getElem?_take, List.getElem?_drop] using h2
theorem slice_cell {t e : TypeId} {fuel : Nat} {cs : List Value} {x : DataW H × List MemPlace} (ht : P.underlying t = some (.slice e)) (h : DataW.trod enc P w base spare held fuel t cs = some x) : ∃ A n c, cs = [.slice A n c] := by
  cases fuel with
  | zero => simp [DataW.trod] at h
  | succ m =>
    unfold DataW.trod at h
    rw [ht] at h
    split at h <;> simp_all
end
/-- a Stream as a value's cells -/
def streamC (key : List (BitVec 8)) (A : Option Addr) (n c : Nat) (number : Int) (T : Option Addr) (m d : Nat) : List Value := key.map b8 ++ [.slice A n c, .int .i64 number, .slice T m d]
set_option maxRecDepth 100000 in
theorem open_stream {H : Type} {enc : TypeId × Value → H} {w : World} {base : Nat} {spare : Nat → Bool} {held : Bool} {r : Reach} {b0 : Nat} {v : Value} {d : DataW H} {p : List MemPlace} (hv : Value.okWide Try.prog w r b0 40 v)
    (h : DataW.Trod enc Try.prog w base spare held 40 v d p) :
    ∃ (key : List (BitVec 8)) (A : Option Addr) (n c : Nat) (nonce : List (BitVec 8)) (number : Int) (T : Option Addr) (m d : Nat) (text : List (BitVec 8)), v = .agg (streamC key A n c number T m d).toArray ∧ key.length = 32 ∧
      Rd b8 w w.heap.size A nonce ∧ nonce.length = n ∧ n ≤ c ∧ c ≤ maxLen ∧ (Lit.int .i64 number).wf = true ∧ Rd b8 w w.heap.size T text ∧ text.length = m ∧ m ≤ d ∧ d ≤ maxLen := by
  obtain ⟨cs, rfl, hsz⟩ := okWide_struct Try.underlying40 hv
  obtain ⟨fuel, hf⟩ := h
  obtain ⟨y0, y1, y2, y3, k, -, hl, h0, h1, h2, h3⟩ := Joins.trod_struct4 Try.underlying40 hf
  obtain ⟨L, rfl⟩ : ∃ L : List Value, cs = L.toArray := ⟨cs.toList, by simp⟩
  have hl35 : L.length = 35 := hl
  obtain ⟨key, hk, hkc⟩ := open_barray Try.underlying38 Try.underlying5 (by kernel_rfl) (by kernel_rfl) h0
  obtain ⟨A, n, c, e1⟩ := slice_cell Try.underlying22 h1
  obtain ⟨number, e2, -, wf2⟩ := DataW.trod_int Try.underlying3 h2
  obtain ⟨T, m, d, e3⟩ := slice_cell Try.underlying22 h3
  rw [e1] at h1
  rw [e3] at h3
  obtain ⟨nonce, rd1, ln1, le1, mx1⟩ := open_bytes Try.underlying22 Try.underlying5 (by kernel_rfl) h1
  obtain ⟨text, rd3, ln3, le3, mx3⟩ := open_bytes Try.underlying22 Try.underlying5 (by kernel_rfl) h3
  refine ⟨key, A, n, c, nonce, number, T, m, d, text, ?_, hk, rd1, ln1, le1, mx1, wf2, rd3, ln3, le3, mx3⟩
  have q0 : List.take (Try.prog.cellsOf 38) (List.drop 0 L) = key.map b8 := hkc
  have q1 : List.take (Try.prog.cellsOf 22) (List.drop 32 L) = [.slice A n c] := e1
  have q2 : List.take (Try.prog.cellsOf 3) (List.drop 33 L) = [.int .i64 number] := e2
  have q3 : List.take (Try.prog.cellsOf 22) (List.drop 34 L) = [.slice T m d] := e3
  rw [show Try.prog.cellsOf 38 = 32 by kernel_rfl, List.drop_zero] at q0
  rw [show Try.prog.cellsOf 22 = 1 by kernel_rfl] at q1 q3
  rw [show Try.prog.cellsOf 3 = 1 by kernel_rfl] at q2
  have e : L = streamC key A n c number T m d := by
    unfold streamC
    rw [← q0]
    have a1 : L.drop 32 = [.slice A n c, .int .i64 number, .slice T m d] := by
      have g1 := cell_of_take q1
      have g2 := cell_of_take q2
      have g3 := cell_of_take q3
      refine List.ext_getElem? fun i => ?_
      rw [List.getElem?_drop]
      match i with
      | 0 => exact g1
      | 1 => exact g2
      | 2 => exact g3
      | i + 3 => rw [List.getElem?_eq_none (by omega)]; simp
    rw [← a1, List.take_append_drop]
  rw [e]

section
variable {w w' : World} {g : Nat} {key : List (BitVec 8)} {A : Option Addr} {n c : Nat} {number : Int} {T : Option Addr} {m d : Nat}
/-- a box that holds a Stream -/
def SBox (w : World) (g : Nat) (key : List (BitVec 8)) (A : Option Addr) (n c : Nat) (number : Int) (T : Option Addr) (m d : Nat) : Prop := w.heap[g]? = some (.cells (streamC key A n c number T m d).toArray 40 (0, 0))
theorem SBox.arr (h : SBox w g key A n c number T m d) : Arr (fun v : Value => v) w g 40 (streamC key A n c number T m d) := by unfold Arr; rw [List.map_id']; exact h
theorem SBox.new (w : World) (key : List (BitVec 8)) (A : Option Addr) (n c : Nat) (number : Int) (T : Option Addr) (m d : Nat) : SBox (w.alloc (.cells (streamC key A n c number T m d).toArray 40)) w.heap.size key A n c number T m d := heap_alloc_new w _
theorem SBox.lt (h : SBox w g key A n c number T m d) : g < w.heap.size := h.arr.lt
theorem SBox.below {B : Nat} (h : SBox w g key A n c number T m d) (hb : Below B w w') (hg : g < B) : SBox w' g key A n c number T m d := (hb.block g hg).trans h
theorem SBox.nonceC (h : SBox w g key A n c number T m d) (hk : key.length = 32) : w.cell? ⟨g, 32, none⟩ = some (.slice A n c) := h.arr.at_ (k := 32) (by simp [streamC, hk])
theorem SBox.numC (h : SBox w g key A n c number T m d) (hk : key.length = 32) : w.cell? ⟨g, 33, none⟩ = some (.int .i64 number) := h.arr.at_ (k := 33) (by simp [streamC, hk])
theorem SBox.textC (h : SBox w g key A n c number T m d) (hk : key.length = 32) : w.cell? ⟨g, 34, none⟩ = some (.slice T m d) := h.arr.at_ (k := 34) (by simp [streamC, hk])
theorem SBox.keyC (h : SBox w g key A n c number T m d) (hk : key.length = 32) : w.rangeAt g 0 (key.map b8) := by
  have := h.arr.range 0 32
  rw [List.map_id', List.drop_zero] at this
  unfold streamC at this
  rw [List.take_append_of_le_length (by simp [hk]), List.take_of_length_le (by simp [hk])] at this
  exact this
theorem SBox.all4 (h : SBox w g key A n c number T m d) (hk : key.length = 32) : w.cell? ⟨g, 32, none⟩ = some (.slice A n c) ∧ w.cell? ⟨g, 33, none⟩ = some (.int .i64 number) ∧ w.cell? ⟨g, 34, none⟩ = some (.slice T m d) ∧ w.rangeAt g 0 (key.map b8) := ⟨h.nonceC hk, h.numC hk, h.textC hk, h.keyC hk⟩
theorem SBox.all (h : SBox w g key A n c number T m d) : w.rangeAt g 0 (streamC key A n c number T m d) := by
  have := h.arr.whole
  rw [List.map_id'] at this
  exact this
end
theorem streamC_len {key : List (BitVec 8)} {A : Option Addr} {n c : Nat} {number : Int} {T : Option Addr} {m d : Nat} (hk : key.length = 32) : (streamC key A n c number T m d).length = 35 := by simp [streamC, hk]
theorem infoStream : (Try.prog.info? 40).map (·.size) = some 35 := by kernel_rfl
theorem infoKeyS : (Try.prog.info? 38).map (·.size) = some 32 := by kernel_rfl

set_option maxRecDepth 100000 in
theorem large03_any (key : List (BitVec 8)) (A : Option Addr) (n c : Nat) (number : Int) (T : Option Addr) (m d : Nat) (w : World) (hk : key.length = 32) :
    Calls Try.prog 22 #[.agg (streamC key A n c number T m d).toArray] w fun e w' => e = .returned (.bool (decide ((1000 : Int) < n) || decide ((1000 : Int) < m))) ∧ Below w.heap.size w w' := by
  have hb := SBox.new w key A n c number T m d
  have c1 := hb.nonceC hk
  have c2 := hb.textC hk
  clear hb
  by_cases h : (1000 : Int) < n
  · have e : (decide ((1000 : Int) < n) || decide ((1000 : Int) < m)) = true := by simp [h]
    rw [e]
    clear e
    go_enter Try.func22, Try.ntmps22
    go_wp2
    go_ret
    exact ⟨rfl, by (repeat' (first | assumption | exact Below.refl _ _ | refine Below.drew ?_ | refine Below.alloc ?_ ?_ _ | omega | (simp; done) | (simp; omega)))⟩
  · by_cases h2 : (1000 : Int) < m
    · have e : (decide ((1000 : Int) < n) || decide ((1000 : Int) < m)) = true := by simp [h2]
      rw [e]
      clear e
      go_enter Try.func22, Try.ntmps22
      go_wp2
      go_ret
      exact ⟨rfl, by (repeat' (first | assumption | exact Below.refl _ _ | refine Below.drew ?_ | refine Below.alloc ?_ ?_ _ | omega | (simp; done) | (simp; omega)))⟩
    · have e : (decide ((1000 : Int) < n) || decide ((1000 : Int) < m)) = false := by simp [h, h2]
      rw [e]
      clear e
      go_enter Try.func22, Try.ntmps22
      go_wp2
      go_ret
      exact ⟨rfl, by (repeat' (first | assumption | exact Below.refl _ _ | refine Below.drew ?_ | refine Below.alloc ?_ ?_ _ | omega | (simp; done) | (simp; omega)))⟩
end Go.Proofs.Ytgcpjmmiciehmaa
