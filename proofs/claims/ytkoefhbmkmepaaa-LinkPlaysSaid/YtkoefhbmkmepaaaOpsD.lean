/- OPENER: a script of LinkPlays: a slice of Ops, each with a text; their lengths are within the form's reach. -/
import Derived.Test.YtkoefhbmkmepaaaRows12
import Derived.Test.YtkoefhbmkmepaaaOpn
import Derived.SizedLaws
namespace Go.Proofs.Ytkoefhbmkmepaaa
open Go.RowKit Go.ChangeShapes Go.WideShapes Go.ChangeAt
set_option linter.unusedVariables false
set_option linter.unusedSimpArgs false

/-- an Op -/
structure OpD where
  kd : Int
  A : Option Addr
  n : Nat
  c : Nat
  text : List (BitVec 8)
  num : Int
  bt : BitVec 8
instance : Inhabited OpD := ⟨⟨0, none, 0, 0, [], 0, 0#8⟩⟩
def OpD.cells (x : OpD) : List Value := [.int .i64 x.kd, .slice x.A x.n x.c, .int .i64 x.num, b8 x.bt]
theorem OpD.cells_len (x : OpD) : x.cells.length = 4 := rfl
structure OpOk (w : World) (x : OpD) : Prop where
  rd : Rd b8 w w.heap.size x.A x.text
  len : x.text.length = x.n
  le : x.n ≤ x.c
  mx : x.c ≤ maxLen
  sz : x.n ≤ 140737488351232
section
variable {H : Type} {enc : TypeId × Value → H} {w : World} {base : Nat} {spare : Nat → Bool} {held : Bool}
theorem weights_all {P : Program} {e : TypeId} : ∀ {l : List (DataW H)} {d : DataW H}, d ∈ l → ∀ k ∈ d.weights P e, k ∈ DataW.weightsAll P e l
  | [], d, h => by cases h
  | y :: l, d, h => fun k hk => by
    rw [DataW.weightsAll]
    rcases List.mem_cons.1 h with rfl | h
    · exact List.mem_append_left _ hk
    · exact List.mem_append_right _ (weights_all h k hk)
theorem bytesU8o : Try.prog.bytesOf 5 = 1 := by kernel_rfl
theorem weigh_bytes_o {fuel : Nat} {A : Option Addr} {n c : Nat} {x : DataW H × List MemPlace}
    (h : DataW.trod enc Try.prog w base spare held fuel 47 [.slice A n c] = some x) (hw : ∀ k ∈ x.1.weights Try.prog 47, k ≤ reachBytes) : n ≤ 140737488351232 := by
  rcases DataW.trod_slice Try.underlying47 h with ⟨e, -⟩ | ⟨a, len, cap, elems, rest, n', -, e, hx, -, -, -, hl, -⟩
  · cases e; omega
  · cases e
    have h1 := hw ((elems.length + rest.length) * Try.prog.bytesOf 5) (by rw [hx]; simp [DataW.weights, Try.underlying47])
    rw [bytesU8o] at h1
    unfold reachBytes at h1
    omega
set_option maxRecDepth 100000 in
theorem open_op {m : Nat} {L : List Value} {y : DataW H × List MemPlace} (h : DataW.trod enc Try.prog w base spare held m 57 L = some y) (hw : ∀ k ∈ y.1.weights Try.prog 57, k ≤ reachBytes) : ∃ x : OpD, L = x.cells ∧ OpOk w x := by
  obtain ⟨y0, y1, y2, y3, k, hx, hl, h0, h1, h2, h3⟩ := Joins.trod_struct4 Try.underlying57 h
  have hl4 : L.length = 4 := hl
  obtain ⟨kd, e0, -, wf0⟩ := DataW.trod_int Try.underlying3 h0
  obtain ⟨A, n, c, e1⟩ := slice_cell Try.underlying47 h1
  obtain ⟨num, e2, -, wf2⟩ := DataW.trod_int Try.underlying3 h2
  obtain ⟨bt, e3, -, wf3⟩ := DataW.trod_int Try.underlying5 h3
  obtain ⟨u, rfl⟩ := byte_of wf3
  rw [e1] at h1
  obtain ⟨text, rd1, ln1, le1, mx1⟩ := open_bytes Try.underlying47 Try.underlying5 (by kernel_rfl) h1
  have hD : y.1 = .agg [y0.1, y1.1, y2.1, y3.1] := congrArg Prod.fst hx
  have hwe : ∀ k ∈ DataW.weightsEach Try.prog [3, 47, 3, 5] [y0.1, y1.1, y2.1, y3.1], k ≤ reachBytes := fun k hk => hw k (by
    rw [hD]
    simp only [DataW.weights, Try.underlying57]
    exact hk)
  have hsz := weigh_bytes_o h1 (fun k hk => hwe k (DataW.weights_mem_each (j := 1) rfl rfl k hk))
  refine ⟨⟨kd, A, n, c, text, num, u⟩, ?_, ⟨rd1, ln1, le1, mx1, hsz⟩⟩
  have q0 : List.take (Try.prog.cellsOf 3) (List.drop 0 L) = [.int .i64 kd] := e0
  have q1 : List.take (Try.prog.cellsOf 47) (List.drop 1 L) = [.slice A n c] := e1
  have q2 : List.take (Try.prog.cellsOf 3) (List.drop 2 L) = [.int .i64 num] := e2
  have q3 : List.take (Try.prog.cellsOf 5) (List.drop 3 L) = [.int .u8 (bv u)] := e3
  rw [show Try.prog.cellsOf 3 = 1 by kernel_rfl] at q0 q2
  rw [show Try.prog.cellsOf 47 = 1 by kernel_rfl] at q1
  rw [show Try.prog.cellsOf 5 = 1 by kernel_rfl] at q3
  have g0 := cell_of_take q0
  have g1 := cell_of_take q1
  have g2 := cell_of_take q2
  have g3 := cell_of_take q3
  refine List.ext_getElem? fun i => ?_
  match i with
  | 0 => exact g0
  | 1 => exact g1
  | 2 => exact g2
  | 3 => exact g3
  | i + 4 => rw [List.getElem?_eq_none (by omega), List.getElem?_eq_none (by simp [OpD.cells])]
theorem open_ops {fuel : Nat} {x : DataW H × List MemPlace} {A : Option Addr} {n c : Nat} (h : DataW.trod enc Try.prog w base spare held fuel 54 (Value.slice A n c).cells.toList = some x) (hw : ∀ k ∈ x.1.weights Try.prog 54, k ≤ reachBytes) :
    ∃ xs : List OpD, RdV w w.heap.size A (xs.flatMap OpD.cells) ∧ (∀ x ∈ xs, OpOk w x) ∧ xs.length = n ∧ n ≤ c ∧ c ≤ maxLen := by
  rcases DataW.trod_slice Try.underlying54 h with ⟨hcs, _⟩ | ⟨a, l, cap, elems, rest, m, _, hcs, hx, hb, hl, hm, hlen, hels, _, _⟩
  · simp [Value.cells] at hcs
    obtain ⟨rfl, rfl, rfl⟩ := hcs
    exact ⟨[], Rd.nil_ _ _ _ _, by simp, rfl, Nat.le_refl _, by simp [maxLen]⟩
  · simp [Value.cells] at hcs
    obtain ⟨rfl, rfl, rfl⟩ := hcs
    have hc4 : Try.prog.cellsOf 57 = 4 := by kernel_rfl
    have each : ∀ i, i < n → ∃ x : OpD, OpOk w x ∧ ∀ j u, x.cells[j]? = some u → w.cell? (a.add (i * 4 + j)) = some u := by
      intro i hi
      have h1 := hels i hi
      have hie : i < elems.length := by omega
      rw [List.getElem?_eq_getElem hie, hc4] at h1
      obtain ⟨L, h2, h3⟩ := Option.bind_eq_some_iff.1 h1
      obtain ⟨x, rfl, hg⟩ := open_op h3 (fun k hk => hw k (by
        rw [hx]
        simp only [DataW.weights, Try.underlying54]
        exact List.mem_cons_of_mem _ (List.mem_append_left _ (weights_all (List.mem_map.2 ⟨elems[i], List.getElem_mem hie, rfl⟩) k hk))))
      refine ⟨x, hg, fun j u hu => ?_⟩
      have hj : j < 4 := by have := (List.getElem?_eq_some_iff.1 hu).1; rw [x.cells_len] at this; omega
      have h4 := (World.cells?_some h2).2.2 j hj
      rw [Deep.add_add] at h4
      rw [h4]; exact hu
    obtain ⟨g, hg⟩ := Deep.choose_lt each
    have hlen' : ∀ x ∈ (List.range n).map g, (OpD.cells x).length = 4 := fun x _ => rfl
    refine ⟨(List.range n).map g, fun hp => ?_, ?_, by simp, hl, hm⟩
    · rw [flat_len hlen', List.length_map, List.length_range] at hp
      have hn : 0 < n := by omega
      obtain ⟨-, h2⟩ := hg 0 hn
      have h0 := h2 0 _ rfl
      obtain ⟨b, off, spot⟩ := a
      have hspot : spot = none := by simpa [Addr.add] using World.cell?_spot h0
      subst hspot
      refine ⟨b, off, rfl, lt_of_cell (a := ⟨b, off, none⟩) (by simpa [Addr.add] using h0), fun j u hu => ?_⟩
      obtain ⟨x, hx1, hx2⟩ := flat_get (by omega) hlen' hu
      rw [List.getElem?_map] at hx1
      obtain ⟨i, hi, rfl⟩ := Option.map_eq_some_iff.1 hx1
      obtain ⟨hi3, hi4⟩ := List.getElem?_eq_some_iff.1 hi
      rw [List.getElem_range] at hi4
      subst hi4
      rw [List.length_range] at hi3
      have h5 := (hg _ hi3).2 _ _ hx2
      rw [Addr.add_lit, Nat.div_add_mod' j 4] at h5
      exact h5
    · intro x hx
      obtain ⟨i, hi, rfl⟩ := List.mem_map.1 hx
      exact (hg i (List.mem_range.1 hi)).1
end
end Go.Proofs.Ytkoefhbmkmepaaa
