/- PLAIN LEMMAS: how an argument that came in is read. No conditions. -/
import Derived.Test.YtkoefhbmkmepaaaMem
import Derived.WalkKit
import Derived.ProofKit
import Derived.OpenShut
import Derived.ShutString
import Derived.ChangeOld
import Derived.Below
import Derived.Lib.SmallJoins
import Derived.Test.YtkoefhbmkmepaaaInfo
import Derived.Laws.Tables
namespace Go.Proofs.Ytkoefhbmkmepaaa
open Go.ChangeShapes Go.WideShapes Go.ChangeAt Go.RowKit

theorem byte_of {a : Int} (h : (Lit.int .u8 a).wf = true) : ∃ x : BitVec 8, a = bv x :=
  ⟨BitVec.ofInt 8 a, by
    have hb := bounds_u8 h
    unfold bv; rw [BitVec.toNat_ofInt]; omega⟩
theorem word_of {a : Int} (h : (Lit.int .u32 a).wf = true) : ∃ x : BitVec 32, a = bv x :=
  ⟨BitVec.ofInt 32 a, by
    have hb := bounds_u32 h
    unfold bv; rw [BitVec.toNat_ofInt]; omega⟩
theorem bytes_of : ∀ (zs : List Int), (∀ n ∈ zs, (Lit.int .u8 n).wf = true) → ∃ xs : List (BitVec 8), zs = xs.map bv
  | [], _ => ⟨[], rfl⟩
  | z :: zs, h => by
    obtain ⟨x, hx⟩ := byte_of (h z (by simp))
    obtain ⟨xs, hxs⟩ := bytes_of zs (fun n hn => h n (by simp [hn]))
    exact ⟨x :: xs, by rw [hx, hxs]; rfl⟩
section
variable {H : Type} {enc : TypeId × Value → H} {P : Program} {w : World} {base : Nat} {spare : Nat → Bool} {held : Bool}
theorem lt_of_cell {w : World} {a : Addr} {v : Value} (h : w.cell? a = some v) : a.block < w.heap.size := by
  rcases Nat.lt_or_ge a.block w.heap.size with hl | hl
  · exact hl
  · simp [World.cell?, Array.getElem?_eq_none hl] at h
theorem open_row {t e : TypeId} {k : IntKind} {fuel : Nat} {x : DataW H × List MemPlace} {A : Option Addr} {n c : Nat} (ht : P.underlying t = some (.slice e)) (he : P.underlying e = some (.int k)) (hc : P.cellsOf e = 1)
    (h : DataW.trod enc P w base spare held fuel t (Value.slice A n c).cells.toList = some x) :
    ∃ zs : List Int, Rd (Value.int k) w w.heap.size A zs ∧ (∀ z ∈ zs, (Lit.int k z).wf = true) ∧ zs.length = n ∧ n ≤ c ∧ c ≤ maxLen := by
  rcases open_ints ht he hc h with ⟨hcs, _⟩ | ⟨a, l, cap, zs, hcs, _, hl, hm, hz, _, hcell, hwf⟩
  · simp [Value.cells] at hcs
    obtain ⟨rfl, rfl, rfl⟩ := hcs
    exact ⟨[], Rd.nil_ _ _ _ _, by simp, rfl, Nat.le_refl _, by simp [maxLen]⟩
  · simp [Value.cells] at hcs
    obtain ⟨rfl, rfl, rfl⟩ := hcs
    have hzl : n ≤ zs.length := by rw [hz]; split <;> omega
    refine ⟨zs.take n, fun hp => ?_, fun z hz => hwf z (List.mem_of_mem_take hz), by rw [List.length_take]; omega, hl, hm⟩
    rw [List.length_take] at hp
    have h0 := hcell 0 (by omega)
    obtain ⟨b, off, spot⟩ := a
    have hspot : spot = none := by simpa [Addr.add] using World.cell?_spot h0
    subst hspot
    refine ⟨b, off, rfl, lt_of_cell (a := ⟨b, off, none⟩) (by simpa [Addr.add] using h0), fun j u hu => ?_⟩
    rw [List.getElem?_take] at hu
    split at hu
    · have hj : j < zs.length := (List.getElem?_eq_some_iff.1 hu).1
      have := hcell j hj
      rw [Addr.add_lit] at this
      rw [this, List.getD, hu]; rfl
    · cases hu
theorem open_bytes {t e : TypeId} {fuel : Nat} {x : DataW H × List MemPlace} {A : Option Addr} {n c : Nat} (ht : P.underlying t = some (.slice e)) (he : P.underlying e = some (.int .u8)) (hc : P.cellsOf e = 1)
    (h : DataW.trod enc P w base spare held fuel t (Value.slice A n c).cells.toList = some x) :
    ∃ xs : List (BitVec 8), Rd b8 w w.heap.size A xs ∧ xs.length = n ∧ n ≤ c ∧ c ≤ maxLen := by
  obtain ⟨zs, hr, hwf, hl, hle, hm⟩ := open_row ht he hc h
  obtain ⟨xs, rfl⟩ := bytes_of zs hwf
  rw [List.length_map] at hl
  refine ⟨xs, fun hp => ?_, hl, hle, hm⟩
  obtain ⟨b, off, e1, hb, hcell⟩ := hr (by simpa using hp)
  exact ⟨b, off, e1, hb, fun j u hu => hcell j (bv u) (by rw [List.getElem?_map, hu]; rfl)⟩
end
end Go.Proofs.Ytkoefhbmkmepaaa

/- PLAIN LEMMAS: how a struct that came in is read: arrays of bytes, fields. No conditions. -/
namespace Go.Proofs.Ytkoefhbmkmepaaa
open Go.ChangeShapes Go.WideShapes Go.ChangeAt Go.RowKit
theorem list_bytes : ∀ (cs : List Value), (∀ i, i < cs.length → ∃ x : BitVec 8, cs[i]? = some (b8 x)) → ∃ xs : List (BitVec 8), cs = xs.map b8
  | [], _ => ⟨[], rfl⟩
  | c :: cs, h => by
    obtain ⟨x, hx⟩ := h 0 (by simp)
    simp at hx
    obtain ⟨xs, hxs⟩ := list_bytes cs (fun i hi => by simpa using h (i + 1) (by simp; omega))
    exact ⟨x :: xs, by rw [hx, hxs]; rfl⟩
section
variable {H : Type} {enc : TypeId × Value → H} {P : Program} {w : World} {base : Nat} {spare : Nat → Bool} {held : Bool}
/-- an array of bytes, opened -/
theorem open_barray {t e : TypeId} {n fuel : Nat} {cs : List Value} {x : DataW H × List MemPlace} (ht : P.underlying t = some (.array n e)) (he : P.underlying e = some (.int .u8)) (hc : P.cellsOf e = 1) (hct : P.cellsOf t = n)
    (h : DataW.trod enc P w base spare held fuel t cs = some x) : ∃ xs : List (BitVec 8), xs.length = n ∧ cs = xs.map b8 := by
  obtain ⟨ys, m, -, -, hl, hlen, hf⟩ := DataW.trod_array ht h
  rw [hct] at hl
  obtain ⟨xs, hxs⟩ := list_bytes cs (fun i hi => by
    have h1 := hf i (by omega)
    rw [hc] at h1
    obtain ⟨y, hy⟩ : ∃ y, ys[i]? = some y := ⟨ys[i], List.getElem?_eq_getElem (by omega)⟩
    rw [hy] at h1
    obtain ⟨z, hz, -, hwf⟩ := DataW.trod_int he h1
    obtain ⟨u, rfl⟩ := byte_of hwf
    refine ⟨u, ?_⟩
    have h2 := congrArg (fun l : List Value => l[0]?) hz
    simp only [List.getElem?_take, List.getElem?_drop] at h2
    simpa [b8] using h2)
  refine ⟨xs, ?_, hxs⟩
  rw [hxs, List.length_map] at hl
  exact hl
/-- one cell of a struct -/
theorem cell_of_take {cs : List Value} {o : Nat} {v : Value} (h : (cs.drop o).take 1 = [v]) : cs[o]? = some v := by
  have h2 := congrArg (fun l : List Value => l[0]?) h
  simpa [List.getElem?_take, List.getElem?_drop] using h2
theorem slice_cell {t e : TypeId} {fuel : Nat} {cs : List Value} {x : DataW H × List MemPlace} (ht : P.underlying t = some (.slice e)) (h : DataW.trod enc P w base spare held fuel t cs = some x) : ∃ A n c, cs = [.slice A n c] := by
  cases fuel with
  | zero => simp [DataW.trod] at h
  | succ m =>
    unfold DataW.trod at h
    rw [ht] at h
    split at h <;> simp_all
theorem field_of {t : TypeId} {fs : Array Field} {fuel : Nat} {cs : List Value} {x : DataW H × List MemPlace} (ht : P.underlying t = some (.struct fs)) (h : DataW.trod enc P w base spare held fuel t cs = some x) :
    ∃ n, cs.length = P.cellsOf t ∧ ∀ (i : Nat) (f : Field), fs[i]? = some f → ∃ y, DataW.trod enc P w base spare held n f.type ((cs.drop f.offset).take (P.cellsOf f.type)) = some y := by
  obtain ⟨xs, n, -, -, hl, hlen, hf⟩ := DataW.trod_struct ht h
  refine ⟨n, hl, fun i f hi => ?_⟩
  have h1 := hf i f hi
  have hlt : i < xs.length := by rw [hlen]; exact (Array.getElem?_eq_some_iff.1 hi).1
  rw [List.getElem?_eq_getElem hlt] at h1
  exact ⟨_, h1⟩
end
end Go.Proofs.Ytkoefhbmkmepaaa

/- PLAIN LEMMAS: how a key that came in is read; what is built from parts. No conditions. -/
namespace Go.Proofs.Ytkoefhbmkmepaaa
open Go.RowKit Go.ChangeShapes Go.WideShapes Go.ChangeAt
set_option linter.unusedVariables false
set_option linter.unusedSimpArgs false
set_option maxRecDepth 100000 in
theorem open_key {H : Type} {enc : TypeId × Value → H} {w : World} {base : Nat} {spare : Nat → Bool} {held : Bool} {r : Reach} {b0 : Nat} {v : Value} {d : DataW H} {p : List MemPlace} (hv : Value.okWide Try.prog w r b0 39 v)
    (h : DataW.Trod enc Try.prog w base spare held 39 v d p) : ∃ key : List (BitVec 8), key.length = 32 ∧ v = .agg (key.map b8).toArray := by
  have hv' : ∃ cs, v = .agg cs := by
    unfold Value.okWide at hv
    rw [Try.underlying39] at hv
    obtain ⟨cs, h, -⟩ := hv
    exact ⟨cs, h⟩
  obtain ⟨cs, rfl⟩ := hv'
  obtain ⟨fuel, hf⟩ := h
  obtain ⟨L, rfl⟩ : ∃ L : List Value, cs = L.toArray := ⟨cs.toList, by simp⟩
  obtain ⟨key, hk, hkc⟩ := open_barray (cs := L) Try.underlying39 Try.underlying5 (by kernel_rfl) (by kernel_rfl) hf
  exact ⟨key, hk, by rw [hkc]⟩
theorem list_of32 {α : Type} {xs : List α} (h : xs.length = 32) : ∃ x0 x1 x2 x3 x4 x5 x6 x7 x8 x9 x10 x11 x12 x13 x14 x15 x16 x17 x18 x19 x20 x21 x22 x23 x24 x25 x26 x27 x28 x29 x30 x31, xs = [x0, x1, x2, x3, x4, x5, x6, x7, x8, x9, x10, x11, x12, x13, x14, x15, x16, x17, x18, x19, x20, x21, x22, x23, x24, x25, x26, x27, x28, x29, x30, x31] :=
  match xs, h with
  | [x0, x1, x2, x3, x4, x5, x6, x7, x8, x9, x10, x11, x12, x13, x14, x15, x16, x17, x18, x19, x20, x21, x22, x23, x24, x25, x26, x27, x28, x29, x30, x31], _ => ⟨x0, x1, x2, x3, x4, x5, x6, x7, x8, x9, x10, x11, x12, x13, x14, x15, x16, x17, x18, x19, x20, x21, x22, x23, x24, x25, x26, x27, x28, x29, x30, x31, rfl⟩
/-- a value is built from parts -/
theorem wpList_bparts {P : Program} {ops : Array Oper} {rest : List Oper} {op : Oper} {a : Act} {w : World} {Q : Exit → Act → World → Prop} (hgd : op.guard = none) (t : TypeId) (parts : List (Nat × Operand)) (ho : op.op = .build t parts.toArray)
    (cells : Array Value) (vals : List (Nat × Value)) (hv : parts.map (fun x => (x.1, a.eval x.2)) = vals) (hb : P.built t vals = some cells) (h : wpList P ops Q rest (a.put op.dst (.agg cells)) w) : wpList P ops Q (op :: rest) a w := by
  refine wpList_plain hgd fun K hK => ?_
  have hr := run_build (P := P) w t vals.toArray cells hb
  rw [← hv, ← List.map_toArray] at hr
  unfold Oper.wp execOp
  simp only [ho]
  have e : (parts.toArray.map fun (i, x) => (i, a.eval x)) = parts.toArray.map (fun x => (x.1, a.eval x.2)) := rfl
  rw [e]
  simp only [Sem.run_bind, Sem.run_pure, Result.andThen_ok, hr, Oper.upon_value]
  exact hK _ _ h
end Go.Proofs.Ytkoefhbmkmepaaa
