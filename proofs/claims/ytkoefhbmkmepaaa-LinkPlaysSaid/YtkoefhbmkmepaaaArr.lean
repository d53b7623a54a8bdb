/- PLAIN LEMMAS: a block that is known whole and holds an array ('Arr'). No program, no conditions. -/
import Derived.Test.YtkoefhbmkmepaaaMem
import Derived.Laws.Rows
import Derived.Deep.MidRow
namespace Go.Proofs.Ytkoefhbmkmepaaa
open Go.RowKit

/-- block g is an array's cells and no more -/
def Arr {α : Type} (f : α → Value) (w : World) (g : Nat) (T : TypeId) (xs : List α) : Prop := w.heap[g]? = some (.cells (xs.map f).toArray T (0, 0))
section
variable {α : Type} {f : α → Value} {w w' : World} {g : Nat} {T : TypeId} {xs : List α}
theorem Arr.lt (h : Arr f w g T xs) : g < w.heap.size := by
  rcases Nat.lt_or_ge g w.heap.size with hlt | hge
  · exact hlt
  · unfold Arr at h; rw [Array.getElem?_eq_none hge] at h; cases h
theorem Arr.at_ (h : Arr f w g T xs) {k : Nat} {u : α} (hk : xs[k]? = some u) : w.cell? ⟨g, k, none⟩ = some (f u) := by
  rw [cell_of_row w g k _ T (0, 0) h]
  simp [hk]
theorem Arr.cell (h : Arr f w g T xs) {k : Nat} (hk : k < xs.length) : w.cell? ⟨g, k, none⟩ = some (f xs[k]) := h.at_ (List.getElem?_eq_getElem hk)
theorem Arr.cellD (h : Arr f w g T xs) {k : Nat} (hk : k < xs.length) (d : α) : w.cell? ⟨g, k, none⟩ = some (f (xs.getD k d)) := h.at_ (by simp [List.getD, List.getElem?_eq_getElem hk])
theorem Arr.frozen (h : Arr f w g T xs) (k : Nat) : w.frozen? ⟨g, k, none⟩ = false := frozen_of_row w g k _ T h
theorem Arr.new (f : α → Value) (w : World) (T : TypeId) (xs : List α) : Arr f (w.alloc (.cells (xs.map f).toArray T)) w.heap.size T xs := heap_alloc_new w _
theorem Arr.at_size (f : α → Value) {w : World} (T : TypeId) (xs : List α) {k : Nat} (h : w.heap.size = k) : Arr f (w.alloc (.cells (xs.map f).toArray T)) k T xs := by subst h; exact Arr.new f w T xs
theorem Arr.drew (h : Arr f w g T xs) : Arr f w.drew g T xs := h
theorem Arr.drewN (h : Arr f w g T xs) (k : Nat) : Arr f (w.drewN k) g T xs := h
theorem Arr.alloc (h : Arr f w g T xs) (o : Obj) : Arr f (w.alloc o) g T xs := (Below.heap_alloc w o g h.lt).trans h
theorem Arr.set_ (h : Arr f w g T xs) (k : Nat) (u : α) : Arr f (w.setCell ⟨g, k, none⟩ (f u)) g T (xs.set k u) := by
  unfold Arr at h ⊢
  rw [heap_setCell_same w g k _ T (f u) h]
  congr 2
  apply Array.ext'
  simp [List.map_set]
theorem Arr.far (h : Arr f w g T xs) {p : Addr} (hp : g ≠ p.block) (u : Value) : Arr f (w.setCell p u) g T xs := (Below.heap_setCell w p u g hp).trans h
theorem Arr.below {B : Nat} (h : Arr f w g T xs) (hb : Below B w w') (hg : g < B) : Arr f w' g T xs := (hb.block g hg).trans h
theorem Arr.grown {row : Option Nat} (h : Arr f w g T xs) (hb : w.grownBy w' row) (hg : some g ≠ row) : Arr f w' g T xs := (hb.block g h.lt hg).trans h
theorem Arr.cast {ys : List α} (h : Arr f w g T xs) (e : xs = ys) : Arr f w g T ys := e ▸ h
theorem Arr.range (h : Arr f w g T xs) (o n : Nat) : w.rangeAt g o (((xs.map f).drop o).take n) := fun j v hv => by
  rw [List.getElem?_take] at hv
  split at hv
  · rw [List.getElem?_drop, List.getElem?_map, Option.map_eq_some_iff] at hv
    obtain ⟨u, hu, rfl⟩ := hv
    exact h.at_ hu
  · cases hv
theorem Arr.whole (h : Arr f w g T xs) : w.rangeAt g 0 (xs.map f) := fun j v hv => by
  rw [List.getElem?_map, Option.map_eq_some_iff] at hv
  obtain ⟨u, hu, rfl⟩ := hv
  rw [Nat.zero_add]; exact h.at_ hu
theorem Arr.there (h : Arr f w g T xs) {o n : Nat} (hn : o + n ≤ xs.length) : w.there g o n := fun j hj => ⟨by rw [h.cell (k := o + j) (by omega)]; rfl, h.frozen _⟩
/-- an array that is read as a slice from a place on -/
theorem Arr.rd (h : Arr f w g T xs) (o : Nat) : Rd f w (g + 1) (some ⟨g, o, none⟩) (xs.drop o) := fun _ => ⟨g, o, rfl, by omega, fun j u hu => by
  rw [List.getElem?_drop] at hu
  exact h.at_ hu⟩
end
/-- an array as a value -/
def arrV {α : Type} (f : α → Value) (xs : List α) : Value := .agg (xs.map f).toArray
theorem arrV_mk {α : Type} (f : α → Value) (xs : List α) : arrV f xs = .agg (xs.map f).toArray := rfl
theorem Below.mono' {B B' : Nat} {w w' : World} (h : Below B' w w') (hB : B ≤ B') : Below B w w' := h.mono hB

theorem arr_setCells {α : Type} {f : α → Value} {g : Nat} {T : TypeId} : ∀ (ys : List α) (pre old : List α) (w : World), old.length = ys.length → Arr f w g T (pre ++ old) → Arr f (w.setCells g pre.length (ys.map f)) g T (pre ++ ys) ∧ w.grownBy (w.setCells g pre.length (ys.map f)) (some g)
  | [], pre, [], w, _, h => ⟨h, World.grownBy.refl _ _⟩
  | y :: ys, pre, x :: old, w, hl, h => by
    have h1 := h.set_ pre.length y
    have e : (pre ++ x :: old).set pre.length y = (pre ++ [y]) ++ old := by
      rw [List.set_append]; simp
    rw [e] at h1
    have ih := arr_setCells ys (pre ++ [y]) old _ (by simpa using hl) h1
    rw [List.length_append, List.length_singleton] at ih
    simp only [List.map_cons]
    rw [World.setCells]
    refine ⟨ih.1.cast (by simp), ?_⟩
    have hg : w.grownBy (w.setCell ⟨g, pre.length, none⟩ (f y)) (some g) := ⟨rfl, rfl, rfl, by rw [World.size_setCell]; exact Nat.le_refl _, fun k _ hk => Below.heap_setCell w ⟨g, pre.length, none⟩ (f y) k (fun e => hk (by rw [e]))⟩
    exact grownBy_trans hg ih.2 (fun _ e => .inl e)
/-- a whole array is stored over another one -/
theorem wpList_store_arr {P : Program} {α : Type} {f : α → Value} {ops : Array Oper} {rest : List Oper} {op : Oper} {a : Act} {w : World} {Q : Exit → Act → World → Prop} (hgd : op.guard = none) (ty : TypeId) (x y : Operand) (ho : op.op = .store ty x y)
    (g : Nat) (hx : a.eval x = .pointer (some ⟨g, 0, none⟩)) (ys : List α) (hy : a.eval y = .agg (ys.map f).toArray) (T : TypeId) (xs : List α) (hA : Arr f w g T xs) (hl : xs.length = ys.length)
    (hi : (P.info? ty).map (·.size) = some ys.length) (h1 : ∀ u, (f u).oneCell' = true)
    (h : ∀ w', Arr f w' g T ys → w.grownBy w' (some g) → wpList P ops Q rest (a.put op.dst undef) w') : wpList P ops Q (op :: rest) a w := by
  obtain ⟨h2, h3⟩ := arr_setCells (f := f) ys [] xs w hl hA
  refine wpList_store_mid hgd ty x y ho g 0 (ys.map f).toArray hx hy ?_ ?_ ?_ ?_
  · exact hA.there (by simp [hl])
  · rw [hi]; simp
  · exact all_oneCell_toArray (fun v hv => by obtain ⟨u, _, rfl⟩ := List.mem_map.1 hv; exact h1 u)
  · simp only
    exact h _ h2 h3
/-- a whole array is loaded -/
theorem wpList_load_arr {P : Program} {α : Type} {f : α → Value} {ops : Array Oper} {rest : List Oper} {op : Oper} {a : Act} {w : World} {Q : Exit → Act → World → Prop} (hgd : op.guard = none) (ty : TypeId) (x : Operand) (ho : op.op = .load ty x)
    (g : Nat) (hx : a.eval x = .pointer (some ⟨g, 0, none⟩)) (T : TypeId) (xs : List α) (hA : Arr f w g T xs) (d : TypeDesc)
    (hu : P.underlying ty = some d) (hd : d.isRow = true) (hi : (P.info? ty).map (·.size) = some xs.length)
    (h : wpList P ops Q rest (a.put op.dst (.agg (xs.map f).toArray)) w) : wpList P ops Q (op :: rest) a w :=
  wpList_load_mid hgd ty x ho g 0 hx (xs.map f) d hA.whole hu hd (by rw [hi, List.length_map]) h
/-- two results: an array in its cell, and a slot -/
theorem results_arr_tmp {P : Program} {α : Type} {f : α → Value} {fn : Func} {p u : Tmp} {ty : TypeId} (h : fn.results = #[.cell p ty, .tmp u]) (tmps : Array Value) (w : World) (g : Nat) (T : TypeId) (xs : List α) (d : TypeDesc) (v : Value)
    (hp : tmps.getD p undef = .pointer (some ⟨g, 0, none⟩)) (hv : tmps.getD u undef = v) (hA : Arr f w g T xs) (hu : P.underlying ty = some d) (hd : d.isRow = true) (hi : (P.info? ty).map (·.size) = some xs.length) :
    (results fn tmps).run P w = .ok (.tuple #[.agg (xs.map f).toArray, v]) w := by
  subst hv
  have hp' : tmps[p]?.getD undef = .pointer (some ⟨g, 0, none⟩) := by simpa using hp
  have hl := run_loadVar_mid (P := P) w g 0 ty (xs.map f) d hA.whole hu hd (by rw [hi, List.length_map])
  simp [results, h, hp', asAddr, hl]
/-- one result: an array in its cell -/
theorem results_arr {P : Program} {α : Type} {f : α → Value} {fn : Func} {p : Tmp} {ty : TypeId} (h : fn.results = #[.cell p ty]) (tmps : Array Value) (w : World) (g : Nat) (T : TypeId) (xs : List α) (d : TypeDesc)
    (hp : tmps.getD p undef = .pointer (some ⟨g, 0, none⟩)) (hA : Arr f w g T xs) (hu : P.underlying ty = some d) (hd : d.isRow = true) (hi : (P.info? ty).map (·.size) = some xs.length) :
    (results fn tmps).run P w = .ok (.agg (xs.map f).toArray) w := by
  have hp' : tmps[p]?.getD undef = .pointer (some ⟨g, 0, none⟩) := by simpa using hp
  have hl := run_loadVar_mid (P := P) w g 0 ty (xs.map f) d hA.whole hu hd (by rw [hi, List.length_map])
  simp [results, h, hp', asAddr, hl]
/-- an int as a cell -/
def cI (z : Int) : Value := .int .i64 z
theorem cI_one (z : Int) : (cI z).oneCell' = true := rfl
theorem b8_one' (x : BitVec 8) : (b8 x).oneCell' = true := rfl
end Go.Proofs.Ytkoefhbmkmepaaa
