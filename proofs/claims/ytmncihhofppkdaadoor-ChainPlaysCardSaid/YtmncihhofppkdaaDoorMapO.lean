/- A map keyed by int whose elements are any values: what it reads as is the list of its entries, by rising keys. -/
import Derived.Test.YtmncihhofppkdaaDoorBase
import Derived.Maps.OwnSet
import Derived.Maps.RangeWalk
import Derived.Maps.Ext
import Derived.Lib.SlMapFilter
namespace Go.Proofs.YtmncihhofppkdaaDoor
open Go.RowKit Go.Maps
set_option linter.unusedVariables false
set_option linter.unusedSimpArgs false

theorem intKey : Keyed Tryd.prog 3 := int_keyed Tryd.underlying3
/-- an element is a value of 34 cells -/
def onceB : Value → Bool
  | .agg cs => cs.size == 34 && cs.all (·.oneCell')
  | _ => false
def anyE (v : Value) : Option (DataW Value × List MemPlace) := if onceB v then some (.held v, []) else none
theorem anyE_mk {v : Value} (h : onceB v = true) : anyE v = some (.held v, []) := if_pos h
theorem anyE_inv {v : Value} {y : DataW Value × List MemPlace} (h : anyE v = some y) : onceB v = true ∧ y = (.held v, []) := by
  unfold anyE at h
  split at h
  · cases h; exact ⟨by assumption, rfl⟩
  · cases h
theorem onceB_inv {v : Value} (h : onceB v = true) : ∃ cs : List Value, v = .agg cs.toArray ∧ cs.length = 34 ∧ ∀ u ∈ cs, u.oneCell' = true := by
  unfold onceB at h
  split at h
  · rename_i cs
    simp only [Bool.and_eq_true, beq_iff_eq] at h
    refine ⟨cs.toList, by simp, by simpa using h.1, fun u hu => ?_⟩
    have := h.2
    rw [← Array.all_toList] at this
    exact List.all_eq_true.1 this u hu
  · cases h
theorem onceB_mk {cs : List Value} (hl : cs.length = 34) (h1 : ∀ u ∈ cs, u.oneCell' = true) : onceB (.agg cs.toArray) = true := by
  unfold onceB
  simp only [Bool.and_eq_true, beq_iff_eq]
  exact ⟨by simpa using hl, by rw [← Array.all_toList]; exact List.all_eq_true.2 h1⟩
def mapD (l : List (Int × Value)) : DataW Value := .map (l.map fun p => (.int .i64 p.1, .held p.2))
def RiseK (l : List (Int × Value)) : Prop := l.Pairwise fun a b => a.1 < b.1
/-- block g is a map with these entries -/
def MapO (w : World) (g : Nat) (l : List (Int × Value)) : Prop := w.ownsMap Tryd.prog 3 anyE g l.length (mapD l)
section
variable {w w' : World} {g n : Nat} {l : List (Int × Value)}
theorem MapO.of (h : w.ownsMap Tryd.prog 3 anyE g n (mapD l)) : MapO w g l := by
  obtain ⟨es, clock, hb, F, hs, hD⟩ := h
  refine ⟨es, clock, hb, F, ?_, hD⟩
  unfold mapD at hD
  injection hD with hD
  have := congrArg List.length hD
  rw [List.length_map, length_sorted] at this
  simp at this
  omega
theorem MapO.cast {l' : List (Int × Value)} (h : MapO w g l) (e : l = l') : MapO w g l' := e ▸ h
theorem MapO.lt (h : MapO w g l) : g < w.heap.size := World.ownsMap.lt h
theorem MapO.kept {row : Option Nat} (h : MapO w g l) (hg : w.grownBy w' row) (hne : some g ≠ row) : MapO w' g l := World.ownsMap.kept h hg hne
theorem MapO.alloc (h : MapO w g l) (o : Obj) : MapO (w.alloc o) g l := World.ownsMap.alloc h o
theorem MapO.drew (h : MapO w g l) : MapO w.drew g l := h
theorem MapO.at_ (h : MapO w g l) (hb : w'.heap[g]? = w.heap[g]?) : MapO w' g l := by
  obtain ⟨es, clock, hb0, F, hs, hD⟩ := h
  exact ⟨es, clock, hb.trans hb0, F, hs, hD⟩
theorem MapO.below {B : Nat} (h : MapO w g l) (hb : Below B w w') (hg : g < B) : MapO w' g l := h.at_ (hb.block g hg)
theorem MapO.new (w : World) : MapO (w.alloc (.map #[] 0)) w.heap.size [] := World.ownsMap_made w _ _ _
theorem MapO.obj (h : MapO w g l) : ∃ es clock, w.heap[g]? = some (.map es clock) := by
  obtain ⟨es, clock, hb, -⟩ := h
  exact ⟨es, clock, hb⟩
theorem MapO.not_cells (h : MapO w g l) {b : Nat} {cs : Array Value} {T : TypeId} {fr : Nat × Nat} (hb : w.heap[b]? = some (.cells cs T fr)) : g ≠ b := by
  intro e; subst e
  obtain ⟨es, clock, h1⟩ := h.obj
  rw [h1] at hb; cases hb
end
theorem sameKey_int (a b : Int) : (Lit.int .i64 a).sameKey (.int .i64 b) = decide (a = b) := by simp [Lit.sameKey]
theorem mapD_has (l : List (Int × Value)) (k : Int) : Maps.has (mapD l) (.int .i64 k) = l.any fun p => decide (p.1 = k) := by
  unfold mapD
  rw [Maps.has_eq, List.any_map]
  congr 1; funext p
  exact sameKey_int _ _
theorem mapD_size (l : List (Int × Value)) : Maps.size (mapD l) = l.length := by unfold mapD; rw [Maps.size_eq, List.length_map]
theorem mapD_filter (l : List (Int × Value)) (k : Int) : (l.map fun p => ((Lit.int .i64 p.1 : Lit), (DataW.held p.2 : DataW Value))).filter (fun p => !p.1.sameKey (.int .i64 k)) = (l.filter fun p => !decide (p.1 = k)).map fun p => (.int .i64 p.1, .held p.2) := by
  rw [List.filter_map]
  congr 2
  funext p; show (!(Lit.int .i64 p.1).sameKey (.int .i64 k)) = _; rw [sameKey_int]
theorem mapD_del (l : List (Int × Value)) (k : Int) : (mapD l).del (.int .i64 k) = mapD (l.filter fun p => !decide (p.1 = k)) := by
  unfold mapD DataW.del
  simp only [mapD_filter]
theorem insert_last {H : Type} (x : Lit × DataW H) : ∀ (l : List (Lit × DataW H)), (∀ y ∈ l, x.1.before y.1 = false) → DataW.insert x l = l ++ [x]
  | [], _ => rfl
  | y :: r, h => by
    unfold DataW.insert
    rw [if_neg (by rw [h y (by simp)]; decide), insert_last x r (fun z hz => h z (by simp [hz]))]; rfl
theorem mapD_put (l : List (Int × Value)) (k : Int) (v : Value) (h : ∀ p ∈ l, p.1 < k) : (mapD l).put (.int .i64 k) (.held v) = mapD (l ++ [(k, v)]) := by
  unfold mapD DataW.put
  have e : l.filter (fun p => !decide (p.1 = k)) = l := List.filter_eq_self.2 (fun p hp => by have := h p hp; simp; omega)
  simp only [mapD_filter]
  rw [e, insert_last]
  · simp
  · intro y hy
    obtain ⟨p, hp, rfl⟩ := List.mem_map.1 hy
    have := h p hp
    simp [Lit.before]; omega
theorem mapD_at (l : List (Int × Value)) (k : Int) (v : Value) (hr : RiseK l) (h : (k, v) ∈ l) (zd : DataW Value) : (mapD l).atKey (.int .i64 k) zd = .held v := by
  unfold mapD DataW.atKey
  simp only [List.find?_map]
  induction l with
  | nil => cases h
  | cons p r ih =>
    obtain ⟨h1, h2⟩ := List.pairwise_cons.1 hr
    rw [List.find?_cons]
    simp only [Function.comp, sameKey_int]
    rcases List.mem_cons.1 h with e | h
    · subst e; simp
    · have : ¬ p.1 = k := by have := h1 _ h; simp at this; omega
      simp only [this, decide_false]
      exact ih h2 h
theorem mapD_none (l : List (Int × Value)) (k : Int) (h : ∀ p ∈ l, p.1 ≠ k) (zd : DataW Value) : (mapD l).atKey (.int .i64 k) zd = zd := by
  unfold mapD DataW.atKey
  simp only [List.find?_map]
  have : l.find? ((fun p : Lit × DataW Value => p.1.sameKey (.int .i64 k)) ∘ fun p => (.int .i64 p.1, .held p.2)) = none := by
    rw [List.find?_eq_none]
    intro p hp
    simp only [Function.comp, sameKey_int]
    have := h p hp
    simp [this]
  rw [this]; rfl
theorem keyI {a : Int} (h1 : -9223372036854775808 ≤ a) (h2 : a < 9223372036854775808) : keyOf Tryd.prog 3 (.int .i64 a) = some (.int .i64 a) := keyOf_int_mk Tryd.underlying3 (WalkArith.wf_i64 (by omega))
end Go.Proofs.YtmncihhofppkdaaDoor
