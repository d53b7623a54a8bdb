/- PLAIN LEMMAS: slices that are read ('Rd'), rows that the call owns ('Own'). No program, no conditions. -/
import Derived.Test.YtmncihhofppkdaaDoorBits
import Derived.Lib.Hide
import Derived.Maps.AppendAt
import Derived.Laws.OwnMore
import Derived.Deep.Draws
import Derived.Laws.BytesString
import Derived.Laws.CopyOwn
import Derived.Test.YtmncihhofppkdaaDoorRows
import Derived.WalkSpells
import Derived.WalkLawsBesides
import Derived.Deep.QuietTactic
import Derived.Deep.RegionHeld3
import Derived.BigQuiet
import Derived.Deep.RegionLaw
import Derived.Deep.RegionWith
import Derived.WalkKit
import Derived.ProofKit
import Derived.OpenShut
import Derived.ShutString
import Derived.ChangeOld
import Derived.Below
import Derived.Lib.SmallJoins
import Derived.Laws.Tables
import Derived.Laws.Rows
import Derived.Deep.MidRow
import Derived.Stop.BytesEq
import Derived.TacticsIn
import Derived.RangeFuncCalls
import Derived.RangeFuncBox
import Derived.OrdersIn
import Derived.OwnWalkIn
namespace Go.Proofs.YtmncihhofppkdaaDoor
open Go.RowKit

theorem below_step {w W w' : World} (h : Below w.heap.size w W) (hb : Below W.heap.size W w') : Below w.heap.size w w' := h.trans (hb.mono h.size)
theorem below_drewN {B : Nat} {a w : World} (h : Below B a w) (n : Nat) : Below B a (w.drewN n) := ⟨h.os, h.tape, h.output, h.size, h.block⟩
/-- a byte as a cell -/
def b8 (x : BitVec 8) : Value := .int .u8 (bv x)
theorem b8_eq (x : BitVec 8) : b8 x = .int .u8 (bv x) := rfl

/-- a slice at address A reads as xs, below block B -/
def Rd {α : Type} (f : α → Value) (w : World) (B : Nat) (A : Option Addr) (xs : List α) : Prop :=
  0 < xs.length → ∃ b off, A = some ⟨b, off, none⟩ ∧ b < B ∧ ∀ j u, xs[j]? = some u → w.cell? ⟨b, off + j, none⟩ = some (f u)

section
variable {α : Type} {f : α → Value} {w w' : World} {B B' : Nat} {A : Option Addr} {xs : List α}
theorem Rd.nil_ (f : α → Value) (w : World) (B : Nat) (A : Option Addr) : Rd f w B A [] := fun h => absurd h (by simp)
theorem Rd.at_ (h : Rd f w B A xs) {k : Nat} (hk : k < xs.length) : ∃ b off, A = some ⟨b, off, none⟩ ∧ b < B ∧ w.cell? ⟨b, off + k, none⟩ = some (f xs[k]) := by
  obtain ⟨b, off, e, hb, hc⟩ := h (by omega)
  exact ⟨b, off, e, hb, hc k _ (List.getElem?_eq_getElem hk)⟩
theorem Rd.keep (h : Rd f w B A xs) (hk : ∀ p : Addr, p.block < B → w'.cell? p = w.cell? p) : Rd f w' B A xs := fun hn => by
  obtain ⟨b, off, e, hb, hc⟩ := h hn
  exact ⟨b, off, e, hb, fun j u hu => (hk _ hb).trans (hc j u hu)⟩
theorem Rd.more (h : Rd f w B A xs) (hB : B ≤ B') : Rd f w B' A xs := fun hn => by
  obtain ⟨b, off, e, hb, hc⟩ := h hn
  exact ⟨b, off, e, by omega, hc⟩
theorem Rd.below (h : Rd f w B A xs) (hb : Below B w w') : Rd f w' B A xs := h.keep fun _ hp => hb.cell hp
theorem Rd.drew (h : Rd f w B A xs) : Rd f w.drew B A xs := h
theorem Rd.drewN (h : Rd f w B A xs) (k : Nat) : Rd f (w.drewN k) B A xs := h
theorem Rd.alloc (h : Rd f w B A xs) (hB : B ≤ w.heap.size) (o : Obj) : Rd f (w.alloc o) B A xs := h.keep fun p hp => World.cell?_alloc_lt w o p (by omega)
theorem Rd.take (h : Rd f w B A xs) (k : Nat) : Rd f w B A (xs.take k) := fun hn => by
  rw [List.length_take] at hn
  obtain ⟨b, off, e, hb, hc⟩ := h (by omega)
  refine ⟨b, off, e, hb, fun j u hu => hc j u ?_⟩
  rw [List.getElem?_take] at hu
  split at hu
  · exact hu
  · cases hu
theorem Rd.drop (h : Rd f w B A xs) (k : Nat) : Rd f w B (A.map (·.add k)) (xs.drop k) := fun hn => by
  rw [List.length_drop] at hn
  obtain ⟨b, off, rfl, hb, hc⟩ := h (by omega)
  refine ⟨b, off + k, by simp [Addr.add_lit], hb, fun j u hu => ?_⟩
  rw [List.getElem?_drop] at hu
  rw [Nat.add_assoc]
  exact hc _ u hu
theorem Rd.cells (h : Rd f w B A xs) {a : Addr} (ha : A = some a) : ∀ j u, (xs.map f)[j]? = some u → w.cell? (a.add j) = some u := by
  intro j u hu
  rw [List.getElem?_map, Option.map_eq_some_iff] at hu
  obtain ⟨x, hx, rfl⟩ := hu
  have hl : j < xs.length := by
    rcases Nat.lt_or_ge j xs.length with h | h
    · exact h
    · rw [List.getElem?_eq_none h] at hx; cases hx
  obtain ⟨b, off, e, hb, hc⟩ := h (by omega)
  rw [ha] at e
  injection e with e
  subst e
  rw [Addr.add_lit]
  exact hc j x hx
end

/-- v owns a row of just the cells of xs, in a block from B on; E: the element type; one cell an element -/
def Own {α : Type} (f : α → Value) (w : World) (B : Nat) (E : TypeId) (v : Value) (xs : List α) : Prop := w.ownsRow B E 1 v xs.length (xs.map f)

section
variable {α : Type} {f : α → Value} {w w' : World} {B : Nat} {E : TypeId} {v : Value} {xs : List α}
theorem Own.shape (h : Own f w B E v xs) : ∃ A c, v = .slice A xs.length c ∧ Rd f w w.heap.size A xs ∧ (A = none → c = 0) ∧ xs.length ≤ c ∧ c ≤ maxLen := by
  rcases h.2 with ⟨rfl, h0⟩ | ⟨g, cap, cur, rfl, hb, hg, hn, hm, hs, ht⟩
  · have e : xs = [] := List.eq_nil_of_length_eq_zero h0
    subst e
    exact ⟨none, 0, rfl, Rd.nil_ _ _ _ _, fun _ => rfl, Nat.le_refl _, by simp [maxLen]⟩
  · refine ⟨_, cap, rfl, fun hpos => ⟨g, 0, rfl, ?_, fun j u hu => ?_⟩, (fun e => by cases e), hn, hm⟩
    · rcases Nat.lt_or_ge g w.heap.size with hl | hl
      · exact hl
      · rw [Array.getElem?_eq_none hl] at hg; cases hg
    · rw [Nat.zero_add, cell_of_row w g j cur E (0, 0) hg]
      have h1 : (xs.map f)[j]? = some (f u) := by rw [List.getElem?_map, hu]; rfl
      rw [← ht, List.getElem?_take] at h1
      split at h1
      · simpa using h1
      · cases h1
theorem Own.form (h : Own f w B E v xs) (hn : 0 < xs.length) : ∃ g cap, v = .slice (some ⟨g, 0, none⟩) xs.length cap ∧ B ≤ g ∧ g < w.heap.size ∧ xs.length ≤ cap := by
  rcases h.2 with ⟨rfl, h0⟩ | ⟨g, cap, cur, rfl, hb, hg, hn', hm, hs, ht⟩
  · omega
  · refine ⟨g, cap, rfl, hb, ?_, hn'⟩
    rcases Nat.lt_or_ge g w.heap.size with hl | hl
    · exact hl
    · rw [Array.getElem?_eq_none hl] at hg; cases hg
theorem Own.form' {n : Nat} (h : Own f w B E v xs) (hn : xs.length = n) (hp : 0 < n) : ∃ g cap, v = .slice (some ⟨g, 0, none⟩) n cap ∧ B ≤ g ∧ g < w.heap.size ∧ n ≤ cap := by
  subst hn; exact h.form hp
theorem Own.shape' {n : Nat} (h : Own f w B E v xs) (hn : xs.length = n) : ∃ A c, v = .slice A n c ∧ Rd f w w.heap.size A xs ∧ (A = none → c = 0) ∧ n ≤ c ∧ c ≤ maxLen := by
  subst hn; exact h.shape
theorem Own.at_ {g cap n : Nat} (h : Own f w B E (.slice (some ⟨g, 0, none⟩) n cap) xs) {k : Nat} (hk : k < xs.length) :
    w.cell? ⟨g, k, none⟩ = some (f xs[k]) ∧ w.frozen? ⟨g, k, none⟩ = false := by
  have hn : n = xs.length := by
    rcases h.2 with ⟨e, _⟩ | ⟨g', cap', cur, e, _⟩ <;> simp at e
    omega
  subst hn
  refine ⟨?_, World.ownsRow.frozenAt h k⟩
  rw [World.ownsRow.cellAt h k (by omega), List.getElem?_map, List.getElem?_eq_getElem hk]
  rfl
theorem Own.set_ {g cap n : Nat} (h : Own f w B E (.slice (some ⟨g, 0, none⟩) n cap) xs) (k : Nat) (u : α) :
    Own f (w.setCell ⟨g, k, none⟩ (f u)) B E (.slice (some ⟨g, 0, none⟩) n cap) (xs.set k u) ∧ w.grownBy (w.setCell ⟨g, k, none⟩ (f u)) (some g) := by
  have hn : n = xs.length := by
    rcases h.2 with ⟨e, _⟩ | ⟨g', cap', cur, e, _⟩ <;> simp at e
    omega
  subst hn
  have := World.ownsRow.stored h k (f u)
  refine ⟨?_, this.2⟩
  unfold Own
  rw [List.length_set, List.map_set]
  exact this.1
theorem Own.alloc (h : Own f w B E v xs) (o : Obj) : Own f (w.alloc o) B E v xs := World.ownsRow.alloc h o
theorem Own.drew (h : Own f w B E v xs) : Own f w.drew B E v xs := h
theorem Own.drewN (h : Own f w B E v xs) (k : Nat) : Own f (w.drewN k) B E v xs := h
theorem Own.lt (h : Own f w B E v xs) : ∀ k, v.ownBlock = some k → B ≤ k ∧ k < w.heap.size := World.ownsRow.lt h
theorem Own.kept (h : Own f w B E v xs) {row : Option Nat} (hg : w.grownBy w' row) (hne : v.ownBlock = none ∨ v.ownBlock ≠ row) : Own f w' B E v xs := World.ownsRow.kept h hg hne
theorem Own.below (h : Own f w B E v xs) {C : Nat} (hb : Below C w w') (hC : w.heap.size ≤ C) : Own f w' B E v xs :=
  Own.kept h (row := none) ⟨hb.os, hb.tape, hb.output, hb.size, fun k hk _ => hb.block k (by omega)⟩ (by
    cases hv : v.ownBlock with
    | none => exact .inl rfl
    | some k => exact .inr (by simp))
theorem Own.less (h : Own f w B E v xs) {B' : Nat} (hB : B' ≤ B) : Own f w B' E v xs := by
  refine ⟨h.1, ?_⟩
  rcases h.2 with h | ⟨g, cap, cur, e, hb, hg, hr⟩
  · exact .inl h
  · exact .inr ⟨g, cap, cur, e, by omega, hg, hr⟩
theorem Own.nil_ (f : α → Value) (w : World) (B : Nat) (E : TypeId) : Own f w B E (.slice none 0 0) [] := World.ownsRow_nil w B E 1
theorem Own.lit (f : α → Value) (w : World) (B : Nat) (E : TypeId) (xs : List α) (hb : B ≤ w.heap.size) (hm : xs.length ≤ maxLen) :
    Own f (w.alloc (.cells (xs.map f).toArray E)) B E (.slice (some ⟨w.heap.size, 0, none⟩) xs.length xs.length) xs := by
  have := World.ownsRow_lit (base := B) (e := E) (size := 1) w (xs.map f).toArray xs.length hb hm (by simp)
  simpa [Own] using this
theorem Own.cast {ys : List α} (h : Own f w B E v xs) (e : xs = ys) : Own f w B E v ys := e ▸ h
end

/-- what an append leaves: nothing has turned · the same row, written in place · a new row -/
def Grew (w w' : World) (v v' : Value) : Prop :=
  (v' = v ∧ w' = w) ∨ (∃ g n n' c, v = .slice (some ⟨g, 0, none⟩) n c ∧ v' = .slice (some ⟨g, 0, none⟩) n' c ∧ w.grownBy w' (some g)) ∨ (v'.ownBlock = some w.heap.size ∧ w.grownBy w' none)
theorem grownBy_any {w w' : World} (h : w.grownBy w' none) (row : Option Nat) : w.grownBy w' row := ⟨h.os, h.tape, h.output, h.size, fun k hk _ => h.block k hk (by simp)⟩
theorem Grew.by_ {w w' : World} {v v' : Value} (h : Grew w w' v v') : w.grownBy w' v.ownBlock := by
  rcases h with ⟨_, rfl⟩ | ⟨g, n, n', c, rfl, rfl, hg⟩ | ⟨_, hg⟩
  · exact World.grownBy.refl _ _
  · exact hg
  · exact grownBy_any hg _
theorem Grew.at_ {w w' : World} {v v' : Value} (h : Grew w w' v v') : v'.ownBlock = v.ownBlock ∨ v'.ownBlock = some w.heap.size := by
  rcases h with ⟨rfl, _⟩ | ⟨g, n, n', c, rfl, rfl, hg⟩ | ⟨h, hg⟩
  · exact .inl rfl
  · exact .inl rfl
  · exact .inr h
theorem Grew.size {w w' : World} {v v' : Value} (h : Grew w w' v v') : w.heap.size ≤ w'.heap.size := h.by_.size
theorem Grew.bel {α : Type} {f : α → Value} {w w' : World} {v v' : Value} {base E : Nat} {xs : List α} (h : Grew w w' v v') (hown : Own f w base E v xs) (hbase : base ≤ w.heap.size) {C : Nat} {w0 : World} (hC : C ≤ base) (hb : Below C w0 w) : Below C w0 w' :=
  hb.grown h.by_ (by omega) (fun k hk => by have := (hown.lt k hk).1; omega)

section
variable {α : Type} {f : α → Value} {P : Program} {w : World}
/-- append of a slice that is read onto a row that the call owns -/
theorem run_append_grew (hf : ∀ x, (f x).oneCell' = true) (base : Nat) (t ty e : TypeId) (i : TypeInfo) (z : Value) (bytes : Nat) (ht : P.underlying t = some (.slice e)) (hi : P.info? e = some i) (hz : i.zero = some z)
    (hsize : i.size = 1) (hby : i.bytes = bytes) (hzs : z.cells.size = 1)
    (v : Value) (xs : List α) (hown : Own f w base e v xs)
    (B : Nat) (A : Option Addr) (c : Nat) (ys : List α) (hr : Rd f w B A ys)
    (h63 : xs.length + ys.length ≤ maxLen) (hbytes : (xs.length + ys.length) * bytes ≤ 140737488355328) (hbase : base ≤ w.heap.size) :
    ∃ v' w', (Builtin.append_ #[t, t] ty #[v, .slice A ys.length c]).run P w = .ok v' w' ∧ Own f w' base e v' (xs ++ ys) ∧ Grew w w' v v' := by
  have hnil : ys = [] → (Builtin.append_ #[t, t] ty #[v, .slice none ys.length c]).run P w = .ok v w := by
    rintro rfl
    rcases hown.2 with ⟨rfl, _⟩ | ⟨g, cap, cur, rfl, _, _, hnc, _⟩
    · simp [Builtin.append_, run_underlying ht, sizeOf, typeInfo, hi, Builtin.lenOf, Builtin.firstCells]
    · simp [Builtin.append_, run_underlying ht, sizeOf, typeInfo, hi, Builtin.lenOf, Builtin.firstCells, hnc, storeCells]
  rcases A with _ | ad
  · have hm : ys = [] := by
      rcases Nat.eq_zero_or_pos ys.length with h0 | h0
      · exact List.eq_nil_of_length_eq_zero h0
      · obtain ⟨b, off, h, _⟩ := hr h0
        cases h
    exact ⟨v, w, hnil hm, by subst hm; simpa using hown, .inl ⟨rfl, rfl⟩⟩
  have hcells := hr.cells rfl
  have h1 : ∀ u ∈ ys.map f, u.oneCell' = true := by intro u hu; obtain ⟨x, _, rfl⟩ := List.mem_map.1 hu; exact hf x
  have hsmall : xs.length + ys.length ≤ 9223372036854775807 := by simp only [maxLen] at h63; omega
  have grown : ∀ (old : Nat), old < xs.length + ys.length →
      Own f (w.drew.alloc (.cells ((xs.map f).toArray ++ (ys.map f).toArray ++ Builtin.zeroCells z.cells (grownCap w (xs.length + ys.length) old e - (xs.length + ys.length))) e)) base e
        (.slice (some ⟨w.heap.size, 0, none⟩) (xs.length + ys.length) (grownCap w (xs.length + ys.length) old e)) (xs ++ ys) ∧
      w.grownBy (w.drew.alloc (.cells ((xs.map f).toArray ++ (ys.map f).toArray ++ Builtin.zeroCells z.cells (grownCap w (xs.length + ys.length) old e - (xs.length + ys.length))) e)) none := by
    intro old ho
    have hge := grownCap_ge w (xs.length + ys.length) old e
    have hcm := grownCap_le_maxLen w (xs.length + ys.length) old e h63
    refine ⟨⟨by simp, .inr ⟨w.heap.size, _, _, by rw [List.length_append], hbase, heap_alloc_new w.drew _, by rw [List.length_append]; exact hge, hcm, ?_, ?_⟩⟩, ⟨rfl, rfl, rfl, by simp, fun k hk _ => heap_alloc_old w.drew _ hk⟩⟩
    · simp only [Array.size_append, List.size_toArray, List.length_map, size_zeroCells, hzs]
      omega
    · simp only [Array.toList_append, Nat.mul_one]
      rw [← List.map_append, List.take_append_of_le_length (by simp)]
      exact List.take_of_length_le (by simp)
  rcases hown.2 with ⟨rfl, h0⟩ | ⟨g, cap, cur, rfl, hbg, hg, hnc, hcm, hcs, htake⟩
  · have hx : xs = [] := List.eq_nil_of_length_eq_zero h0
    subst hx
    rcases Nat.eq_zero_or_pos ys.length with hm | hm
    · have hy : ys = [] := List.eq_nil_of_length_eq_zero hm
      subst hy
      refine ⟨.slice none 0 0, w, ?_, Own.nil_ f w base e, .inl ⟨rfl, rfl⟩⟩
      simp [Builtin.append_, run_underlying ht, sizeOf, typeInfo, hi, Builtin.lenOf, Builtin.firstCells, loadCells, loadCellsFrom]
    · have hr := run_append_nil (P := P) w t ty e i z ht hi hz ad ys.length c (ys.map f) (by simp [hsize]) hcells hm (by simp at hsmall; omega) (by rw [hby]; have hb := hbytes; simp only [List.length_nil, Nat.zero_add] at hb; omega)
      have hgr := grown 0 (by simpa using hm)
      simp only [List.length_nil, Nat.zero_add, List.map_nil, List.nil_append, Array.empty_append] at hgr ⊢
      exact ⟨_, _, hr, hgr.1, .inr (.inr ⟨rfl, hgr.2⟩)⟩
  · by_cases hroom : xs.length + ys.length ≤ cap
    · obtain ⟨w', hr, ho, hgr⟩ := run_append_fits (P := P) w base t ty e i 1 ht hi hsize g xs.length cap (xs.map f) hown ad ys.length c (ys.map f) (by simp) hcells h1 hroom
      exact ⟨_, w', hr, by unfold Own; rw [List.length_append, List.map_append]; exact ho, .inr (.inl ⟨g, _, _, cap, rfl, rfl, hgr⟩)⟩
    · have holds : ∀ j u, (xs.map f)[j]? = some u → w.cell? ((⟨g, 0, none⟩ : Addr).add j) = some u := World.ownsRow.cells (g := g) hown rfl
      have hr := run_append_grow (P := P) w t ty e i z ht hi hz ⟨g, 0, none⟩ xs.length cap (xs.map f) (by simp [hsize]) holds ad ys.length c (ys.map f) (by simp [hsize]) hcells (by omega) (by omega) (by rw [hby]; exact growslice_fits (by omega) hbytes)
      have hgr := grown cap (by omega)
      exact ⟨_, _, hr, hgr.1, .inr (.inr ⟨rfl, hgr.2⟩)⟩
theorem wpList_append_rd {ops : Array Oper} {rest : List Oper} {o : Oper} {a : Act} {Q : Exit → Act → World → Prop} (hgd : o.guard = none) (s x : Operand) (t : TypeId)
    (ho : o.op = .call { callee := .builtin .append, args := #[s, x], argTypes := #[t, t] })
    (hf : ∀ x, (f x).oneCell' = true) (base : Nat) (e : TypeId) (i : TypeInfo) (z : Value) (bytes : Nat) (ht : P.underlying t = some (.slice e)) (hi : P.info? e = some i) (hz : i.zero = some z)
    (hsize : i.size = 1) (hby : i.bytes = bytes) (hzs : z.cells.size = 1)
    (v : Value) (xs : List α) (hs : a.eval s = v) (hown : Own f w base e v xs)
    (B : Nat) (A : Option Addr) (m c : Nat) (ys : List α) (hx : a.eval x = .slice A m c) (hm : m = ys.length) (hr : Rd f w B A ys)
    (h63 : xs.length + ys.length ≤ maxLen) (hbytes : (xs.length + ys.length) * bytes ≤ 140737488355328) (hbase : base ≤ w.heap.size)
    (h : ∀ v' w', Own f w' base e v' (xs ++ ys) → Grew w w' v v' → (∀ C w0, C ≤ base → Below C w0 w → Below C w0 w') → wpList P ops Q rest (a.put o.dst v') w') : wpList P ops Q (o :: rest) a w := by
  subst hm
  refine wpList_plain hgd fun K hK => ?_
  obtain ⟨v', w', hrun, h2, h3⟩ := run_append_grew (P := P) hf base t o.type e i z bytes ht hi hz hsize hby hzs v xs hown B A c ys hr h63 hbytes hbase
  unfold Oper.wp execOp
  simp only [ho, resolve, invoke, builtin, Sem.run_bind, Sem.run_pure, Result.andThen_ok, List.map_toArray, List.map_cons, List.map_nil, hs, hx, hrun]
  exact hK _ _ (h v' w' h2 h3 (fun C w0 hC hb => h3.bel hown hbase hC hb))
end
theorem b8_one (x : BitVec 8) : (b8 x).oneCell' = true := rfl

/-- the new cells of a list of elements, just laid -/
theorem Rd.new {α : Type} (f : α → Value) (w : World) (E : TypeId) (xs : List α) : Rd f (w.alloc (.cells (xs.map f).toArray E)) (w.heap.size + 1) (some ⟨w.heap.size, 0, none⟩) xs := fun _ =>
  ⟨w.heap.size, 0, rfl, by omega, fun j u hu => by
    rw [Nat.zero_add, cell_of_row _ w.heap.size j (xs.map f).toArray E (0, 0) (heap_alloc_new w _)]
    simp [hu]⟩
/-- the same as one step of a region that draws its order -/
theorem step_append_rd {α : Type} {f : α → Value} {P : Program} {w : World} {ops : Array Oper} {o : Oper} {a : Act} {K : Act → World → Prop} {Q : Exit → Act → World → Prop} {F : Prop} (hgd : o.guard = none) (s x : Operand) (t : TypeId)
    (ho : o.op = .call { callee := .builtin .append, args := #[s, x], argTypes := #[t, t] })
    (hf : ∀ x, (f x).oneCell' = true) (base : Nat) (e : TypeId) (i : TypeInfo) (z : Value) (bytes : Nat) (ht : P.underlying t = some (.slice e)) (hi : P.info? e = some i) (hz : i.zero = some z)
    (hsize : i.size = 1) (hby : i.bytes = bytes) (hzs : z.cells.size = 1)
    (v : Value) (xs : List α) (hs : a.eval s = v) (hown : Own f w base e v xs)
    (B : Nat) (A : Option Addr) (m c : Nat) (ys : List α) (hx : a.eval x = .slice A m c) (hm : m = ys.length) (hr : Rd f w B A ys)
    (h63 : xs.length + ys.length ≤ maxLen) (hbytes : (xs.length + ys.length) * bytes ≤ 140737488355328) (hbase : base ≤ w.heap.size)
    (h : ∀ v' w', Own f w' base e v' (xs ++ ys) → Grew w w' v v' → (∀ C w0, C ≤ base → Below C w0 w → Below C w0 w') → K (a.put o.dst v') w') :
    if Region.wanted o (yielded ops a.tmps) = true then Oper.wp P o a w K Q else F := by
  have hw : Region.wanted o (yielded ops a.tmps) = true := by simp [Region.wanted, hgd]
  rw [if_pos hw]
  subst hm
  obtain ⟨v', w', hrun, h2, h3⟩ := run_append_grew (P := P) hf base t o.type e i z bytes ht hi hz hsize hby hzs v xs hown B A c ys hr h63 hbytes hbase
  unfold Oper.wp execOp
  simp only [ho, resolve, invoke, builtin, Sem.run_bind, Sem.run_pure, Result.andThen_ok, List.map_toArray, List.map_cons, List.map_nil, hs, hx, hrun]
  exact h v' w' h2 h3 (fun C w0 hC hb => h3.bel hown hbase hC hb)
/-- a slice as a value -/
abbrev Sl := Option Addr × Nat × Nat
def sl (x : Sl) : Value := .slice x.1 x.2.1 x.2.2
theorem sl_one (x : Sl) : (sl x).oneCell' = true := rfl
theorem sl_mk (A : Option Addr) (n c : Nat) : sl (A, n, c) = .slice A n c := rfl
theorem Own.sl_ {α : Type} {f : α → Value} {w : World} {B E : Nat} {v : Value} {xs : List α} (h : Own f w B E v xs) : ∃ A c, v = sl (A, xs.length, c) ∧ Rd f w w.heap.size A xs ∧ (A = none → c = 0) ∧ xs.length ≤ c ∧ c ≤ maxLen := h.shape

/-- rows of unlike element types lie in unlike blocks -/
theorem Own.unlike {α β : Type} {f : α → Value} {f' : β → Value} {w : World} {B B' E E' : Nat} {v v' : Value} {xs : List α} {ys : List β} (h : Own f w B E v xs) (h' : Own f' w B' E' v' ys) (hE : E ≠ E') (b : Nat) (hb : v.ownBlock = some b) : v'.ownBlock ≠ some b := by
  intro hb'
  rcases h.2 with ⟨rfl, _⟩ | ⟨g, cap, cur, rfl, _, hg, _⟩
  · cases hb
  · rcases h'.2 with ⟨rfl, _⟩ | ⟨g', cap', cur', rfl, _, hg', _⟩
    · cases hb'
    · simp only [Value.ownBlock, Option.some.injEq] at hb hb'
      subst hb; subst hb'
      rw [hg] at hg'
      injection hg' with e
      injection e with _ e2
      exact hE e2
theorem Own.rd {α : Type} {f : α → Value} {w : World} {B E : Nat} {A : Option Addr} {n c : Nat} {xs : List α} (h : Own f w B E (.slice A n c) xs) : Rd f w w.heap.size A xs := by
  obtain ⟨A', c', e, hr, _⟩ := h.shape
  injection e with e1 e2 e3
  subst e1
  exact hr
theorem Own.len {α : Type} {f : α → Value} {w : World} {B E : Nat} {A : Option Addr} {n c : Nat} {xs : List α} (h : Own f w B E (.slice A n c) xs) : n = xs.length := by
  obtain ⟨A', c', e, hr, _⟩ := h.shape
  injection e with e1 e2 e3
theorem Rd.grown {α : Type} {f : α → Value} {w w' : World} {B : Nat} {A : Option Addr} {xs : List α} {row : Option Nat} (h : Rd f w B A xs) (hg : w.grownBy w' row) (hB : B ≤ w.heap.size) (hne : ∀ a : Addr, A = some a → some a.block ≠ row) : Rd f w' B A xs := fun hn => by
  obtain ⟨b, off, e, hb, hc⟩ := h hn
  exact ⟨b, off, e, hb, fun j u hu => (World.cell?_of_block (hg.block b (by omega) (hne _ e))).trans (hc j u hu)⟩
theorem grownBy_trans {a b c : World} {r s : Option Nat} (h : a.grownBy b r) (k : b.grownBy c s) (hs : ∀ g, s = some g → r = some g ∨ a.heap.size ≤ g) : a.grownBy c r :=
  ⟨k.os.trans h.os, k.tape.trans h.tape, k.output.trans h.output, Nat.le_trans h.size k.size, fun i hi hne =>
    (k.block i (Nat.lt_of_lt_of_le hi h.size) (fun e => by
      rcases hs i e.symm with h1 | h1
      · exact hne h1.symm
      · omega)).trans (h.block i hi hne)⟩
theorem Own.notBlock {α : Type} {f : α → Value} {w : World} {B E : Nat} {v : Value} {xs : List α} (h : Own f w B E v xs) {n : Nat} (hn : w.heap.size ≤ n) : v.ownBlock ≠ some n := fun e => by have := (h.lt n e).2; omega
theorem Own.kept' {α : Type} {f : α → Value} {w w' : World} {B E : Nat} {v : Value} {xs : List α} (h : Own f w B E v xs) {row : Option Nat} (hg : w.grownBy w' row) (hne : ∀ g, row = some g → v.ownBlock ≠ some g) : Own f w' B E v xs :=
  h.kept hg (by
    cases hv : v.ownBlock with
    | none => exact .inl rfl
    | some k => exact .inr (fun e => hne k e.symm hv))

theorem Own.short {α : Type} {f : α → Value} {w : World} {B E : Nat} {A : Option Addr} {m c : Nat} {ys : List α} (h : Own f w B E (.slice A m c) ys) (n : Nat) (hn : n ≤ m) : Own f w B E (.slice A n c) (ys.take n) := by
  have hm := h.len
  rcases h.2 with ⟨e, h0⟩ | ⟨g, cap, cur, e, hb, hg, hnc, hcm, hs, ht⟩
  · injection e with e1 e2 e3
    subst e1; subst e2; subst e3
    obtain rfl : n = 0 := by omega
    exact (Own.nil_ f w B E).cast (by simp)
  · injection e with e1 e2 e3
    subst e1; subst e3
    refine ⟨by simp, .inr ⟨g, c, cur, ?_, hb, hg, ?_, hcm, hs, ?_⟩⟩
    · rw [List.length_take, Nat.min_eq_left (by omega)]
    · rw [List.length_take]; omega
    · rw [List.map_take, ← ht, List.take_take, List.length_take]
      congr 1
      omega
end Go.Proofs.YtmncihhofppkdaaDoor

/- CONTRACTS: package burrownum: Same. -/
namespace Go.Proofs.YtmncihhofppkdaaDoor
open Go.RowKit

/-- a list of bytes as a string -/
def str (xs : List (BitVec 8)) : ByteArray := ⟨(xs.map fun b => UInt8.ofNat b.toNat).toArray⟩
theorem str_toList (xs : List (BitVec 8)) : (str xs).data.toList = xs.map fun b => UInt8.ofNat b.toNat := by simp [str]
theorem u8_inj {a b : BitVec 8} (h : UInt8.ofNat a.toNat = UInt8.ofNat b.toNat) : a = b := by
  have h1 := congrArg UInt8.toNat h
  have ha := a.isLt
  have hb := b.isLt
  apply BitVec.eq_of_toNat_eq
  simp only [UInt8.toNat_ofNat'] at h1
  omega
theorem map_inj' {α β : Type} (f : α → β) (hf : ∀ a b, f a = f b → a = b) : ∀ (xs ys : List α), xs.map f = ys.map f → xs = ys
  | [], [], _ => rfl
  | [], _ :: _, h => by cases h
  | _ :: _, [], h => by cases h
  | x :: xs, y :: ys, h => by
    simp only [List.map_cons, List.cons.injEq] at h
    rw [hf _ _ h.1, map_inj' f hf xs ys h.2]
theorem str_beq (xs ys : List (BitVec 8)) : ((str xs).data.toList == (str ys).data.toList) = (xs == ys) := by
  rw [Bool.eq_iff_iff, beq_iff_eq, beq_iff_eq, str_toList, str_toList]
  exact ⟨fun h => map_inj' _ (fun _ _ h => u8_inj h) _ _ h, fun h => by rw [h]⟩
theorem str_beq' (xs ys : List (BitVec 8)) : ((str xs).toList == (str ys).toList) = (xs == ys) := by
  rw [ByteArray.toList_eq, ByteArray.toList_eq]; exact str_beq xs ys
theorem str_eq (xs ys : List (BitVec 8)) (h : str xs = str ys) : xs = ys := by
  have := congrArg (fun s : ByteArray => s.data.toList) h
  have h2 := str_beq xs ys
  rw [show ((str xs).data.toList == (str ys).data.toList) = true from beq_iff_eq.2 this] at h2
  exact beq_iff_eq.1 h2.symm
theorem foldl_push : ∀ (xs : List (BitVec 8)) (s : ByteArray), (xs.map (fun b => bv b)).foldl (fun r n => r.push (UInt8.ofNat n.toNat)) s = ⟨s.data ++ (xs.map fun b => UInt8.ofNat b.toNat).toArray⟩
  | [], s => by simp
  | x :: xs, s => by
    rw [List.map_cons, List.foldl_cons, foldl_push xs]
    congr 1
    apply Array.ext'
    simp [ByteArray.push, bv_toNat]
theorem run_str {P : Program} {w : World} {B : Nat} {A : Option Addr} {xs : List (BitVec 8)} (h : Rd b8 w B A xs) (t s e : TypeId) (c : Nat)
    (ht : P.underlying t = some (.slice e)) (he : P.underlying e = some (.int .u8)) (hs : P.underlying s = some .string) :
    (convert t s (.slice A xs.length c)).run P w = .ok (.string (str xs)) w := by
  rw [run_convert_bytes_string w t s e A _ _ ht he hs]
  rcases A with _ | a
  · have hx : xs = [] := by
      rcases Nat.eq_zero_or_pos xs.length with h0 | h0
      · exact List.eq_nil_of_length_eq_zero h0
      · obtain ⟨b, off, e, _⟩ := h h0
        cases e
    subst hx
    rfl
  · have hl := run_loadCells_list (P := P) w a (xs.map b8) (h.cells rfl)
    rw [List.length_map] at hl
    have hb : xs.map b8 = (xs.map fun b => bv b).map (Value.int .u8) := by rw [List.map_map]; rfl
    rw [hb] at hl
    rw [run_bytesToString w a xs.length c (xs.map fun b => bv b) hl, foldl_push]
    congr 2
    simp [str]

set_option maxRecDepth 100000 in
theorem same_any {w : World} {B1 B2 : Nat} {A1 A2 : Option Addr} {xs ys : List (BitVec 8)} {n1 n2 : Nat} (c1 c2 : Nat) (h1 : Rd b8 w B1 A1 xs) (h2 : Rd b8 w B2 A2 ys) (hn1 : xs.length = n1) (hn2 : ys.length = n2) :
    Calls Tryd.prog 20 #[.slice A1 n1 c1, .slice A2 n2 c2] w fun e w' => e = .returned (.bool (xs == ys)) ∧ w = w' := by
  subst hn1; subst hn2
  have r1 := run_str (P := Tryd.prog) h1 30 9 5 c1 Tryd.underlying30 Tryd.underlying5 Tryd.underlying9
  have r2 := run_str (P := Tryd.prog) h2 30 9 5 c2 Tryd.underlying30 Tryd.underlying5 Tryd.underlying9
  have hs := str_beq' xs ys
  go_enter Tryd.func20, Tryd.ntmps20
  go_wp2
  go_ret
  exact ⟨rfl, rfl⟩
end Go.Proofs.YtmncihhofppkdaaDoor

/- PLAIN: a byte's type. The imports of the walks. -/
namespace Go.Proofs.YtmncihhofppkdaaDoor
open Go.RowKit
theorem infoU8 : (Tryd.prog.info? 5).map (fun i => (i.zero, i.size, i.bytes)) = some (some (.int .u8 0), 1, 1) := by kernel_rfl
end Go.Proofs.YtmncihhofppkdaaDoor

/- CONTRACTS: burrownum.Num, burrownum.Is: errors as numbers. -/
namespace Go.Proofs.YtmncihhofppkdaaDoor
open Go.RowKit

/-- an error by its number; 0: none -/
def errV (n : Nat) : Value := if n = 0 then .nilIface else .iface 60 (.int .i64 (n : Int))
theorem errV_zero : errV 0 = .nilIface := rfl
theorem errV_pos {n : Nat} (h : n ≠ 0) : errV n = .iface 60 (.int .i64 (n : Int)) := if_neg h

theorem assert_errno (n : Int) (w : World) : (Instr.typeAssert (.iface 60 (.int .i64 n)) 34 60 true).run Tryd.prog w = .ok (.tuple #[.int .i64 n, .bool true]) w := by kernel_rfl

set_option maxRecDepth 100000 in
theorem num_any (n : Nat) (w : World) : Calls Tryd.prog 19 #[errV n] w fun e w' => e = .returned (.int .i64 (n : Int)) ∧ w = w' := by
  by_cases h : n = 0
  · subst h
    rw [errV_zero]
    go_enter Tryd.func19, Tryd.ntmps19
    go_wp2
    go_ret
    exact ⟨rfl, rfl⟩
  · rw [errV_pos h]
    have h0 : ((n : Int) == 0) = false := by simp; omega
    have hne : (n = 0) = False := by simp [h]
    have hta := assert_errno (n : Int)
    clear h
    go_enter Tryd.func19, Tryd.ntmps19
    go_wp2
    go_ret
    exact ⟨rfl, rfl⟩

theorem is_any (n m : Nat) (w : World) : Calls Tryd.prog 22 #[errV n, .int .i64 (m : Int)] w fun e w' => e = .returned (.bool ((n : Int) == (m : Int))) ∧ w = w' := by
  go_enter Tryd.func22, Tryd.ntmps22
  go_wp2_with (go_at_call 19; refine (num_any _ _).mono ?_; rintro e w' ⟨rfl, rfl⟩)
  go_ret
  exact ⟨rfl, rfl⟩
end Go.Proofs.YtmncihhofppkdaaDoor

/- PLAIN LEMMAS: how an argument that came in is read. No conditions. -/
namespace Go.Proofs.YtmncihhofppkdaaDoor
open Go.ChangeShapes Go.WideShapes Go.ChangeAt Go.RowKit

theorem byte_of {a : Int} (h : (Lit.int .u8 a).wf = true) : ∃ x : BitVec 8, a = bv x :=
  ⟨BitVec.ofInt 8 a, by
    have hb := bounds_u8 h
    unfold bv; rw [BitVec.toNat_ofInt]; omega⟩
theorem word_of {a : Int} (h : (Lit.int .u32 a).wf = true) : ∃ x : BitVec 32, a = bv x :=
  ⟨BitVec.ofInt 32 a, by
    have hb := bounds_u32 h
    unfold bv; rw [BitVec.toNat_ofInt]; omega⟩
theorem bytes_of : ∀ (zs : List Int), (∀ n ∈ zs, (Lit.int .u8 n).wf = true) → ∃ xs : List (BitVec 8), zs = xs.map bv
  | [], _ => ⟨[], rfl⟩
  | z :: zs, h => by
    obtain ⟨x, hx⟩ := byte_of (h z (by simp))
    obtain ⟨xs, hxs⟩ := bytes_of zs (fun n hn => h n (by simp [hn]))
    exact ⟨x :: xs, by rw [hx, hxs]; rfl⟩
section
variable {H : Type} {enc : TypeId × Value → H} {P : Program} {w : World} {base : Nat} {spare : Nat → Bool} {held : Bool}
theorem lt_of_cell {w : World} {a : Addr} {v : Value} (h : w.cell? a = some v) : a.block < w.heap.size := by
  rcases Nat.lt_or_ge a.block w.heap.size with hl | hl
  · exact hl
  · simp [World.cell?, Array.getElem?_eq_none hl] at h
theorem open_row {t e : TypeId} {k : IntKind} {fuel : Nat} {x : DataW H × List MemPlace} {A : Option Addr} {n c : Nat} (ht : P.underlying t = some (.slice e)) (he : P.underlying e = some (.int k)) (hc : P.cellsOf e = 1)
    (h : DataW.trod enc P w base spare held fuel t (Value.slice A n c).cells.toList = some x) :
    ∃ zs : List Int, Rd (Value.int k) w w.heap.size A zs ∧ (∀ z ∈ zs, (Lit.int k z).wf = true) ∧ zs.length = n ∧ n ≤ c ∧ c ≤ maxLen := by
  rcases open_ints ht he hc h with ⟨hcs, _⟩ | ⟨a, l, cap, zs, hcs, _, hl, hm, hz, _, hcell, hwf⟩
  · simp [Value.cells] at hcs
    obtain ⟨rfl, rfl, rfl⟩ := hcs
    exact ⟨[], Rd.nil_ _ _ _ _, by simp, rfl, Nat.le_refl _, by simp [maxLen]⟩
  · simp [Value.cells] at hcs
    obtain ⟨rfl, rfl, rfl⟩ := hcs
    have hzl : n ≤ zs.length := by rw [hz]; split <;> omega
    refine ⟨zs.take n, fun hp => ?_, fun z hz => hwf z (List.mem_of_mem_take hz), by rw [List.length_take]; omega, hl, hm⟩
    rw [List.length_take] at hp
    have h0 := hcell 0 (by omega)
    obtain ⟨b, off, spot⟩ := a
    have hspot : spot = none := by simpa [Addr.add] using World.cell?_spot h0
    subst hspot
    refine ⟨b, off, rfl, lt_of_cell (a := ⟨b, off, none⟩) (by simpa [Addr.add] using h0), fun j u hu => ?_⟩
    rw [List.getElem?_take] at hu
    split at hu
    · have hj : j < zs.length := (List.getElem?_eq_some_iff.1 hu).1
      have := hcell j hj
      rw [Addr.add_lit] at this
      rw [this, List.getD, hu]; rfl
    · cases hu
theorem open_bytes {t e : TypeId} {fuel : Nat} {x : DataW H × List MemPlace} {A : Option Addr} {n c : Nat} (ht : P.underlying t = some (.slice e)) (he : P.underlying e = some (.int .u8)) (hc : P.cellsOf e = 1)
    (h : DataW.trod enc P w base spare held fuel t (Value.slice A n c).cells.toList = some x) :
    ∃ xs : List (BitVec 8), Rd b8 w w.heap.size A xs ∧ xs.length = n ∧ n ≤ c ∧ c ≤ maxLen := by
  obtain ⟨zs, hr, hwf, hl, hle, hm⟩ := open_row ht he hc h
  obtain ⟨xs, rfl⟩ := bytes_of zs hwf
  rw [List.length_map] at hl
  refine ⟨xs, fun hp => ?_, hl, hle, hm⟩
  obtain ⟨b, off, e1, hb, hcell⟩ := hr (by simpa using hp)
  exact ⟨b, off, e1, hb, fun j u hu => hcell j (bv u) (by rw [List.getElem?_map, hu]; rfl)⟩
end
end Go.Proofs.YtmncihhofppkdaaDoor

/- PLAIN LEMMAS: how a struct that came in is read: arrays of bytes, fields. No conditions. -/
namespace Go.Proofs.YtmncihhofppkdaaDoor
open Go.ChangeShapes Go.WideShapes Go.ChangeAt Go.RowKit
theorem list_bytes : ∀ (cs : List Value), (∀ i, i < cs.length → ∃ x : BitVec 8, cs[i]? = some (b8 x)) → ∃ xs : List (BitVec 8), cs = xs.map b8
  | [], _ => ⟨[], rfl⟩
  | c :: cs, h => by
    obtain ⟨x, hx⟩ := h 0 (by simp)
    simp at hx
    obtain ⟨xs, hxs⟩ := list_bytes cs (fun i hi => by simpa using h (i + 1) (by simp; omega))
    exact ⟨x :: xs, by rw [hx, hxs]; rfl⟩
section
variable {H : Type} {enc : TypeId × Value → H} {P : Program} {w : World} {base : Nat} {spare : Nat → Bool} {held : Bool}
/-- an array of bytes, opened -/
theorem open_barray {t e : TypeId} {n fuel : Nat} {cs : List Value} {x : DataW H × List MemPlace} (ht : P.underlying t = some (.array n e)) (he : P.underlying e = some (.int .u8)) (hc : P.cellsOf e = 1) (hct : P.cellsOf t = n)
    (h : DataW.trod enc P w base spare held fuel t cs = some x) : ∃ xs : List (BitVec 8), xs.length = n ∧ cs = xs.map b8 := by
  obtain ⟨ys, m, -, -, hl, hlen, hf⟩ := DataW.trod_array ht h
  rw [hct] at hl
  obtain ⟨xs, hxs⟩ := list_bytes cs (fun i hi => by
    have h1 := hf i (by omega)
    rw [hc] at h1
    obtain ⟨y, hy⟩ : ∃ y, ys[i]? = some y := ⟨ys[i], List.getElem?_eq_getElem (by omega)⟩
    rw [hy] at h1
    obtain ⟨z, hz, -, hwf⟩ := DataW.trod_int he h1
    obtain ⟨u, rfl⟩ := byte_of hwf
    refine ⟨u, ?_⟩
    have h2 := congrArg (fun l : List Value => l[0]?) hz
    simp only [List.getElem?_take, List.getElem?_drop] at h2
    simpa [b8] using h2)
  refine ⟨xs, ?_, hxs⟩
  rw [hxs, List.length_map] at hl
  exact hl
/-- one cell of a struct -/
theorem cell_of_take {cs : List Value} {o : Nat} {v : Value} (h : (cs.drop o).take 1 = [v]) : cs[o]? = some v := by
  have h2 := congrArg (fun l : List Value => l[0]?) h
  simpa [List.getElem?_take, List.getElem?_drop] using h2
theorem slice_cell {t e : TypeId} {fuel : Nat} {cs : List Value} {x : DataW H × List MemPlace} (ht : P.underlying t = some (.slice e)) (h : DataW.trod enc P w base spare held fuel t cs = some x) : ∃ A n c, cs = [.slice A n c] := by
  cases fuel with
  | zero => simp [DataW.trod] at h
  | succ m =>
    unfold DataW.trod at h
    rw [ht] at h
    split at h <;> simp_all
theorem field_of {t : TypeId} {fs : Array Field} {fuel : Nat} {cs : List Value} {x : DataW H × List MemPlace} (ht : P.underlying t = some (.struct fs)) (h : DataW.trod enc P w base spare held fuel t cs = some x) :
    ∃ n, cs.length = P.cellsOf t ∧ ∀ (i : Nat) (f : Field), fs[i]? = some f → ∃ y, DataW.trod enc P w base spare held n f.type ((cs.drop f.offset).take (P.cellsOf f.type)) = some y := by
  obtain ⟨xs, n, -, -, hl, hlen, hf⟩ := DataW.trod_struct ht h
  refine ⟨n, hl, fun i f hi => ?_⟩
  have h1 := hf i f hi
  have hlt : i < xs.length := by rw [hlen]; exact (Array.getElem?_eq_some_iff.1 hi).1
  rw [List.getElem?_eq_getElem hlt] at h1
  exact ⟨_, h1⟩
end
end Go.Proofs.YtmncihhofppkdaaDoor

/- PLAIN LEMMAS: how a key that came in is read; what is built from parts. No conditions. -/
namespace Go.Proofs.YtmncihhofppkdaaDoor
open Go.RowKit Go.ChangeShapes Go.WideShapes Go.ChangeAt
set_option linter.unusedVariables false
set_option linter.unusedSimpArgs false
set_option maxRecDepth 100000 in
theorem open_key {H : Type} {enc : TypeId × Value → H} {w : World} {base : Nat} {spare : Nat → Bool} {held : Bool} {r : Reach} {b0 : Nat} {v : Value} {d : DataW H} {p : List MemPlace} (hv : Value.okWide Tryd.prog w r b0 29 v)
    (h : DataW.Trod enc Tryd.prog w base spare held 29 v d p) : ∃ key : List (BitVec 8), key.length = 32 ∧ v = .agg (key.map b8).toArray := by
  have hv' : ∃ cs, v = .agg cs := by
    unfold Value.okWide at hv
    rw [Tryd.underlying29] at hv
    obtain ⟨cs, h, -⟩ := hv
    exact ⟨cs, h⟩
  obtain ⟨cs, rfl⟩ := hv'
  obtain ⟨fuel, hf⟩ := h
  obtain ⟨L, rfl⟩ : ∃ L : List Value, cs = L.toArray := ⟨cs.toList, by simp⟩
  obtain ⟨key, hk, hkc⟩ := open_barray (cs := L) Tryd.underlying29 Tryd.underlying5 (by kernel_rfl) (by kernel_rfl) hf
  exact ⟨key, hk, by rw [hkc]⟩
theorem list_of32 {α : Type} {xs : List α} (h : xs.length = 32) : ∃ x0 x1 x2 x3 x4 x5 x6 x7 x8 x9 x10 x11 x12 x13 x14 x15 x16 x17 x18 x19 x20 x21 x22 x23 x24 x25 x26 x27 x28 x29 x30 x31, xs = [x0, x1, x2, x3, x4, x5, x6, x7, x8, x9, x10, x11, x12, x13, x14, x15, x16, x17, x18, x19, x20, x21, x22, x23, x24, x25, x26, x27, x28, x29, x30, x31] :=
  match xs, h with
  | [x0, x1, x2, x3, x4, x5, x6, x7, x8, x9, x10, x11, x12, x13, x14, x15, x16, x17, x18, x19, x20, x21, x22, x23, x24, x25, x26, x27, x28, x29, x30, x31], _ => ⟨x0, x1, x2, x3, x4, x5, x6, x7, x8, x9, x10, x11, x12, x13, x14, x15, x16, x17, x18, x19, x20, x21, x22, x23, x24, x25, x26, x27, x28, x29, x30, x31, rfl⟩
/-- a value is built from parts -/
theorem wpList_bparts {P : Program} {ops : Array Oper} {rest : List Oper} {op : Oper} {a : Act} {w : World} {Q : Exit → Act → World → Prop} (hgd : op.guard = none) (t : TypeId) (parts : List (Nat × Operand)) (ho : op.op = .build t parts.toArray)
    (cells : Array Value) (vals : List (Nat × Value)) (hv : parts.map (fun x => (x.1, a.eval x.2)) = vals) (hb : P.built t vals = some cells) (h : wpList P ops Q rest (a.put op.dst (.agg cells)) w) : wpList P ops Q (op :: rest) a w := by
  refine wpList_plain hgd fun K hK => ?_
  have hr := run_build (P := P) w t vals.toArray cells hb
  rw [← hv, ← List.map_toArray] at hr
  unfold Oper.wp execOp
  simp only [ho]
  have e : (parts.toArray.map fun (i, x) => (i, a.eval x)) = parts.toArray.map (fun x => (x.1, a.eval x.2)) := rfl
  rw [e]
  simp only [Sem.run_bind, Sem.run_pure, Result.andThen_ok, hr, Oper.upon_value]
  exact hK _ _ h
end Go.Proofs.YtmncihhofppkdaaDoor

/- PLAIN LEMMAS: a block that is known whole and holds an array ('Arr'). No program, no conditions. -/
namespace Go.Proofs.YtmncihhofppkdaaDoor
open Go.RowKit

/-- block g is an array's cells and no more -/
def Arr {α : Type} (f : α → Value) (w : World) (g : Nat) (T : TypeId) (xs : List α) : Prop := w.heap[g]? = some (.cells (xs.map f).toArray T (0, 0))
section
variable {α : Type} {f : α → Value} {w w' : World} {g : Nat} {T : TypeId} {xs : List α}
theorem Arr.lt (h : Arr f w g T xs) : g < w.heap.size := by
  rcases Nat.lt_or_ge g w.heap.size with hlt | hge
  · exact hlt
  · unfold Arr at h; rw [Array.getElem?_eq_none hge] at h; cases h
theorem Arr.at_ (h : Arr f w g T xs) {k : Nat} {u : α} (hk : xs[k]? = some u) : w.cell? ⟨g, k, none⟩ = some (f u) := by
  rw [cell_of_row w g k _ T (0, 0) h]
  simp [hk]
theorem Arr.cell (h : Arr f w g T xs) {k : Nat} (hk : k < xs.length) : w.cell? ⟨g, k, none⟩ = some (f xs[k]) := h.at_ (List.getElem?_eq_getElem hk)
theorem Arr.cellD (h : Arr f w g T xs) {k : Nat} (hk : k < xs.length) (d : α) : w.cell? ⟨g, k, none⟩ = some (f (xs.getD k d)) := h.at_ (by simp [List.getD, List.getElem?_eq_getElem hk])
theorem Arr.frozen (h : Arr f w g T xs) (k : Nat) : w.frozen? ⟨g, k, none⟩ = false := frozen_of_row w g k _ T h
theorem Arr.new (f : α → Value) (w : World) (T : TypeId) (xs : List α) : Arr f (w.alloc (.cells (xs.map f).toArray T)) w.heap.size T xs := heap_alloc_new w _
theorem Arr.at_size (f : α → Value) {w : World} (T : TypeId) (xs : List α) {k : Nat} (h : w.heap.size = k) : Arr f (w.alloc (.cells (xs.map f).toArray T)) k T xs := by subst h; exact Arr.new f w T xs
theorem Arr.drew (h : Arr f w g T xs) : Arr f w.drew g T xs := h
theorem Arr.drewN (h : Arr f w g T xs) (k : Nat) : Arr f (w.drewN k) g T xs := h
theorem Arr.alloc (h : Arr f w g T xs) (o : Obj) : Arr f (w.alloc o) g T xs := (Below.heap_alloc w o g h.lt).trans h
theorem Arr.set_ (h : Arr f w g T xs) (k : Nat) (u : α) : Arr f (w.setCell ⟨g, k, none⟩ (f u)) g T (xs.set k u) := by
  unfold Arr at h ⊢
  rw [heap_setCell_same w g k _ T (f u) h]
  congr 2
  apply Array.ext'
  simp [List.map_set]
theorem Arr.far (h : Arr f w g T xs) {p : Addr} (hp : g ≠ p.block) (u : Value) : Arr f (w.setCell p u) g T xs := (Below.heap_setCell w p u g hp).trans h
theorem Arr.below {B : Nat} (h : Arr f w g T xs) (hb : Below B w w') (hg : g < B) : Arr f w' g T xs := (hb.block g hg).trans h
theorem Arr.grown {row : Option Nat} (h : Arr f w g T xs) (hb : w.grownBy w' row) (hg : some g ≠ row) : Arr f w' g T xs := (hb.block g h.lt hg).trans h
theorem Arr.cast {ys : List α} (h : Arr f w g T xs) (e : xs = ys) : Arr f w g T ys := e ▸ h
theorem Arr.range (h : Arr f w g T xs) (o n : Nat) : w.rangeAt g o (((xs.map f).drop o).take n) := fun j v hv => by
  rw [List.getElem?_take] at hv
  split at hv
  · rw [List.getElem?_drop, List.getElem?_map, Option.map_eq_some_iff] at hv
    obtain ⟨u, hu, rfl⟩ := hv
    exact h.at_ hu
  · cases hv
theorem Arr.whole (h : Arr f w g T xs) : w.rangeAt g 0 (xs.map f) := fun j v hv => by
  rw [List.getElem?_map, Option.map_eq_some_iff] at hv
  obtain ⟨u, hu, rfl⟩ := hv
  rw [Nat.zero_add]; exact h.at_ hu
theorem Arr.there (h : Arr f w g T xs) {o n : Nat} (hn : o + n ≤ xs.length) : w.there g o n := fun j hj => ⟨by rw [h.cell (k := o + j) (by omega)]; rfl, h.frozen _⟩
/-- an array that is read as a slice from a place on -/
theorem Arr.rd (h : Arr f w g T xs) (o : Nat) : Rd f w (g + 1) (some ⟨g, o, none⟩) (xs.drop o) := fun _ => ⟨g, o, rfl, by omega, fun j u hu => by
  rw [List.getElem?_drop] at hu
  exact h.at_ hu⟩
end
/-- an array as a value -/
def arrV {α : Type} (f : α → Value) (xs : List α) : Value := .agg (xs.map f).toArray
theorem arrV_mk {α : Type} (f : α → Value) (xs : List α) : arrV f xs = .agg (xs.map f).toArray := rfl
theorem Below.mono' {B B' : Nat} {w w' : World} (h : Below B' w w') (hB : B ≤ B') : Below B w w' := h.mono hB

theorem arr_setCells {α : Type} {f : α → Value} {g : Nat} {T : TypeId} : ∀ (ys : List α) (pre old : List α) (w : World), old.length = ys.length → Arr f w g T (pre ++ old) → Arr f (w.setCells g pre.length (ys.map f)) g T (pre ++ ys) ∧ w.grownBy (w.setCells g pre.length (ys.map f)) (some g)
  | [], pre, [], w, _, h => ⟨h, World.grownBy.refl _ _⟩
  | y :: ys, pre, x :: old, w, hl, h => by
    have h1 := h.set_ pre.length y
    have e : (pre ++ x :: old).set pre.length y = (pre ++ [y]) ++ old := by
      rw [List.set_append]; simp
    rw [e] at h1
    have ih := arr_setCells ys (pre ++ [y]) old _ (by simpa using hl) h1
    rw [List.length_append, List.length_singleton] at ih
    simp only [List.map_cons]
    rw [World.setCells]
    refine ⟨ih.1.cast (by simp), ?_⟩
    have hg : w.grownBy (w.setCell ⟨g, pre.length, none⟩ (f y)) (some g) := ⟨rfl, rfl, rfl, by rw [World.size_setCell]; exact Nat.le_refl _, fun k _ hk => Below.heap_setCell w ⟨g, pre.length, none⟩ (f y) k (fun e => hk (by rw [e]))⟩
    exact grownBy_trans hg ih.2 (fun _ e => .inl e)
/-- a whole array is stored over another one -/
theorem wpList_store_arr {P : Program} {α : Type} {f : α → Value} {ops : Array Oper} {rest : List Oper} {op : Oper} {a : Act} {w : World} {Q : Exit → Act → World → Prop} (hgd : op.guard = none) (ty : TypeId) (x y : Operand) (ho : op.op = .store ty x y)
    (g : Nat) (hx : a.eval x = .pointer (some ⟨g, 0, none⟩)) (ys : List α) (hy : a.eval y = .agg (ys.map f).toArray) (T : TypeId) (xs : List α) (hA : Arr f w g T xs) (hl : xs.length = ys.length)
    (hi : (P.info? ty).map (·.size) = some ys.length) (h1 : ∀ u, (f u).oneCell' = true)
    (h : ∀ w', Arr f w' g T ys → w.grownBy w' (some g) → wpList P ops Q rest (a.put op.dst undef) w') : wpList P ops Q (op :: rest) a w := by
  obtain ⟨h2, h3⟩ := arr_setCells (f := f) ys [] xs w hl hA
  refine wpList_store_mid hgd ty x y ho g 0 (ys.map f).toArray hx hy ?_ ?_ ?_ ?_
  · exact hA.there (by simp [hl])
  · rw [hi]; simp
  · exact all_oneCell_toArray (fun v hv => by obtain ⟨u, _, rfl⟩ := List.mem_map.1 hv; exact h1 u)
  · simp only
    exact h _ h2 h3
/-- a whole array is loaded -/
theorem wpList_load_arr {P : Program} {α : Type} {f : α → Value} {ops : Array Oper} {rest : List Oper} {op : Oper} {a : Act} {w : World} {Q : Exit → Act → World → Prop} (hgd : op.guard = none) (ty : TypeId) (x : Operand) (ho : op.op = .load ty x)
    (g : Nat) (hx : a.eval x = .pointer (some ⟨g, 0, none⟩)) (T : TypeId) (xs : List α) (hA : Arr f w g T xs) (d : TypeDesc)
    (hu : P.underlying ty = some d) (hd : d.isRow = true) (hi : (P.info? ty).map (·.size) = some xs.length)
    (h : wpList P ops Q rest (a.put op.dst (.agg (xs.map f).toArray)) w) : wpList P ops Q (op :: rest) a w :=
  wpList_load_mid hgd ty x ho g 0 hx (xs.map f) d hA.whole hu hd (by rw [hi, List.length_map]) h
/-- two results: an array in its cell, and a slot -/
theorem results_arr_tmp {P : Program} {α : Type} {f : α → Value} {fn : Func} {p u : Tmp} {ty : TypeId} (h : fn.results = #[.cell p ty, .tmp u]) (tmps : Array Value) (w : World) (g : Nat) (T : TypeId) (xs : List α) (d : TypeDesc) (v : Value)
    (hp : tmps.getD p undef = .pointer (some ⟨g, 0, none⟩)) (hv : tmps.getD u undef = v) (hA : Arr f w g T xs) (hu : P.underlying ty = some d) (hd : d.isRow = true) (hi : (P.info? ty).map (·.size) = some xs.length) :
    (results fn tmps).run P w = .ok (.tuple #[.agg (xs.map f).toArray, v]) w := by
  subst hv
  have hp' : tmps[p]?.getD undef = .pointer (some ⟨g, 0, none⟩) := by simpa using hp
  have hl := run_loadVar_mid (P := P) w g 0 ty (xs.map f) d hA.whole hu hd (by rw [hi, List.length_map])
  simp [results, h, hp', asAddr, hl]
/-- one result: an array in its cell -/
theorem results_arr {P : Program} {α : Type} {f : α → Value} {fn : Func} {p : Tmp} {ty : TypeId} (h : fn.results = #[.cell p ty]) (tmps : Array Value) (w : World) (g : Nat) (T : TypeId) (xs : List α) (d : TypeDesc)
    (hp : tmps.getD p undef = .pointer (some ⟨g, 0, none⟩)) (hA : Arr f w g T xs) (hu : P.underlying ty = some d) (hd : d.isRow = true) (hi : (P.info? ty).map (·.size) = some xs.length) :
    (results fn tmps).run P w = .ok (.agg (xs.map f).toArray) w := by
  have hp' : tmps[p]?.getD undef = .pointer (some ⟨g, 0, none⟩) := by simpa using hp
  have hl := run_loadVar_mid (P := P) w g 0 ty (xs.map f) d hA.whole hu hd (by rw [hi, List.length_map])
  simp [results, h, hp', asAddr, hl]
/-- an int as a cell -/
def cI (z : Int) : Value := .int .i64 z
theorem cI_one (z : Int) : (cI z).oneCell' = true := rfl
theorem b8_one' (x : BitVec 8) : (b8 x).oneCell' = true := rfl
end Go.Proofs.YtmncihhofppkdaaDoor

/- PLAIN LEMMAS: whole arrays loaded and stored inside a fence; arrays of bytes compared. No program, no conditions. -/
namespace Go.Proofs.YtmncihhofppkdaaDoor
open Go.RowKit
open Go.Extern.Stop (cell)
attribute [local go_sem] Oper.semAt_some
theorem semAt_exec (ro : Option Nat) (ρ : Operand → Value) (o : Oper) (h : ∀ c, o.op ≠ .defer c) : Oper.semAt ro ρ o = execOp ρ o := by
  cases ro with
  | none => unfold Oper.semAt; rfl
  | some l => exact Oper.semAt_some l ρ o h
section
variable {F : Fence} {n : Nat} {P : Program} {α : Type} {f : α → Value} {ops : Array Oper} {rest : List Oper} {op : Oper} {a : Act} {w : World} {Q : Exit → Act → World → Prop}
theorem wpListIn_load_arr (hgd : Region.wanted op (yielded ops a.tmps) = true) (ty : TypeId) (x : Operand) (ho : op.op = .load ty x)
    (g : Nat) (hx : a.eval x = .pointer (some ⟨g, 0, none⟩)) (T : TypeId) (xs : List α) (hA : Arr f w g T xs) (d : TypeDesc)
    (hu : P.underlying ty = some d) (hd : d.isRow = true) (hi : (P.info? ty).map (·.size) = some xs.length)
    (h : wpListIn F n P ops Q rest (a.put op.dst (.agg (xs.map f).toArray)) w) : wpListIn F n P ops Q (op :: rest) a w := by
  refine wpListIn_step fun K hK => ?_
  rw [if_pos hgd]
  have hl := run_loadVar_mid (P := P) w g 0 ty (xs.map f) d hA.whole hu hd (by rw [hi, List.length_map])
  unfold Oper.wpIn
  refine ⟨fun f' hf' => by simp [Oper.about, ho] at hf', ?_⟩
  rw [semAt_exec _ _ _ (fun c => by rw [ho]; simp)]
  unfold execOp
  simp only [ho, hx, Instr.loadAt, Instr.sureAddr, Sem.run_bind, Sem.run_pure, Result.andThen_ok, hl, Oper.uponIn_value]
  exact hK _ _ h
theorem wpListIn_store_arr (hgd : Region.wanted op (yielded ops a.tmps) = true) (ty : TypeId) (x y : Operand) (ho : op.op = .store ty x y)
    (g : Nat) (hx : a.eval x = .pointer (some ⟨g, 0, none⟩)) (ys : List α) (hy : a.eval y = .agg (ys.map f).toArray) (T : TypeId) (xs : List α) (hA : Arr f w g T xs) (hl : xs.length = ys.length)
    (hi : (P.info? ty).map (·.size) = some ys.length) (h1 : ∀ u, (f u).oneCell' = true)
    (h : ∀ w', Arr f w' g T ys → w.grownBy w' (some g) → wpListIn F n P ops Q rest (a.put op.dst undef) w') : wpListIn F n P ops Q (op :: rest) a w := by
  obtain ⟨h2, h3⟩ := arr_setCells (f := f) ys [] xs w hl hA
  refine wpListIn_step fun K hK => ?_
  rw [if_pos hgd]
  have hs := run_storeVar_mid (P := P) w g 0 ty (ys.map f).toArray (hA.there (by simp [hl])) (by rw [hi]; simp) (all_oneCell_toArray (fun v hv => by obtain ⟨u, _, rfl⟩ := List.mem_map.1 hv; exact h1 u))
  unfold Oper.wpIn
  refine ⟨fun f' hf' => by simp [Oper.about, ho] at hf', ?_⟩
  rw [semAt_exec _ _ _ (fun c => by rw [ho]; simp)]
  unfold execOp
  simp only [ho, hx, hy, Instr.storeAt, Instr.sureAddr, Sem.run_bind, Sem.run_pure, Result.andThen_ok, hs, Oper.uponIn_skip]
  exact hK _ _ (h _ h2 h3)
end

/-- a byte as the library has it -/
def u8 (x : BitVec 8) : UInt8 := UInt8.ofNat x.toNat
theorem map_b8_cell (xs : List (BitVec 8)) : xs.map b8 = (xs.map u8).map cell := by
  rw [List.map_map]
  refine List.map_congr_left fun x _ => ?_
  show Value.int .u8 (bv x) = Value.int .u8 ((u8 x).toNat : Int)
  have : (u8 x).toNat = x.toNat := by
    unfold u8
    rw [UInt8.toNat_ofNat']
    have := x.isLt
    omega
  rw [this]; rfl
theorem u8_beq (xs ys : List (BitVec 8)) : (xs.map u8 == ys.map u8) = (xs == ys) := by
  rw [Bool.eq_iff_iff, beq_iff_eq, beq_iff_eq]
  exact ⟨fun h => map_inj' _ (fun _ _ h => u8_inj h) _ _ h, fun h => by rw [h]⟩
theorem run_eql_b8 {P : Program} (w : World) (t e : TypeId) (n : Nat) (ht : P.underlying t = some (.array n e)) (he : P.underlying e = some (.int .u8)) (hsz : ∀ w, (sizeOf e).run P w = .ok 1 w) (xs ys : List (BitVec 8)) (hx : xs.length = n) (hy : ys.length = n) :
    (binOp .eql t (.agg (xs.map b8).toArray) (.agg (ys.map b8).toArray)).run P w = .ok (.bool (xs == ys)) w := by
  rw [map_b8_cell, map_b8_cell, run_eql_bytes w t e n ht he hsz (xs.map u8) (ys.map u8) (by simpa using hx) (by simpa using hy), u8_beq]
theorem run_neq_b8 {P : Program} (w : World) (t e : TypeId) (n : Nat) (ht : P.underlying t = some (.array n e)) (he : P.underlying e = some (.int .u8)) (hsz : ∀ w, (sizeOf e).run P w = .ok 1 w) (xs ys : List (BitVec 8)) (hx : xs.length = n) (hy : ys.length = n) :
    (binOp .neq t (.agg (xs.map b8).toArray) (.agg (ys.map b8).toArray)).run P w = .ok (.bool (!(xs == ys))) w := by
  rw [map_b8_cell, map_b8_cell, run_neq_struct, run_equalIn_bytes w 9998 t e n ht he hsz (xs.map u8) (ys.map u8) (by simpa using hx) (by simpa using hy), u8_beq]
  rfl
end Go.Proofs.YtmncihhofppkdaaDoor

/- PLAIN LEMMAS: a block that is known whole, cell by cell ('Blk'). No program, no conditions. -/
namespace Go.Proofs.YtmncihhofppkdaaDoor
open Go.RowKit

/-- block g holds just these cells -/
def Blk (w : World) (g : Nat) (T : TypeId) (cs : List Value) : Prop := w.heap[g]? = some (.cells cs.toArray T (0, 0))
section
variable {w w' : World} {g : Nat} {T : TypeId} {cs : List Value}
theorem Blk.arr (h : Blk w g T cs) : Arr (fun v : Value => v) w g T cs := by unfold Arr; rw [List.map_id']; exact h
theorem blk_arr (h : Arr (fun v : Value => v) w g T cs) : Blk w g T cs := by unfold Arr at h; rw [List.map_id'] at h; exact h
theorem Blk.lt (h : Blk w g T cs) : g < w.heap.size := h.arr.lt
theorem Blk.cell (h : Blk w g T cs) (k : Nat) {u : Value} (hk : cs[k]? = some u) : w.cell? ⟨g, k, none⟩ = some u := h.arr.at_ hk
theorem Blk.frozen (h : Blk w g T cs) (k : Nat) : w.frozen? ⟨g, k, none⟩ = false := h.arr.frozen k
theorem Blk.new (w : World) (T : TypeId) (cs : List Value) : Blk (w.alloc (.cells cs.toArray T)) w.heap.size T cs := heap_alloc_new w _
theorem Blk.at_size {w : World} (T : TypeId) (cs : List Value) {k : Nat} (h : w.heap.size = k) : Blk (w.alloc (.cells cs.toArray T)) k T cs := by subst h; exact Blk.new w T cs
theorem Blk.drewN (h : Blk w g T cs) (k : Nat) : Blk (w.drewN k) g T cs := h
theorem Blk.drew (h : Blk w g T cs) : Blk w.drew g T cs := h
theorem Blk.alloc (h : Blk w g T cs) (o : Obj) : Blk (w.alloc o) g T cs := (Below.heap_alloc w o g h.lt).trans h
theorem Blk.below {B : Nat} (h : Blk w g T cs) (hb : Below B w w') (hg : g < B) : Blk w' g T cs := (hb.block g hg).trans h
theorem Blk.grown {row : Option Nat} (h : Blk w g T cs) (hb : w.grownBy w' row) (hg : some g ≠ row) : Blk w' g T cs := (hb.block g h.lt hg).trans h
theorem Blk.set_ (h : Blk w g T cs) (k : Nat) (u : Value) : Blk (w.setCell ⟨g, k, none⟩ u) g T (cs.set k u) := blk_arr (h.arr.set_ k u)
theorem Blk.far (h : Blk w g T cs) {p : Addr} (hp : g ≠ p.block) (u : Value) : Blk (w.setCell p u) g T cs := (Below.heap_setCell w p u g hp).trans h
theorem Blk.cast {ds : List Value} (h : Blk w g T cs) (e : cs = ds) : Blk w g T ds := e ▸ h
theorem Blk.range (h : Blk w g T cs) (o n : Nat) : w.rangeAt g o ((cs.drop o).take n) := by have := h.arr.range o n; rwa [List.map_id'] at this
theorem Blk.whole (h : Blk w g T cs) : w.rangeAt g 0 cs := by have := h.arr.whole; rwa [List.map_id'] at this
theorem Blk.not_row {α : Type} {f : α → Value} {B : Nat} {e : TypeId} {v : Value} {xs : List α} (h : Blk w g T cs) (hte : T ≠ e) (hr : Own f w B e v xs) : some g ≠ v.ownBlock := by
  rcases hr.2 with ⟨rfl, _⟩ | ⟨g', cap, cur, rfl, _, hgb, _⟩
  · simp [Value.ownBlock]
  · intro e'
    obtain rfl : g = g' := by simpa [Value.ownBlock] using e'
    have : w.heap[g]? = some (.cells cs.toArray T (0, 0)) := h
    rw [this] at hgb; cases hgb; exact hte rfl
theorem grownBy_set (W : World) (b k : Nat) (v : Value) : W.grownBy (W.setCell ⟨b, k, none⟩ v) (some b) :=
  ⟨rfl, rfl, rfl, (KeepsWalks.setCell W _ v).size, fun j _ hj => Below.heap_setCell _ _ _ j (fun e => hj (by rw [e]))⟩
end
end Go.Proofs.YtmncihhofppkdaaDoor

/- PLAIN LEMMAS: a piece of a block that is known whole is stored over. No program, no conditions. -/
namespace Go.Proofs.YtmncihhofppkdaaDoor
open Go.RowKit
set_option linter.unusedVariables false
set_option linter.unusedSimpArgs false

theorem blk_setCells {g : Nat} {T : TypeId} : ∀ (ys pre old post : List Value) (w : World), old.length = ys.length → Blk w g T (pre ++ (old ++ post)) → Blk (w.setCells g pre.length ys) g T (pre ++ (ys ++ post)) ∧ w.grownBy (w.setCells g pre.length ys) (some g)
  | [], pre, [], post, w, _, h => ⟨h, World.grownBy.refl _ _⟩
  | y :: ys, pre, x :: old, post, w, hl, h => by
    have h1 := h.set_ pre.length y
    have e : (pre ++ (x :: old ++ post)).set pre.length y = (pre ++ [y]) ++ (old ++ post) := by
      rw [List.set_append]; simp
    have ih := blk_setCells ys (pre ++ [y]) old post _ (by simpa using hl) (h1.cast e)
    rw [List.length_append, List.length_singleton] at ih
    rw [World.setCells]
    exact ⟨ih.1.cast (by simp), grownBy_trans (grownBy_set w g pre.length y) ih.2 (fun _ e => .inl e)⟩
/-- a piece of a block is stored over -/
theorem wpList_store_piece {P : Program} {ops : Array Oper} {rest : List Oper} {op : Oper} {a : Act} {w : World} {Q : Exit → Act → World → Prop} (hgd : op.guard = none) (ty : TypeId) (x y : Operand) (ho : op.op = .store ty x y)
    (g o : Nat) (hx : a.eval x = .pointer (some ⟨g, o, none⟩)) (ys : List Value) (hy : a.eval y = .agg ys.toArray) (T : TypeId) (cs pre old post : List Value) (hA : Blk w g T cs) (e : cs = pre ++ (old ++ post)) (hpo : pre.length = o) (hl : old.length = ys.length)
    (hi : (P.info? ty).map (·.size) = some ys.length) (h1 : ∀ u ∈ ys, u.oneCell' = true)
    (h : ∀ w', Blk w' g T (pre ++ (ys ++ post)) → w.grownBy w' (some g) → wpList P ops Q rest (a.put op.dst undef) w') : wpList P ops Q (op :: rest) a w := by
  subst e
  subst hpo
  obtain ⟨h2, h3⟩ := blk_setCells ys pre old post w hl hA
  refine wpList_store_mid hgd ty x y ho g pre.length ys.toArray hx hy ?_ ?_ ?_ ?_
  · exact hA.arr.there (by simp [hl])
  · rw [hi]; simp
  · exact all_oneCell_toArray h1
  · simp only
    exact h _ h2 h3
theorem Blk.put_one {w : World} {g : Nat} {T : TypeId} {cs : List Value} (h : Blk w g T cs) {pre post : List Value} {u : Value} {o : Nat} (e : cs = pre ++ (u :: post)) (ho : pre.length = o) (v : Value) : Blk (w.setCell ⟨g, o, none⟩ v) g T (pre ++ (v :: post)) := by
  subst e
  subst ho
  refine (h.set_ pre.length v).cast ?_
  rw [List.set_append]; simp
/-- the same in a region that draws its order -/
theorem wp_store_piece {P : Program} {op : Oper} {a : Act} {w : World} {K : Act → World → Prop} {Q : Exit → Act → World → Prop} (ty : TypeId) (x y : Operand) (ho : op.op = .store ty x y)
    (g o : Nat) (hx : a.eval x = .pointer (some ⟨g, o, none⟩)) (ys : List Value) (hy : a.eval y = .agg ys.toArray) (T : TypeId) (cs pre old post : List Value) (hA : Blk w g T cs) (e : cs = pre ++ (old ++ post)) (hpo : pre.length = o) (hl : old.length = ys.length)
    (hi : (P.info? ty).map (·.size) = some ys.length) (h1 : ∀ u ∈ ys, u.oneCell' = true)
    (h : ∀ w', Blk w' g T (pre ++ (ys ++ post)) → w.grownBy w' (some g) → K (a.put op.dst undef) w') : op.wp P a w K Q := by
  subst e
  subst hpo
  obtain ⟨h2, h3⟩ := blk_setCells ys pre old post w hl hA
  refine wp_store_mid ty x y ho g pre.length ys.toArray hx hy ?_ ?_ ?_ ?_
  · exact hA.arr.there (by simp [hl])
  · rw [hi]; simp
  · exact all_oneCell_toArray h1
  · simp only
    exact h _ h2 h3
/-- two results: a value in its cells, and a slot -/
theorem results_blk_tmp {P : Program} {fn : Func} {p u : Tmp} {ty : TypeId} (h : fn.results = #[.cell p ty, .tmp u]) (tmps : Array Value) (w : World) (g : Nat) (T : TypeId) (cs : List Value) (d : TypeDesc) (v : Value)
    (hp : tmps.getD p undef = .pointer (some ⟨g, 0, none⟩)) (hv : tmps.getD u undef = v) (hA : Blk w g T cs) (hu : P.underlying ty = some d) (hd : d.isRow = true) (hi : (P.info? ty).map (·.size) = some cs.length) :
    (results fn tmps).run P w = .ok (.tuple #[.agg cs.toArray, v]) w := by
  have h1 := results_arr_tmp (P := P) h tmps w g T cs d v hp hv hA.arr hu hd hi
  rwa [List.map_id'] at h1
theorem results_blk {P : Program} {fn : Func} {p : Tmp} {ty : TypeId} (h : fn.results = #[.cell p ty]) (tmps : Array Value) (w : World) (g : Nat) (T : TypeId) (cs : List Value) (d : TypeDesc)
    (hp : tmps.getD p undef = .pointer (some ⟨g, 0, none⟩)) (hA : Blk w g T cs) (hu : P.underlying ty = some d) (hd : d.isRow = true) (hi : (P.info? ty).map (·.size) = some cs.length) :
    (results fn tmps).run P w = .ok (.agg cs.toArray) w := by
  have h1 := results_arr (P := P) h tmps w g T cs d hp hA.arr hu hd hi
  rwa [List.map_id'] at h1
end Go.Proofs.YtmncihhofppkdaaDoor

/- PLAIN LEMMAS: in a region that draws its order, operations that only read and stand beside one another may be carried out at once, before anything is stored. No program, no conditions. -/
namespace Go.Proofs.YtmncihhofppkdaaDoor
open Go.RowKit
set_option linter.unusedSimpArgs false

/-- till all of R have come up, nothing but R may come up -/
def stillB (md : Region.Mode) (ops : Array Oper) : Nat → List Nat → Array Bool → Bool
  | 0, R, _ => R.isEmpty
  | f + 1, R, L => R.isEmpty || (decide (Region.ready md ops L = R) && R.all fun j => stillB md ops f (R.erase j) (L.setIfInBounds j true))
/-- no two of R touch what the other one looks at -/
def asideB (ops : Array Oper) (R : List Nat) : Bool := R.all fun i => R.all fun j => i == j || match ops[i]?, ops[j]? with
  | some x, some y => x.apart ops y
  | _, _ => false
def putR (ops : Array Oper) (V : Nat → Value) (R : List Nat) (a : Act) : Act := R.foldl (fun a j => match ops[j]? with | some o => a.put o.dst (V j) | none => a) a
def listR (R : List Nat) (L : Array Bool) : Array Bool := R.foldl (fun L j => L.setIfInBounds j true) L

section
variable {P : Program} {ops : Array Oper} {md : Region.Mode} {Q : Exit → Act → World → Prop} {S : World → Prop}
theorem asideB_spec {R : List Nat} (h : asideB ops R = true) {i j : Nat} (hi : i ∈ R) (hj : j ∈ R) (hne : i ≠ j) {x y : Oper} (hx : ops[i]? = some x) (hy : ops[j]? = some y) : x.apart ops y = true := by
  have := List.all_eq_true.1 (List.all_eq_true.1 h i hi) j hj
  rw [hx, hy] at this
  simpa [hne] using this
theorem putR_cons {V : Nat → Value} {R : List Nat} (h : asideB ops R = true) {j : Nat} (hj : j ∈ R) {o : Oper} (ho : ops[j]? = some o) (a : Act) : putR ops V (R.erase j) (a.put o.dst (V j)) = putR ops V R a := by
  unfold putR
  rw [List.Perm.foldl_eq' (List.perm_cons_erase hj) (fun x hx y hy z => ?_) a, List.foldl_cons, ho]
  by_cases hxy : x = y
  · subst hxy; rfl
  · cases ex : ops[x]? with
    | none => rfl
    | some ox =>
      cases ey : ops[y]? with
      | none => rfl
      | some oy =>
        have h1 := (Oper.apart_spec (asideB_spec h hx hy hxy ex ey)).2.1
        exact Act.put_comm z (V x) (V y) h1
theorem listR_cons {R : List Nat} {j : Nat} (hj : j ∈ R) (L : Array Bool) : listR (R.erase j) (L.setIfInBounds j true) = listR R L := by
  unfold listR
  rw [List.Perm.foldl_eq' (List.perm_cons_erase hj) (fun x _ y _ z => ?_) L, List.foldl_cons]
  by_cases hxy : x = y
  · subst hxy; rfl
  · exact (Array.setIfInBounds_comm _ _ hxy).symm ▸ rfl
theorem wpAnyH_still (V : Nat → Value) {n : Nat} {w : World} (hS : S w) (hsel : Region.noSelect ops = true) : ∀ (f : Nat) (R : List Nat) (L : Array Bool) (a : Act), R.Nodup → stillB md ops f R L = true → asideB ops R = true →
    (∀ j ∈ R, ∃ o, ops[j]? = some o ∧ YieldsIf P ops (fun w' => w' = w) o (V j) a) → wpAnyH P md ops Q S n (listR R L) (putR ops V R a) w → wpAnyH P md ops Q S (n + R.length) L a w
  | 0, R, L, a, _, hb, _, _, h => by
    obtain rfl : R = [] := List.isEmpty_iff.1 hb
    exact h
  | f + 1, R, L, a, hnd, hb, hap, hy, h => by
    by_cases hR : R = []
    · subst hR; exact h
    · have hb' : R.isEmpty = false := by cases R with
        | nil => exact absurd rfl hR
        | cons _ _ => rfl
      unfold stillB at hb
      rw [hb', Bool.false_or, Bool.and_eq_true, decide_eq_true_eq] at hb
      obtain ⟨hr, hall⟩ := hb
      obtain ⟨m, hm⟩ : ∃ m, R.length = m + 1 := ⟨R.length - 1, by have := List.length_pos_iff.2 hR; omega⟩
      rw [hm]
      show wpAnyH P md ops Q S ((n + m) + 1) L a w
      refine wpAnyH_all hr hR fun j hj => ?_
      obtain ⟨o, ho, hyj⟩ := hy j hj
      refine hyj.wpOp ho rfl ⟨hS, ?_⟩
      have hlen : (R.erase j).length = m := by rw [List.length_erase_of_mem hj, hm]; rfl
      rw [← hlen]
      refine wpAnyH_still V hS hsel f (R.erase j) _ _ (hnd.erase j) (List.all_eq_true.1 hall j hj) ?_ ?_ ?_
      · refine List.all_eq_true.2 fun x hx => List.all_eq_true.2 fun y hy' => ?_
        exact List.all_eq_true.1 (List.all_eq_true.1 hap x (List.mem_of_mem_erase hx)) y (List.mem_of_mem_erase hy')
      · intro k hk
        obtain ⟨hkj, hkR⟩ := hnd.mem_erase_iff.1 hk
        obtain ⟨ok, hok, hyk⟩ := hy k hkR
        have h3 := (Oper.apart_spec (asideB_spec hap hkR hj hkj hok ho)).2.2
        exact ⟨ok, hok, hyk.of_same (execOp_put ok (fun cs b => Region.noSelect_spec hsel k ok cs b hok) a o.dst (V j) h3) (wanted_put ok a o.dst (V j) h3)⟩
      · rw [listR_cons hj, putR_cons hap hj ho]; exact h
/-- four at once -/
theorem wpAnyH_still4 {i j k l n : Nat} {oi oj ok ol : Oper} {vi vj vk vl : Value} {L : Array Bool} {a : Act} {w : World} (hoi : ops[i]? = some oi) (hoj : ops[j]? = some oj) (hok : ops[k]? = some ok) (hol : ops[l]? = some ol) (hsel : Region.noSelect ops = true)
    (hnd : decide ([i, j, k, l].Nodup) = true) (hb : stillB md ops 4 [i, j, k, l] L = true) (hap : asideB ops [i, j, k, l] = true) (hS : S w)
    (yi : YieldsIf P ops (fun w' => w' = w) oi vi a) (yj : YieldsIf P ops (fun w' => w' = w) oj vj a) (yk : YieldsIf P ops (fun w' => w' = w) ok vk a) (yl : YieldsIf P ops (fun w' => w' = w) ol vl a)
    (h : wpAnyH P md ops Q S n ((((L.setIfInBounds i true).setIfInBounds j true).setIfInBounds k true).setIfInBounds l true) ((((a.put oi.dst vi).put oj.dst vj).put ok.dst vk).put ol.dst vl) w) : wpAnyH P md ops Q S (n + 4) L a w := by
  have hnd' := of_decide_eq_true hnd
  simp only [List.nodup_cons, List.mem_cons, List.not_mem_nil, or_false, not_or, not_false_eq_true, List.nodup_nil, and_true] at hnd'
  obtain ⟨⟨n1, n2, n3⟩, ⟨n4, n5⟩, n6⟩ := hnd'
  refine wpAnyH_still (fun x => if x = i then vi else if x = j then vj else if x = k then vk else vl) hS hsel 4 [i, j, k, l] L a (of_decide_eq_true hnd) hb hap ?_ ?_
  · intro x hx
    simp only [List.mem_cons, List.not_mem_nil, or_false] at hx
    rcases hx with rfl | rfl | rfl | rfl
    · exact ⟨oi, hoi, by rw [if_pos rfl]; exact yi⟩
    · exact ⟨oj, hoj, by rw [if_neg (Ne.symm n1), if_pos rfl]; exact yj⟩
    · exact ⟨ok, hok, by rw [if_neg (Ne.symm n2), if_neg (Ne.symm n4), if_pos rfl]; exact yk⟩
    · exact ⟨ol, hol, by rw [if_neg (Ne.symm n3), if_neg (Ne.symm n5), if_neg (Ne.symm n6)]; exact yl⟩
  · simp only [listR, putR, List.foldl_cons, List.foldl_nil, hoi, hoj, hok, hol]
    rw [if_pos trivial, if_neg (Ne.symm n1), if_pos trivial, if_neg (Ne.symm n2), if_neg (Ne.symm n4), if_pos trivial, if_neg (Ne.symm n3), if_neg (Ne.symm n5), if_neg (Ne.symm n6)]
    exact h
end
end Go.Proofs.YtmncihhofppkdaaDoor

/- PLAIN LEMMAS: in the frame of a loop over a function, a region that draws its order is walked as anywhere (no fence but the wide one). No program, no conditions. -/
namespace Go.Proofs.YtmncihhofppkdaaDoor
open Go.RowKit
set_option linter.unusedSimpArgs false
set_option linter.unusedVariables false

def noDefer (ops : Array Oper) : Bool := ops.all fun o => match o.op with
  | .defer _ => false
  | _ => true
theorem noDefer_spec {ops : Array Oper} (h : noDefer ops = true) {i : Nat} {o : Oper} (ho : ops[i]? = some o) : ∀ c, o.op ≠ .defer c := by
  intro c hc
  obtain ⟨hi, rfl⟩ := Array.getElem?_eq_some_iff.1 ho
  have := Array.all_eq_true.1 h i hi
  rw [hc] at this
  cases this

section
variable {P : Program} {ops : Array Oper} {md : Region.Mode} {Q : Exit → Act → World → Prop} {S : World → Prop} {l n : Nat}
/-- what is asked: that it ends in order -/
def onlyN (Q : Exit → Act → World → Prop) : Exit → Act → World → Prop := fun e a w => e = .normal ∧ Q .normal a w
theorem rowsIn_round {row : String} {args : Array Value} {w : World} {R : Value → World → Prop} (h : Rows P row args w R) : RowsIn (Fence.wide.inRound l) n P row args w R :=
  fun c cs _ => let ⟨v, w', r, s⟩ := h c cs; ⟨v, w', r, stepsIn_wide.2 s⟩
theorem upon_in {o : Oper} {a : Act} {next next' : Act → World → Prop} (hn : ∀ a w, next a w → next' a w) {r : Result Next} (h : o.upon P a next (onlyN Q) r) : o.uponIn (Fence.wide.inRound l) n P a next' Q r := by
  cases r with
  | ok nx w' =>
    cases nx with
    | value v => exact hn _ _ h
    | skip => exact hn _ _ h
    | defer d => exact hn _ _ h
    | enter f args =>
      refine ⟨nofun, CallsIn.inRound l (callsIn_wide.2 (Calls.mono h ?_))⟩
      intro e w'' he
      cases e with
      | returned v => exact hn _ _ he
      | panicked c => exact nomatch he.1
      | outgrown => obtain ⟨_, _, h1, _⟩ := he; cases h1
    | row row args => exact ⟨nofun, (rowsIn_round h).mono fun v w'' he => hn _ _ he⟩
    | _ => exact h.elim
  | halt s w' =>
    cases s <;> first
      | exact nomatch h.1
      | exact h.elim
theorem wpOp_in (hd : noDefer ops = true) {i : Nat} {K K' : Act → World → Prop} (hn : ∀ a w, K a w → K' a w) {a : Act} {w : World} (h : wpOp P ops (onlyN Q) i K a w) : wpOpIn (Fence.wide.inRound l) n P ops Q i K' a w := by
  unfold wpOp at h
  unfold wpOpIn
  cases ho : ops[i]? with
  | none => rw [ho] at h; exact hn _ _ h
  | some o =>
    rw [ho] at h
    dsimp only at h ⊢
    split
    · rename_i hw
      rw [if_pos hw] at h
      rcases h with h | ⟨_, _, _, h, _⟩
      · refine ⟨fun _ _ => trivial, ?_⟩
        rw [Oper.semAt_plain _ _ _ (noDefer_spec hd ho)]
        exact upon_in hn h
      · cases h
    · rename_i hw
      rw [if_neg hw] at h
      exact ⟨fun _ _ => trivial, hn _ _ h⟩
theorem wpAny_in (hd : noDefer ops = true) : ∀ (f : Nat) (L : Array Bool) (a : Act) (w : World), wpAny P md ops (onlyN Q) f L a w → wpAnyIn (Fence.wide.inRound l) n P md ops Q f L a w
  | 0, _, _, _, h => ⟨h.1, h.2.2⟩
  | f + 1, L, a, w, h => ⟨fun hr => (h.1 hr).2, fun i hi => wpOp_in hd (fun a w => wpAny_in hd f _ a w) (h.2 i hi)⟩
/-- whatever order is picked, S holds till operation z has come up (z: the store at the end) -/
def wpAnyZ (P : Program) (md : Region.Mode) (ops : Array Oper) (Q : Exit → Act → World → Prop) (S : World → Prop) (z : Nat) : Nat → Array Bool → Act → World → Prop
  | 0, L, a, w => Region.ready md ops L = [] ∧ Q .normal a w
  | f + 1, L, a, w => (Region.ready md ops L = [] → Q .normal a w) ∧ ∀ i ∈ Region.ready md ops L, wpOp P ops Q i (fun a' w' => (i ≠ z → S w') ∧ wpAnyZ P md ops Q S z f (L.setIfInBounds i true) a' w') a w
variable {z : Nat}
theorem wpAny_of_Z : ∀ (f : Nat) (L : Array Bool) (a : Act) (w : World), wpAnyZ P md ops Q S z f L a w → wpAny P md ops Q f L a w
  | 0, _, _, _, h => h
  | f + 1, _, _, _, h => ⟨h.1, fun i hi => wpOp_mono (fun a' w' h' => wpAny_of_Z f _ a' w' h'.2) (h.2 i hi)⟩
/-- z waits for i -/
def waitsB (md : Region.Mode) (ops : Array Oper) (z i : Nat) : Bool := match ops[z]? with
  | some o => o.after.any fun e => Region.binds md e && e.on == i
  | none => false
theorem wpAnyZ_first {i : Nat} {oi : Oper} {v : Value} (hi : ops[i]? = some oi) (hsel : Region.noSelect ops = true) (hw : waitsB md ops z i = true) (hQ : ∀ c a w, Q (.panic c) (a.put oi.dst v) w → Q (.panic c) a w) :
    ∀ (f : Nat) (L : Array Bool) (a : Act) (w : World), (∀ j oj, ops[j]? = some oj → j ≠ i → L.getD j true = false → (∀ e ∈ oj.after, Region.binds md e = true → e.on ≠ i) → oi.apart ops oj = true) →
      i ∈ Region.ready md ops L → YieldsIf P ops S oi v a → S w → wpAnyZ P md ops Q S z f (L.setIfInBounds i true) (a.put oi.dst v) w → wpAnyZ P md ops Q S z (f + 1) L a w := by
  intro f
  induction f with
  | zero =>
    intro L a w _ hr hy hS H
    refine ⟨fun h => (by rw [h] at hr; cases hr), fun j hj => ?_⟩
    by_cases e : j = i
    · subst e; exact hy.wpOp hi hS ⟨fun _ => hS, H⟩
    · have := ready_mono hj e
      rw [H.1] at this; cases this
  | succ f ih =>
    intro L a w hfree hr hy hS H
    refine ⟨fun h => (by rw [h] at hr; cases hr), fun j hj => ?_⟩
    by_cases e : j = i
    · subst e; exact hy.wpOp hi hS ⟨fun _ => hS, H⟩
    · have h1 := H.2 j (ready_mono hj e)
      obtain ⟨hjun, oj, hoj, hall⟩ := mem_ready.1 hj
      have hnot : ∀ e ∈ oj.after, Region.binds md e = true → e.on ≠ i := fun e he hb heq => by
        have g1 := hall e he hb
        have g0 := (mem_ready.1 hr).1
        rw [heq] at g1
        rcases Nat.lt_or_ge i L.size with h' | h'
        · simp [h'] at g0 g1; rw [g0] at g1; cases g1
        · simp [Array.getElem?_eq_none h'] at g1
      have hjz : j ≠ z := fun ez => by
        subst ez
        unfold waitsB at hw
        rw [hoj] at hw
        obtain ⟨x, hx, hxe⟩ := Array.any_eq_true'.1 hw
        simp only [Bool.and_eq_true, beq_iff_eq] at hxe
        exact hnot x hx hxe.1 hxe.2
      have h2 := wpOp_putIf hoj (hfree j oj hoj e hjun hnot) (fun cs b => Region.noSelect_spec hsel i oi cs b hi) (fun cs b => Region.noSelect_spec hsel j oj cs b hoj) hQ hy h1
      refine wpOp_mono (fun a' w' h3 => ⟨fun _ => h3.2.1 hjz, ih _ a' w' (fun k ok hk hki hun hno => hfree k ok hk hki ?_ hno) (ready_mono hr (Ne.symm e)) h3.1 (h3.2.1 hjz) ?_⟩) h2
      · by_cases hjk : j = k
        · subst hjk; exact hjun
        · rw [getD_set_ne true hjk] at hun; exact hun
      · rw [Array.setIfInBounds_comm _ _ e]
        exact h3.2.2
theorem wpAnyZ_take {i : Nat} {oi : Oper} {v : Value} {f : Nat} {L : Array Bool} {a : Act} {w : World} (hi : ops[i]? = some oi) (hs : Region.noSelect ops = true) (hw : waitsB md ops z i = true) (hf : Region.free md ops L i = true) (hr : (Region.ready md ops L).contains i = true)
    (hQ : ∀ c a w, Q (.panic c) (a.put oi.dst v) w → Q (.panic c) a w) (hy : YieldsIf P ops S oi v a) (hS : S w) (h : wpAnyZ P md ops Q S z f (L.setIfInBounds i true) (a.put oi.dst v) w) : wpAnyZ P md ops Q S z (f + 1) L a w :=
  wpAnyZ_first hi hs hw hQ f L a w (Region.free_spec hi hf) (by simpa using hr) hy hS h
theorem wpAnyZ_one {i : Nat} {o : Oper} {f : Nat} {L : Array Bool} {a : Act} {w : World} (hr : Region.ready md ops L = [i]) (ho : ops[i]? = some o)
    (h : ∀ K' : Act → World → Prop, (∀ a w, (i ≠ z → S w) → wpAnyZ P md ops Q S z f (L.setIfInBounds i true) a w → K' a w) → if Region.wanted o (yielded ops a.tmps) = true then o.wp P a w K' Q else K' (a.put o.dst undef) w) : wpAnyZ P md ops Q S z (f + 1) L a w := by
  refine ⟨fun h0 => (by rw [h0] at hr; cases hr), fun j hj => ?_⟩
  rw [hr, List.mem_singleton] at hj
  subst hj
  have h1 := h (fun a' w' => (j ≠ z → S w') ∧ wpAnyZ P md ops Q S z f (L.setIfInBounds j true) a' w') (fun _ _ h1 h2 => ⟨h1, h2⟩)
  unfold wpOp
  rw [ho]
  dsimp only
  split
  · rename_i hw; rw [if_pos hw] at h1; exact .inl h1
  · rename_i hw; rw [if_neg hw] at h1; exact h1
theorem wpAnyZ_done {L : Array Bool} {a : Act} {w : World} (hr : Region.ready md ops L = []) (h : Q .normal a w) : ∀ f, wpAnyZ P md ops Q S z f L a w
  | 0 => ⟨hr, h⟩
  | _ + 1 => ⟨fun _ => h, by rw [hr]; simp⟩
theorem wpIn_region_round {id : Nat} {a : Act} {w : World} (hm : P.follows .mixedOrders = true) (hd : noDefer ops = true) (S : World → Prop) (z : Nat)
    (h : wpAnyZ P .any ops (onlyN Q) S z ops.size (Array.replicate ops.size false) a w.drew) : (Code.region id ops true).wpIn (Fence.wide.inRound l) n P Q a w :=
  wpIn_region_any hm (wpAny_in hd _ _ _ _ (wpAny_of_Z _ _ _ _ h))
end
end Go.Proofs.YtmncihhofppkdaaDoor
