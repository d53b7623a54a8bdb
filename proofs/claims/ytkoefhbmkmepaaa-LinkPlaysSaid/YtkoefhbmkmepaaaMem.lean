/- PLAIN LEMMAS: slices that are read ('Rd'), rows that the call owns ('Own'). No program, no conditions. -/
import Derived.Test.YtkoefhbmkmepaaaBits
import Derived.Lib.Hide
import Derived.Maps.AppendAt
import Derived.Laws.OwnMore
import Derived.Deep.Draws
import Derived.Laws.BytesString
import Derived.Laws.CopyOwn
namespace Go.Proofs.Ytkoefhbmkmepaaa
open Go.RowKit

theorem below_step {w W w' : World} (h : Below w.heap.size w W) (hb : Below W.heap.size W w') : Below w.heap.size w w' := h.trans (hb.mono h.size)
theorem below_drewN {B : Nat} {a w : World} (h : Below B a w) (n : Nat) : Below B a (w.drewN n) := ⟨h.os, h.tape, h.output, h.size, h.block⟩
/-- a byte as a cell -/
def b8 (x : BitVec 8) : Value := .int .u8 (bv x)
theorem b8_eq (x : BitVec 8) : b8 x = .int .u8 (bv x) := rfl

/-- a slice at address A reads as xs, below block B -/
def Rd {α : Type} (f : α → Value) (w : World) (B : Nat) (A : Option Addr) (xs : List α) : Prop :=
  0 < xs.length → ∃ b off, A = some ⟨b, off, none⟩ ∧ b < B ∧ ∀ j u, xs[j]? = some u → w.cell? ⟨b, off + j, none⟩ = some (f u)

section
variable {α : Type} {f : α → Value} {w w' : World} {B B' : Nat} {A : Option Addr} {xs : List α}
theorem Rd.nil_ (f : α → Value) (w : World) (B : Nat) (A : Option Addr) : Rd f w B A [] := fun h => absurd h (by simp)
theorem Rd.at_ (h : Rd f w B A xs) {k : Nat} (hk : k < xs.length) : ∃ b off, A = some ⟨b, off, none⟩ ∧ b < B ∧ w.cell? ⟨b, off + k, none⟩ = some (f xs[k]) := by
  obtain ⟨b, off, e, hb, hc⟩ := h (by omega)
  exact ⟨b, off, e, hb, hc k _ (List.getElem?_eq_getElem hk)⟩
theorem Rd.keep (h : Rd f w B A xs) (hk : ∀ p : Addr, p.block < B → w'.cell? p = w.cell? p) : Rd f w' B A xs := fun hn => by
  obtain ⟨b, off, e, hb, hc⟩ := h hn
  exact ⟨b, off, e, hb, fun j u hu => (hk _ hb).trans (hc j u hu)⟩
theorem Rd.more (h : Rd f w B A xs) (hB : B ≤ B') : Rd f w B' A xs := fun hn => by
  obtain ⟨b, off, e, hb, hc⟩ := h hn
  exact ⟨b, off, e, by omega, hc⟩
theorem Rd.below (h : Rd f w B A xs) (hb : Below B w w') : Rd f w' B A xs := h.keep fun _ hp => hb.cell hp
theorem Rd.drew (h : Rd f w B A xs) : Rd f w.drew B A xs := h
theorem Rd.drewN (h : Rd f w B A xs) (k : Nat) : Rd f (w.drewN k) B A xs := h
theorem Rd.alloc (h : Rd f w B A xs) (hB : B ≤ w.heap.size) (o : Obj) : Rd f (w.alloc o) B A xs := h.keep fun p hp => World.cell?_alloc_lt w o p (by omega)
theorem Rd.take (h : Rd f w B A xs) (k : Nat) : Rd f w B A (xs.take k) := fun hn => by
  rw [List.length_take] at hn
  obtain ⟨b, off, e, hb, hc⟩ := h (by omega)
  refine ⟨b, off, e, hb, fun j u hu => hc j u ?_⟩
  rw [List.getElem?_take] at hu
  split at hu
  · exact hu
  · cases hu
theorem Rd.drop (h : Rd f w B A xs) (k : Nat) : Rd f w B (A.map (·.add k)) (xs.drop k) := fun hn => by
  rw [List.length_drop] at hn
  obtain ⟨b, off, rfl, hb, hc⟩ := h (by omega)
  refine ⟨b, off + k, by simp [Addr.add_lit], hb, fun j u hu => ?_⟩
  rw [List.getElem?_drop] at hu
  rw [Nat.add_assoc]
  exact hc _ u hu
theorem Rd.cells (h : Rd f w B A xs) {a : Addr} (ha : A = some a) : ∀ j u, (xs.map f)[j]? = some u → w.cell? (a.add j) = some u := by
  intro j u hu
  rw [List.getElem?_map, Option.map_eq_some_iff] at hu
  obtain ⟨x, hx, rfl⟩ := hu
  have hl : j < xs.length := by
    rcases Nat.lt_or_ge j xs.length with h | h
    · exact h
    · rw [List.getElem?_eq_none h] at hx; cases hx
  obtain ⟨b, off, e, hb, hc⟩ := h (by omega)
  rw [ha] at e
  injection e with e
  subst e
  rw [Addr.add_lit]
  exact hc j x hx
end

/-- v owns a row of just the cells of xs, in a block from B on; E: the element type; one cell an element -/
def Own {α : Type} (f : α → Value) (w : World) (B : Nat) (E : TypeId) (v : Value) (xs : List α) : Prop := w.ownsRow B E 1 v xs.length (xs.map f)

section
variable {α : Type} {f : α → Value} {w w' : World} {B : Nat} {E : TypeId} {v : Value} {xs : List α}
theorem Own.shape (h : Own f w B E v xs) : ∃ A c, v = .slice A xs.length c ∧ Rd f w w.heap.size A xs ∧ (A = none → c = 0) ∧ xs.length ≤ c ∧ c ≤ maxLen := by
  rcases h.2 with ⟨rfl, h0⟩ | ⟨g, cap, cur, rfl, hb, hg, hn, hm, hs, ht⟩
  · have e : xs = [] := List.eq_nil_of_length_eq_zero h0
    subst e
    exact ⟨none, 0, rfl, Rd.nil_ _ _ _ _, fun _ => rfl, Nat.le_refl _, by simp [maxLen]⟩
  · refine ⟨_, cap, rfl, fun hpos => ⟨g, 0, rfl, ?_, fun j u hu => ?_⟩, (fun e => by cases e), hn, hm⟩
    · rcases Nat.lt_or_ge g w.heap.size with hl | hl
      · exact hl
      · rw [Array.getElem?_eq_none hl] at hg; cases hg
    · rw [Nat.zero_add, cell_of_row w g j cur E (0, 0) hg]
      have h1 : (xs.map f)[j]? = some (f u) := by rw [List.getElem?_map, hu]; rfl
      rw [← ht, List.getElem?_take] at h1
      split at h1
      · simpa using h1
      · cases h1
theorem Own.form (h : Own f w B E v xs) (hn : 0 < xs.length) : ∃ g cap, v = .slice (some ⟨g, 0, none⟩) xs.length cap ∧ B ≤ g ∧ g < w.heap.size ∧ xs.length ≤ cap := by
  rcases h.2 with ⟨rfl, h0⟩ | ⟨g, cap, cur, rfl, hb, hg, hn', hm, hs, ht⟩
  · omega
  · refine ⟨g, cap, rfl, hb, ?_, hn'⟩
    rcases Nat.lt_or_ge g w.heap.size with hl | hl
    · exact hl
    · rw [Array.getElem?_eq_none hl] at hg; cases hg
theorem Own.form' {n : Nat} (h : Own f w B E v xs) (hn : xs.length = n) (hp : 0 < n) : ∃ g cap, v = .slice (some ⟨g, 0, none⟩) n cap ∧ B ≤ g ∧ g < w.heap.size ∧ n ≤ cap := by
  subst hn; exact h.form hp
theorem Own.shape' {n : Nat} (h : Own f w B E v xs) (hn : xs.length = n) : ∃ A c, v = .slice A n c ∧ Rd f w w.heap.size A xs ∧ (A = none → c = 0) ∧ n ≤ c ∧ c ≤ maxLen := by
  subst hn; exact h.shape
theorem Own.at_ {g cap n : Nat} (h : Own f w B E (.slice (some ⟨g, 0, none⟩) n cap) xs) {k : Nat} (hk : k < xs.length) :
    w.cell? ⟨g, k, none⟩ = some (f xs[k]) ∧ w.frozen? ⟨g, k, none⟩ = false := by
  have hn : n = xs.length := by
    rcases h.2 with ⟨e, _⟩ | ⟨g', cap', cur, e, _⟩ <;> simp at e
    omega
  subst hn
  refine ⟨?_, World.ownsRow.frozenAt h k⟩
  rw [World.ownsRow.cellAt h k (by omega), List.getElem?_map, List.getElem?_eq_getElem hk]
  rfl
theorem Own.set_ {g cap n : Nat} (h : Own f w B E (.slice (some ⟨g, 0, none⟩) n cap) xs) (k : Nat) (u : α) :
    Own f (w.setCell ⟨g, k, none⟩ (f u)) B E (.slice (some ⟨g, 0, none⟩) n cap) (xs.set k u) ∧ w.grownBy (w.setCell ⟨g, k, none⟩ (f u)) (some g) := by
  have hn : n = xs.length := by
    rcases h.2 with ⟨e, _⟩ | ⟨g', cap', cur, e, _⟩ <;> simp at e
    omega
  subst hn
  have := World.ownsRow.stored h k (f u)
  refine ⟨?_, this.2⟩
  unfold Own
  rw [List.length_set, List.map_set]
  exact this.1
theorem Own.alloc (h : Own f w B E v xs) (o : Obj) : Own f (w.alloc o) B E v xs := World.ownsRow.alloc h o
theorem Own.drew (h : Own f w B E v xs) : Own f w.drew B E v xs := h
theorem Own.drewN (h : Own f w B E v xs) (k : Nat) : Own f (w.drewN k) B E v xs := h
theorem Own.lt (h : Own f w B E v xs) : ∀ k, v.ownBlock = some k → B ≤ k ∧ k < w.heap.size := World.ownsRow.lt h
theorem Own.kept (h : Own f w B E v xs) {row : Option Nat} (hg : w.grownBy w' row) (hne : v.ownBlock = none ∨ v.ownBlock ≠ row) : Own f w' B E v xs := World.ownsRow.kept h hg hne
theorem Own.below (h : Own f w B E v xs) {C : Nat} (hb : Below C w w') (hC : w.heap.size ≤ C) : Own f w' B E v xs :=
  Own.kept h (row := none) ⟨hb.os, hb.tape, hb.output, hb.size, fun k hk _ => hb.block k (by omega)⟩ (by
    cases hv : v.ownBlock with
    | none => exact .inl rfl
    | some k => exact .inr (by simp))
theorem Own.less (h : Own f w B E v xs) {B' : Nat} (hB : B' ≤ B) : Own f w B' E v xs := by
  refine ⟨h.1, ?_⟩
  rcases h.2 with h | ⟨g, cap, cur, e, hb, hg, hr⟩
  · exact .inl h
  · exact .inr ⟨g, cap, cur, e, by omega, hg, hr⟩
theorem Own.nil_ (f : α → Value) (w : World) (B : Nat) (E : TypeId) : Own f w B E (.slice none 0 0) [] := World.ownsRow_nil w B E 1
theorem Own.lit (f : α → Value) (w : World) (B : Nat) (E : TypeId) (xs : List α) (hb : B ≤ w.heap.size) (hm : xs.length ≤ maxLen) :
    Own f (w.alloc (.cells (xs.map f).toArray E)) B E (.slice (some ⟨w.heap.size, 0, none⟩) xs.length xs.length) xs := by
  have := World.ownsRow_lit (base := B) (e := E) (size := 1) w (xs.map f).toArray xs.length hb hm (by simp)
  simpa [Own] using this
theorem Own.cast {ys : List α} (h : Own f w B E v xs) (e : xs = ys) : Own f w B E v ys := e ▸ h
end

/-- what an append leaves: nothing has turned · the same row, written in place · a new row -/
def Grew (w w' : World) (v v' : Value) : Prop :=
  (v' = v ∧ w' = w) ∨ (∃ g n n' c, v = .slice (some ⟨g, 0, none⟩) n c ∧ v' = .slice (some ⟨g, 0, none⟩) n' c ∧ w.grownBy w' (some g)) ∨ (v'.ownBlock = some w.heap.size ∧ w.grownBy w' none)
theorem grownBy_any {w w' : World} (h : w.grownBy w' none) (row : Option Nat) : w.grownBy w' row := ⟨h.os, h.tape, h.output, h.size, fun k hk _ => h.block k hk (by simp)⟩
theorem Grew.by_ {w w' : World} {v v' : Value} (h : Grew w w' v v') : w.grownBy w' v.ownBlock := by
  rcases h with ⟨_, rfl⟩ | ⟨g, n, n', c, rfl, rfl, hg⟩ | ⟨_, hg⟩
  · exact World.grownBy.refl _ _
  · exact hg
  · exact grownBy_any hg _
theorem Grew.at_ {w w' : World} {v v' : Value} (h : Grew w w' v v') : v'.ownBlock = v.ownBlock ∨ v'.ownBlock = some w.heap.size := by
  rcases h with ⟨rfl, _⟩ | ⟨g, n, n', c, rfl, rfl, hg⟩ | ⟨h, hg⟩
  · exact .inl rfl
  · exact .inl rfl
  · exact .inr h
theorem Grew.size {w w' : World} {v v' : Value} (h : Grew w w' v v') : w.heap.size ≤ w'.heap.size := h.by_.size
theorem Grew.bel {α : Type} {f : α → Value} {w w' : World} {v v' : Value} {base E : Nat} {xs : List α} (h : Grew w w' v v') (hown : Own f w base E v xs) (hbase : base ≤ w.heap.size) {C : Nat} {w0 : World} (hC : C ≤ base) (hb : Below C w0 w) : Below C w0 w' :=
  hb.grown h.by_ (by omega) (fun k hk => by have := (hown.lt k hk).1; omega)

section
variable {α : Type} {f : α → Value} {P : Program} {w : World}
/-- append of a slice that is read onto a row that the call owns -/
theorem run_append_grew (hf : ∀ x, (f x).oneCell' = true) (base : Nat) (t ty e : TypeId) (i : TypeInfo) (z : Value) (bytes : Nat) (ht : P.underlying t = some (.slice e)) (hi : P.info? e = some i) (hz : i.zero = some z)
    (hsize : i.size = 1) (hby : i.bytes = bytes) (hzs : z.cells.size = 1)
    (v : Value) (xs : List α) (hown : Own f w base e v xs)
    (B : Nat) (A : Option Addr) (c : Nat) (ys : List α) (hr : Rd f w B A ys)
    (h63 : xs.length + ys.length ≤ maxLen) (hbytes : (xs.length + ys.length) * bytes ≤ 140737488355328) (hbase : base ≤ w.heap.size) :
    ∃ v' w', (Builtin.append_ #[t, t] ty #[v, .slice A ys.length c]).run P w = .ok v' w' ∧ Own f w' base e v' (xs ++ ys) ∧ Grew w w' v v' := by
  have hnil : ys = [] → (Builtin.append_ #[t, t] ty #[v, .slice none ys.length c]).run P w = .ok v w := by
    rintro rfl
    rcases hown.2 with ⟨rfl, _⟩ | ⟨g, cap, cur, rfl, _, _, hnc, _⟩
    · simp [Builtin.append_, run_underlying ht, sizeOf, typeInfo, hi, Builtin.lenOf, Builtin.firstCells]
    · simp [Builtin.append_, run_underlying ht, sizeOf, typeInfo, hi, Builtin.lenOf, Builtin.firstCells, hnc, storeCells]
  rcases A with _ | ad
  · have hm : ys = [] := by
      rcases Nat.eq_zero_or_pos ys.length with h0 | h0
      · exact List.eq_nil_of_length_eq_zero h0
      · obtain ⟨b, off, h, _⟩ := hr h0
        cases h
    exact ⟨v, w, hnil hm, by subst hm; simpa using hown, .inl ⟨rfl, rfl⟩⟩
  have hcells := hr.cells rfl
  have h1 : ∀ u ∈ ys.map f, u.oneCell' = true := by intro u hu; obtain ⟨x, _, rfl⟩ := List.mem_map.1 hu; exact hf x
  have hsmall : xs.length + ys.length ≤ 9223372036854775807 := by simp only [maxLen] at h63; omega
  have grown : ∀ (old : Nat), old < xs.length + ys.length →
      Own f (w.drew.alloc (.cells ((xs.map f).toArray ++ (ys.map f).toArray ++ Builtin.zeroCells z.cells (grownCap w (xs.length + ys.length) old e - (xs.length + ys.length))) e)) base e
        (.slice (some ⟨w.heap.size, 0, none⟩) (xs.length + ys.length) (grownCap w (xs.length + ys.length) old e)) (xs ++ ys) ∧
      w.grownBy (w.drew.alloc (.cells ((xs.map f).toArray ++ (ys.map f).toArray ++ Builtin.zeroCells z.cells (grownCap w (xs.length + ys.length) old e - (xs.length + ys.length))) e)) none := by
    intro old ho
    have hge := grownCap_ge w (xs.length + ys.length) old e
    have hcm := grownCap_le_maxLen w (xs.length + ys.length) old e h63
    refine ⟨⟨by simp, .inr ⟨w.heap.size, _, _, by rw [List.length_append], hbase, heap_alloc_new w.drew _, by rw [List.length_append]; exact hge, hcm, ?_, ?_⟩⟩, ⟨rfl, rfl, rfl, by simp, fun k hk _ => heap_alloc_old w.drew _ hk⟩⟩
    · simp only [Array.size_append, List.size_toArray, List.length_map, size_zeroCells, hzs]
      omega
    · simp only [Array.toList_append, Nat.mul_one]
      rw [← List.map_append, List.take_append_of_le_length (by simp)]
      exact List.take_of_length_le (by simp)
  rcases hown.2 with ⟨rfl, h0⟩ | ⟨g, cap, cur, rfl, hbg, hg, hnc, hcm, hcs, htake⟩
  · have hx : xs = [] := List.eq_nil_of_length_eq_zero h0
    subst hx
    rcases Nat.eq_zero_or_pos ys.length with hm | hm
    · have hy : ys = [] := List.eq_nil_of_length_eq_zero hm
      subst hy
      refine ⟨.slice none 0 0, w, ?_, Own.nil_ f w base e, .inl ⟨rfl, rfl⟩⟩
      simp [Builtin.append_, run_underlying ht, sizeOf, typeInfo, hi, Builtin.lenOf, Builtin.firstCells, loadCells, loadCellsFrom]
    · have hr := run_append_nil (P := P) w t ty e i z ht hi hz ad ys.length c (ys.map f) (by simp [hsize]) hcells hm (by simp at hsmall; omega) (by rw [hby]; have hb := hbytes; simp only [List.length_nil, Nat.zero_add] at hb; omega)
      have hgr := grown 0 (by simpa using hm)
      simp only [List.length_nil, Nat.zero_add, List.map_nil, List.nil_append, Array.empty_append] at hgr ⊢
      exact ⟨_, _, hr, hgr.1, .inr (.inr ⟨rfl, hgr.2⟩)⟩
  · by_cases hroom : xs.length + ys.length ≤ cap
    · obtain ⟨w', hr, ho, hgr⟩ := run_append_fits (P := P) w base t ty e i 1 ht hi hsize g xs.length cap (xs.map f) hown ad ys.length c (ys.map f) (by simp) hcells h1 hroom
      exact ⟨_, w', hr, by unfold Own; rw [List.length_append, List.map_append]; exact ho, .inr (.inl ⟨g, _, _, cap, rfl, rfl, hgr⟩)⟩
    · have holds : ∀ j u, (xs.map f)[j]? = some u → w.cell? ((⟨g, 0, none⟩ : Addr).add j) = some u := World.ownsRow.cells (g := g) hown rfl
      have hr := run_append_grow (P := P) w t ty e i z ht hi hz ⟨g, 0, none⟩ xs.length cap (xs.map f) (by simp [hsize]) holds ad ys.length c (ys.map f) (by simp [hsize]) hcells (by omega) (by omega) (by rw [hby]; exact growslice_fits (by omega) hbytes)
      have hgr := grown cap (by omega)
      exact ⟨_, _, hr, hgr.1, .inr (.inr ⟨rfl, hgr.2⟩)⟩
theorem wpList_append_rd {ops : Array Oper} {rest : List Oper} {o : Oper} {a : Act} {Q : Exit → Act → World → Prop} (hgd : o.guard = none) (s x : Operand) (t : TypeId)
    (ho : o.op = .call { callee := .builtin .append, args := #[s, x], argTypes := #[t, t] })
    (hf : ∀ x, (f x).oneCell' = true) (base : Nat) (e : TypeId) (i : TypeInfo) (z : Value) (bytes : Nat) (ht : P.underlying t = some (.slice e)) (hi : P.info? e = some i) (hz : i.zero = some z)
    (hsize : i.size = 1) (hby : i.bytes = bytes) (hzs : z.cells.size = 1)
    (v : Value) (xs : List α) (hs : a.eval s = v) (hown : Own f w base e v xs)
    (B : Nat) (A : Option Addr) (m c : Nat) (ys : List α) (hx : a.eval x = .slice A m c) (hm : m = ys.length) (hr : Rd f w B A ys)
    (h63 : xs.length + ys.length ≤ maxLen) (hbytes : (xs.length + ys.length) * bytes ≤ 140737488355328) (hbase : base ≤ w.heap.size)
    (h : ∀ v' w', Own f w' base e v' (xs ++ ys) → Grew w w' v v' → (∀ C w0, C ≤ base → Below C w0 w → Below C w0 w') → wpList P ops Q rest (a.put o.dst v') w') : wpList P ops Q (o :: rest) a w := by
  subst hm
  refine wpList_plain hgd fun K hK => ?_
  obtain ⟨v', w', hrun, h2, h3⟩ := run_append_grew (P := P) hf base t o.type e i z bytes ht hi hz hsize hby hzs v xs hown B A c ys hr h63 hbytes hbase
  unfold Oper.wp execOp
  simp only [ho, resolve, invoke, builtin, Sem.run_bind, Sem.run_pure, Result.andThen_ok, List.map_toArray, List.map_cons, List.map_nil, hs, hx, hrun]
  exact hK _ _ (h v' w' h2 h3 (fun C w0 hC hb => h3.bel hown hbase hC hb))
end
theorem b8_one (x : BitVec 8) : (b8 x).oneCell' = true := rfl

/-- the new cells of a list of elements, just laid -/
theorem Rd.new {α : Type} (f : α → Value) (w : World) (E : TypeId) (xs : List α) : Rd f (w.alloc (.cells (xs.map f).toArray E)) (w.heap.size + 1) (some ⟨w.heap.size, 0, none⟩) xs := fun _ =>
  ⟨w.heap.size, 0, rfl, by omega, fun j u hu => by
    rw [Nat.zero_add, cell_of_row _ w.heap.size j (xs.map f).toArray E (0, 0) (heap_alloc_new w _)]
    simp [hu]⟩
/-- the same as one step of a region that draws its order -/
theorem step_append_rd {α : Type} {f : α → Value} {P : Program} {w : World} {ops : Array Oper} {o : Oper} {a : Act} {K : Act → World → Prop} {Q : Exit → Act → World → Prop} {F : Prop} (hgd : o.guard = none) (s x : Operand) (t : TypeId)
    (ho : o.op = .call { callee := .builtin .append, args := #[s, x], argTypes := #[t, t] })
    (hf : ∀ x, (f x).oneCell' = true) (base : Nat) (e : TypeId) (i : TypeInfo) (z : Value) (bytes : Nat) (ht : P.underlying t = some (.slice e)) (hi : P.info? e = some i) (hz : i.zero = some z)
    (hsize : i.size = 1) (hby : i.bytes = bytes) (hzs : z.cells.size = 1)
    (v : Value) (xs : List α) (hs : a.eval s = v) (hown : Own f w base e v xs)
    (B : Nat) (A : Option Addr) (m c : Nat) (ys : List α) (hx : a.eval x = .slice A m c) (hm : m = ys.length) (hr : Rd f w B A ys)
    (h63 : xs.length + ys.length ≤ maxLen) (hbytes : (xs.length + ys.length) * bytes ≤ 140737488355328) (hbase : base ≤ w.heap.size)
    (h : ∀ v' w', Own f w' base e v' (xs ++ ys) → Grew w w' v v' → (∀ C w0, C ≤ base → Below C w0 w → Below C w0 w') → K (a.put o.dst v') w') :
    if Region.wanted o (yielded ops a.tmps) = true then Oper.wp P o a w K Q else F := by
  have hw : Region.wanted o (yielded ops a.tmps) = true := by simp [Region.wanted, hgd]
  rw [if_pos hw]
  subst hm
  obtain ⟨v', w', hrun, h2, h3⟩ := run_append_grew (P := P) hf base t o.type e i z bytes ht hi hz hsize hby hzs v xs hown B A c ys hr h63 hbytes hbase
  unfold Oper.wp execOp
  simp only [ho, resolve, invoke, builtin, Sem.run_bind, Sem.run_pure, Result.andThen_ok, List.map_toArray, List.map_cons, List.map_nil, hs, hx, hrun]
  exact h v' w' h2 h3 (fun C w0 hC hb => h3.bel hown hbase hC hb)
/-- a slice as a value -/
abbrev Sl := Option Addr × Nat × Nat
def sl (x : Sl) : Value := .slice x.1 x.2.1 x.2.2
theorem sl_one (x : Sl) : (sl x).oneCell' = true := rfl
theorem sl_mk (A : Option Addr) (n c : Nat) : sl (A, n, c) = .slice A n c := rfl
theorem Own.sl_ {α : Type} {f : α → Value} {w : World} {B E : Nat} {v : Value} {xs : List α} (h : Own f w B E v xs) : ∃ A c, v = sl (A, xs.length, c) ∧ Rd f w w.heap.size A xs ∧ (A = none → c = 0) ∧ xs.length ≤ c ∧ c ≤ maxLen := h.shape

/-- rows of unlike element types lie in unlike blocks -/
theorem Own.unlike {α β : Type} {f : α → Value} {f' : β → Value} {w : World} {B B' E E' : Nat} {v v' : Value} {xs : List α} {ys : List β} (h : Own f w B E v xs) (h' : Own f' w B' E' v' ys) (hE : E ≠ E') (b : Nat) (hb : v.ownBlock = some b) : v'.ownBlock ≠ some b := by
  intro hb'
  rcases h.2 with ⟨rfl, _⟩ | ⟨g, cap, cur, rfl, _, hg, _⟩
  · cases hb
  · rcases h'.2 with ⟨rfl, _⟩ | ⟨g', cap', cur', rfl, _, hg', _⟩
    · cases hb'
    · simp only [Value.ownBlock, Option.some.injEq] at hb hb'
      subst hb; subst hb'
      rw [hg] at hg'
      injection hg' with e
      injection e with _ e2
      exact hE e2
theorem Own.rd {α : Type} {f : α → Value} {w : World} {B E : Nat} {A : Option Addr} {n c : Nat} {xs : List α} (h : Own f w B E (.slice A n c) xs) : Rd f w w.heap.size A xs := by
  obtain ⟨A', c', e, hr, _⟩ := h.shape
  injection e with e1 e2 e3
  subst e1
  exact hr
theorem Own.len {α : Type} {f : α → Value} {w : World} {B E : Nat} {A : Option Addr} {n c : Nat} {xs : List α} (h : Own f w B E (.slice A n c) xs) : n = xs.length := by
  obtain ⟨A', c', e, hr, _⟩ := h.shape
  injection e with e1 e2 e3
theorem Rd.grown {α : Type} {f : α → Value} {w w' : World} {B : Nat} {A : Option Addr} {xs : List α} {row : Option Nat} (h : Rd f w B A xs) (hg : w.grownBy w' row) (hB : B ≤ w.heap.size) (hne : ∀ a : Addr, A = some a → some a.block ≠ row) : Rd f w' B A xs := fun hn => by
  obtain ⟨b, off, e, hb, hc⟩ := h hn
  exact ⟨b, off, e, hb, fun j u hu => (World.cell?_of_block (hg.block b (by omega) (hne _ e))).trans (hc j u hu)⟩
theorem grownBy_trans {a b c : World} {r s : Option Nat} (h : a.grownBy b r) (k : b.grownBy c s) (hs : ∀ g, s = some g → r = some g ∨ a.heap.size ≤ g) : a.grownBy c r :=
  ⟨k.os.trans h.os, k.tape.trans h.tape, k.output.trans h.output, Nat.le_trans h.size k.size, fun i hi hne =>
    (k.block i (Nat.lt_of_lt_of_le hi h.size) (fun e => by
      rcases hs i e.symm with h1 | h1
      · exact hne h1.symm
      · omega)).trans (h.block i hi hne)⟩
theorem Own.notBlock {α : Type} {f : α → Value} {w : World} {B E : Nat} {v : Value} {xs : List α} (h : Own f w B E v xs) {n : Nat} (hn : w.heap.size ≤ n) : v.ownBlock ≠ some n := fun e => by have := (h.lt n e).2; omega
theorem Own.kept' {α : Type} {f : α → Value} {w w' : World} {B E : Nat} {v : Value} {xs : List α} (h : Own f w B E v xs) {row : Option Nat} (hg : w.grownBy w' row) (hne : ∀ g, row = some g → v.ownBlock ≠ some g) : Own f w' B E v xs :=
  h.kept hg (by
    cases hv : v.ownBlock with
    | none => exact .inl rfl
    | some k => exact .inr (fun e => hne k e.symm hv))

theorem Own.short {α : Type} {f : α → Value} {w : World} {B E : Nat} {A : Option Addr} {m c : Nat} {ys : List α} (h : Own f w B E (.slice A m c) ys) (n : Nat) (hn : n ≤ m) : Own f w B E (.slice A n c) (ys.take n) := by
  have hm := h.len
  rcases h.2 with ⟨e, h0⟩ | ⟨g, cap, cur, e, hb, hg, hnc, hcm, hs, ht⟩
  · injection e with e1 e2 e3
    subst e1; subst e2; subst e3
    obtain rfl : n = 0 := by omega
    exact (Own.nil_ f w B E).cast (by simp)
  · injection e with e1 e2 e3
    subst e1; subst e3
    refine ⟨by simp, .inr ⟨g, c, cur, ?_, hb, hg, ?_, hcm, hs, ?_⟩⟩
    · rw [List.length_take, Nat.min_eq_left (by omega)]
    · rw [List.length_take]; omega
    · rw [List.map_take, ← ht, List.take_take, List.length_take]
      congr 1
      omega
end Go.Proofs.Ytkoefhbmkmepaaa
