/- PLAIN LEMMAS: a block that is known whole, cell by cell ('Blk'). No program, no conditions. -/
import Derived.Test.YtkoefhbmkmepaaaArr
import Derived.RangeFuncBox
import Derived.OwnWalk
import Derived.Test.YtkoefhbmkmepaaaOpn
import Derived.Deep.Slices
namespace Go.Proofs.Ytkoefhbmkmepaaa
open Go.RowKit

/-- block g holds just these cells -/
def Blk (w : World) (g : Nat) (T : TypeId) (cs : List Value) : Prop := w.heap[g]? = some (.cells cs.toArray T (0, 0))
section
variable {w w' : World} {g : Nat} {T : TypeId} {cs : List Value}
theorem Blk.arr (h : Blk w g T cs) : Arr (fun v : Value => v) w g T cs := by unfold Arr; rw [List.map_id']; exact h
theorem blk_arr (h : Arr (fun v : Value => v) w g T cs) : Blk w g T cs := by unfold Arr at h; rw [List.map_id'] at h; exact h
theorem Blk.lt (h : Blk w g T cs) : g < w.heap.size := h.arr.lt
theorem Blk.cell (h : Blk w g T cs) (k : Nat) {u : Value} (hk : cs[k]? = some u) : w.cell? ⟨g, k, none⟩ = some u := h.arr.at_ hk
theorem Blk.frozen (h : Blk w g T cs) (k : Nat) : w.frozen? ⟨g, k, none⟩ = false := h.arr.frozen k
theorem Blk.new (w : World) (T : TypeId) (cs : List Value) : Blk (w.alloc (.cells cs.toArray T)) w.heap.size T cs := heap_alloc_new w _
theorem Blk.at_size {w : World} (T : TypeId) (cs : List Value) {k : Nat} (h : w.heap.size = k) : Blk (w.alloc (.cells cs.toArray T)) k T cs := by subst h; exact Blk.new w T cs
theorem Blk.drewN (h : Blk w g T cs) (k : Nat) : Blk (w.drewN k) g T cs := h
theorem Blk.drew (h : Blk w g T cs) : Blk w.drew g T cs := h
theorem Blk.alloc (h : Blk w g T cs) (o : Obj) : Blk (w.alloc o) g T cs := (Below.heap_alloc w o g h.lt).trans h
theorem Blk.below {B : Nat} (h : Blk w g T cs) (hb : Below B w w') (hg : g < B) : Blk w' g T cs := (hb.block g hg).trans h
theorem Blk.grown {row : Option Nat} (h : Blk w g T cs) (hb : w.grownBy w' row) (hg : some g ≠ row) : Blk w' g T cs := (hb.block g h.lt hg).trans h
theorem Blk.set_ (h : Blk w g T cs) (k : Nat) (u : Value) : Blk (w.setCell ⟨g, k, none⟩ u) g T (cs.set k u) := blk_arr (h.arr.set_ k u)
theorem Blk.far (h : Blk w g T cs) {p : Addr} (hp : g ≠ p.block) (u : Value) : Blk (w.setCell p u) g T cs := (Below.heap_setCell w p u g hp).trans h
theorem Blk.cast {ds : List Value} (h : Blk w g T cs) (e : cs = ds) : Blk w g T ds := e ▸ h
theorem Blk.range (h : Blk w g T cs) (o n : Nat) : w.rangeAt g o ((cs.drop o).take n) := by have := h.arr.range o n; rwa [List.map_id'] at this
theorem Blk.whole (h : Blk w g T cs) : w.rangeAt g 0 cs := by have := h.arr.whole; rwa [List.map_id'] at this
theorem Blk.not_row {α : Type} {f : α → Value} {B : Nat} {e : TypeId} {v : Value} {xs : List α} (h : Blk w g T cs) (hte : T ≠ e) (hr : Own f w B e v xs) : some g ≠ v.ownBlock := by
  rcases hr.2 with ⟨rfl, _⟩ | ⟨g', cap, cur, rfl, _, hgb, _⟩
  · simp [Value.ownBlock]
  · intro e'
    obtain rfl : g = g' := by simpa [Value.ownBlock] using e'
    have : w.heap[g]? = some (.cells cs.toArray T (0, 0)) := h
    rw [this] at hgb; cases hgb; exact hte rfl
theorem grownBy_set (W : World) (b k : Nat) (v : Value) : W.grownBy (W.setCell ⟨b, k, none⟩ v) (some b) :=
  ⟨rfl, rfl, rfl, (KeepsWalks.setCell W _ v).size, fun j _ hj => Below.heap_setCell _ _ _ j (fun e => hj (by rw [e]))⟩
end
end Go.Proofs.Ytkoefhbmkmepaaa

/- PLAIN LEMMAS: rows of structs, as rows of cells. No program, no conditions. -/
namespace Go.Proofs.Ytkoefhbmkmepaaa
open Go.RowKit
set_option linter.unusedVariables false
set_option linter.unusedSimpArgs false

/-- cells that are read -/
abbrev RdV (w : World) (B : Nat) (A : Option Addr) (us : List Value) : Prop := Rd (fun v : Value => v) w B A us
theorem flat_len {α β : Type} {f : α → List β} {K : Nat} : ∀ {xs : List α}, (∀ x ∈ xs, (f x).length = K) → (xs.flatMap f).length = xs.length * K
  | [], _ => by simp
  | x :: xs, h => by
    rw [List.flatMap_cons, List.length_append, h x (by simp), flat_len (xs := xs) (fun y hy => h y (by simp [hy])), List.length_cons, Nat.add_mul]; omega
theorem flat_at {α β : Type} {f : α → List β} {K : Nat} : ∀ {xs : List α} {k : Nat} {x : α}, (∀ x ∈ xs, (f x).length = K) → xs[k]? = some x → ∀ j u, (f x)[j]? = some u → (xs.flatMap f)[K * k + j]? = some u
  | [], k, x, _, hk => by simp at hk
  | y :: xs, 0, x, h, hk => fun j u hj => by
    simp at hk; subst hk
    rw [List.flatMap_cons, List.getElem?_append_left (by have := (List.getElem?_eq_some_iff.1 hj).1; omega)]
    simpa using hj
  | y :: xs, k + 1, x, h, hk => fun j u hj => by
    rw [List.flatMap_cons, List.getElem?_append_right (by rw [h y (by simp), Nat.mul_add]; omega), h y (by simp), show K * (k + 1) + j - K = K * k + j by rw [Nat.mul_add]; omega]
    exact flat_at (xs := xs) (fun z hz => h z (by simp [hz])) (by simpa using hk) j u hj
/-- an element of a row of structs -/
theorem RdV.elem {α : Type} {f : α → List Value} {K : Nat} {w : World} {B : Nat} {A : Option Addr} {xs : List α} (h : RdV w B A (xs.flatMap f)) (hK : ∀ x ∈ xs, (f x).length = K) (hK0 : 0 < K) {k : Nat} {x : α} (hk : xs[k]? = some x) :
    ∃ b off, A = some ⟨b, off, none⟩ ∧ b < B ∧ w.rangeAt b (off + K * k) (f x) := by
  have hlt := (List.getElem?_eq_some_iff.1 hk).1
  obtain ⟨b, off, e, hb, hc⟩ := h (by rw [flat_len hK]; exact Nat.mul_pos (by omega) hK0)
  refine ⟨b, off, e, hb, fun j u hj => ?_⟩
  rw [Nat.add_assoc]
  exact hc _ _ (flat_at hK hk j u hj)

section
variable {P : Program} {w : World}
/-- append of structs that are read onto a row that the call owns -/
theorem run_append_row (K : Nat) (hK : 0 < K) (base : Nat) (t ty e : TypeId) (i : TypeInfo) (z : Value) (bytes : Nat) (ht : P.underlying t = some (.slice e)) (hi : P.info? e = some i) (hz : i.zero = some z)
    (hsize : i.size = K) (hby : i.bytes = bytes) (hzs : z.cells.size = K)
    (v : Value) (n : Nat) (us : List Value) (hown : w.ownsRow base e K v n us)
    (B : Nat) (A : Option Addr) (m c : Nat) (news : List Value) (hl : news.length = m * K) (hm : 0 < m) (hr : RdV w B A news) (h1 : ∀ u ∈ news, u.oneCell' = true)
    (h63 : n + m ≤ maxLen) (hbytes : (n + m) * bytes ≤ 140737488355328) (hbase : base ≤ w.heap.size) :
    ∃ v' w', (Builtin.append_ #[t, t] ty #[v, .slice A m c]).run P w = .ok v' w' ∧ w'.ownsRow base e K v' (n + m) (us ++ news) ∧ Grew w w' v v' := by
  obtain ⟨b0, off0, rfl, hb0, hc0⟩ := hr (by rw [hl]; exact Nat.mul_pos hm hK)
  have hcells : ∀ j u, news[j]? = some u → w.cell? ((⟨b0, off0, none⟩ : Addr).add j) = some u := fun j u hu => by
    have := hc0 j u hu
    rw [Addr.add_lit]; exact this
  have hsmall : n + m ≤ 9223372036854775807 := by simp only [maxLen] at h63; omega
  have hul := hown.1
  have grown : ∀ (old : Nat), old < n + m →
      (w.drew.alloc (.cells (us.toArray ++ news.toArray ++ Builtin.zeroCells z.cells (grownCap w (n + m) old e - (n + m))) e)).ownsRow base e K
        (.slice (some ⟨w.heap.size, 0, none⟩) (n + m) (grownCap w (n + m) old e)) (n + m) (us ++ news) ∧
      w.grownBy (w.drew.alloc (.cells (us.toArray ++ news.toArray ++ Builtin.zeroCells z.cells (grownCap w (n + m) old e - (n + m))) e)) none := by
    intro old ho
    have hge := grownCap_ge w (n + m) old e
    have hcm := grownCap_le_maxLen w (n + m) old e h63
    refine ⟨⟨by rw [List.length_append, hul, hl, Nat.add_mul], .inr ⟨w.heap.size, _, _, rfl, hbase, heap_alloc_new w.drew _, hge, hcm, ?_, ?_⟩⟩, ⟨rfl, rfl, rfl, by simp, fun k hk _ => heap_alloc_old w.drew _ hk⟩⟩
    · simp only [Array.size_append, List.size_toArray, size_zeroCells, hzs, hul, hl]
      rw [← Nat.add_mul, ← Nat.add_mul]
      congr 1
      omega
    · simp only [Array.toList_append]
      rw [List.take_append_of_le_length (by simp [hul, hl, Nat.add_mul])]
      exact List.take_of_length_le (by simp [hul, hl, Nat.add_mul])
  rcases hown.2 with ⟨rfl, h0⟩ | ⟨g, cap, cur, rfl, hbg, hg, hnc, hcm, hcs, htake⟩
  · subst h0
    have hx : us = [] := List.eq_nil_of_length_eq_zero (by rw [hul]; simp)
    subst hx
    have hr := run_append_nil (P := P) w t ty e i z ht hi hz ⟨b0, off0, none⟩ m c news (by rw [hl, hsize]) hcells hm (by simp at hsmall; omega) (by rw [hby]; have hb := hbytes; simp only [Nat.zero_add] at hb; omega)
    have hgr := grown 0 (by simpa using hm)
    simp only [Nat.zero_add, List.nil_append, Array.empty_append] at hgr ⊢
    exact ⟨_, _, hr, hgr.1, .inr (.inr ⟨rfl, hgr.2⟩)⟩
  · by_cases hroom : n + m ≤ cap
    · obtain ⟨w', hr, ho, hgr⟩ := run_append_fits (P := P) w base t ty e i K ht hi hsize g n cap us hown ⟨b0, off0, none⟩ m c news hl hcells h1 hroom
      exact ⟨_, w', hr, ho, .inr (.inl ⟨g, _, _, cap, rfl, rfl, hgr⟩)⟩
    · have holds : ∀ j u, us[j]? = some u → w.cell? ((⟨g, 0, none⟩ : Addr).add j) = some u := World.ownsRow.cells (g := g) hown rfl
      have hr := run_append_grow (P := P) w t ty e i z ht hi hz ⟨g, 0, none⟩ n cap us (by rw [hul, hsize]) holds ⟨b0, off0, none⟩ m c news (by rw [hl, hsize]) hcells (by omega) (by omega) (by rw [hby]; exact growslice_fits (by omega) hbytes)
      have hgr := grown cap (by omega)
      exact ⟨_, _, hr, hgr.1, .inr (.inr ⟨rfl, hgr.2⟩)⟩
theorem rowS_bel {w w' : World} {v v' : Value} {base E K n : Nat} {us : List Value} (h : Grew w w' v v') (hown : w.ownsRow base E K v n us) (hbase : base ≤ w.heap.size) {C : Nat} {w0 : World} (hC : C ≤ base) (hb : Below C w0 w) : Below C w0 w' :=
  hb.grown h.by_ (by omega) (fun k hk => by have := (World.ownsRow.lt hown k hk).1; omega)
theorem wpList_append_row {ops : Array Oper} {rest : List Oper} {o : Oper} {a : Act} {Q : Exit → Act → World → Prop} (hgd : o.guard = none) (s x : Operand) (t : TypeId)
    (ho : o.op = .call { callee := .builtin .append, args := #[s, x], argTypes := #[t, t] })
    (K : Nat) (hK : 0 < K) (base : Nat) (e : TypeId) (i : TypeInfo) (z : Value) (bytes : Nat) (ht : P.underlying t = some (.slice e)) (hi : P.info? e = some i) (hz : i.zero = some z)
    (hsize : i.size = K) (hby : i.bytes = bytes) (hzs : z.cells.size = K)
    (v : Value) (n : Nat) (us : List Value) (hs : a.eval s = v) (hown : w.ownsRow base e K v n us)
    (B : Nat) (A : Option Addr) (m c : Nat) (news : List Value) (hx : a.eval x = .slice A m c) (hl : news.length = m * K) (hm : 0 < m) (hr : RdV w B A news) (h1 : ∀ u ∈ news, u.oneCell' = true)
    (h63 : n + m ≤ maxLen) (hbytes : (n + m) * bytes ≤ 140737488355328) (hbase : base ≤ w.heap.size)
    (h : ∀ v' w', w'.ownsRow base e K v' (n + m) (us ++ news) → Grew w w' v v' → (∀ C w0, C ≤ base → Below C w0 w → Below C w0 w') → wpList P ops Q rest (a.put o.dst v') w') : wpList P ops Q (o :: rest) a w := by
  refine wpList_plain hgd fun K' hK' => ?_
  obtain ⟨v', w', hrun, h2, h3⟩ := run_append_row (P := P) K hK base t o.type e i z bytes ht hi hz hsize hby hzs v n us hown B A m c news hl hm hr h1 h63 hbytes hbase
  unfold Oper.wp execOp
  simp only [ho, resolve, invoke, builtin, Sem.run_bind, Sem.run_pure, Result.andThen_ok, List.map_toArray, List.map_cons, List.map_nil, hs, hx, hrun]
  exact hK' _ _ (h v' w' h2 h3 (fun C w0 hC hb => rowS_bel h3 hown hbase hC hb))
end
section
variable {w w' : World} {B E K n : Nat} {v : Value} {us : List Value}
theorem rowS_shape (h : w.ownsRow B E K v n us) : ∃ A c, v = .slice A n c ∧ RdV w w.heap.size A us ∧ (A = none → c = 0) ∧ n ≤ c ∧ c ≤ maxLen := by
  rcases h.2 with ⟨rfl, h0⟩ | ⟨g, cap, cur, rfl, hb, hg, hnc, hcm, hcs, htake⟩
  · subst h0
    have hx : us = [] := List.eq_nil_of_length_eq_zero (by rw [h.1]; simp)
    subst hx
    exact ⟨none, 0, rfl, Rd.nil_ _ _ _ _, fun _ => rfl, Nat.le_refl _, by simp [maxLen]⟩
  · refine ⟨some ⟨g, 0, none⟩, cap, rfl, fun _ => ⟨g, 0, rfl, ?_, fun j u hu => ?_⟩, (fun h => by cases h), hnc, hcm⟩
    · exact ((World.ownsRow.lt h g rfl)).2
    · have := World.ownsRow.cells h (g := g) rfl j u hu
      rw [Addr.add_lit] at this
      exact this
theorem rowS_below {C : Nat} (h : w.ownsRow B E K v n us) (hb : Below C w w') (hC : w.heap.size ≤ C) : w'.ownsRow B E K v n us := by
  refine ⟨h.1, ?_⟩
  rcases h.2 with h0 | ⟨g, cap, cur, hv, hbg, hg, rest⟩
  · exact .inl h0
  · have hlt : g < w.heap.size := by have := World.ownsRow.lt h g (by rw [hv]; rfl); exact this.2
    exact .inr ⟨g, cap, cur, hv, hbg, (hb.block g (by omega)).trans hg, rest⟩
theorem rowS_less {B' : Nat} (h : w.ownsRow B E K v n us) (hB : B' ≤ B) : w.ownsRow B' E K v n us := by
  refine ⟨h.1, ?_⟩
  rcases h.2 with h0 | ⟨g, cap, cur, hv, hbg, rest⟩
  · exact .inl h0
  · exact .inr ⟨g, cap, cur, hv, by omega, rest⟩
/-- rows of other types lie elsewhere -/
theorem rowS_unlike {B' E' K' n' : Nat} {v' : Value} {us' : List Value} (h : w.ownsRow B E K v n us) (h' : w.ownsRow B' E' K' v' n' us') (hE : E ≠ E') (b : Nat) (hb : v.ownBlock = some b) : v'.ownBlock ≠ some b := by
  intro hb'
  rcases h.2 with ⟨rfl, _⟩ | ⟨g, cap, cur, rfl, _, hg, _⟩
  · cases hb
  · rcases h'.2 with ⟨rfl, _⟩ | ⟨g', cap', cur', rfl, _, hg', _⟩
    · cases hb'
    · simp only [Value.ownBlock, Option.some.injEq] at hb hb'
      subst hb; subst hb'
      rw [hg] at hg'
      injection hg' with e
      injection e with _ e2
      exact hE e2
theorem rowS_kept' (h : w.ownsRow B E K v n us) {row : Option Nat} (hg : w.grownBy w' row) (hne : ∀ g, row = some g → v.ownBlock ≠ some g) : w'.ownsRow B E K v n us := by
  cases row with
  | none => exact World.ownsRow.kept h hg (by cases hv : v.ownBlock <;> simp)
  | some g => exact World.ownsRow.kept h hg (.inr (hne g rfl))
/-- a struct that was just boxed as a row of one -/
theorem rdV_new (w : World) (E : TypeId) (us : List Value) : RdV (w.alloc (.cells us.toArray E)) (w.heap.size + 1) (some ⟨w.heap.size, 0, none⟩) us := by
  have := Rd.new (fun v : Value => v) w E us
  rwa [List.map_id'] at this
end
end Go.Proofs.Ytkoefhbmkmepaaa

/- PLAIN LEMMAS: how a slice of structs that came in is read. No conditions. -/
namespace Go.Proofs.Ytkoefhbmkmepaaa
open Go.ChangeShapes Go.WideShapes Go.ChangeAt Go.RowKit
set_option linter.unusedVariables false
theorem flat_get {α β : Type} {f : α → List β} {K : Nat} (hK0 : 0 < K) : ∀ {xs : List α} {j : Nat} {u : β}, (∀ x ∈ xs, (f x).length = K) → (xs.flatMap f)[j]? = some u → ∃ x, xs[j / K]? = some x ∧ (f x)[j % K]? = some u
  | [], j, u, _, h => by simp at h
  | x :: xs, j, u, hK, h => by
    have hx := hK x (by simp)
    rw [List.flatMap_cons] at h
    by_cases hj : j < K
    · rw [List.getElem?_append_left (by omega)] at h
      refine ⟨x, ?_, ?_⟩
      · rw [Nat.div_eq_of_lt hj]; rfl
      · rw [Nat.mod_eq_of_lt hj]; exact h
    · rw [List.getElem?_append_right (by omega), hx] at h
      obtain ⟨y, h1, h2⟩ := flat_get hK0 (xs := xs) (fun z hz => hK z (by simp [hz])) h
      have e1 : j / K = (j - K) / K + 1 := by rw [Nat.div_eq_sub_div hK0 (by omega)]
      have e2 : j % K = (j - K) % K := Nat.mod_eq_sub_mod (by omega)
      exact ⟨y, by rw [e1]; simpa using h1, by rw [e2]; exact h2⟩
section
variable {H : Type} {enc : TypeId × Value → H} {P : Program} {w : World} {base : Nat} {spare : Nat → Bool} {held : Bool}
theorem open_rowS {α : Type} [Inhabited α] (f : α → List Value) (K : Nat) (hK0 : 0 < K) (good : α → Prop) {t e : TypeId} {fuel : Nat} {x : DataW H × List MemPlace} {A : Option Addr} {n c : Nat} (ht : P.underlying t = some (.slice e)) (hc : P.cellsOf e = K)
    (hel : ∀ (m : Nat) (L : List Value) (y : DataW H × List MemPlace), DataW.trod enc P w base spare held m e L = some y → ∃ x, L = f x ∧ (f x).length = K ∧ good x)
    (h : DataW.trod enc P w base spare held fuel t (Value.slice A n c).cells.toList = some x) :
    ∃ xs : List α, RdV w w.heap.size A (xs.flatMap f) ∧ (∀ x ∈ xs, good x) ∧ xs.length = n ∧ n ≤ c ∧ c ≤ maxLen := by
  rcases DataW.trod_slice ht h with ⟨hcs, _⟩ | ⟨a, l, cap, elems, rest, m, _, hcs, _, hb, hl, hm, hlen, hels, _, _⟩
  · simp [Value.cells] at hcs
    obtain ⟨rfl, rfl, rfl⟩ := hcs
    exact ⟨[], Rd.nil_ _ _ _ _, by simp, rfl, Nat.le_refl _, by simp [maxLen]⟩
  · simp [Value.cells] at hcs
    obtain ⟨rfl, rfl, rfl⟩ := hcs
    have each : ∀ i, i < n → ∃ x : α, (f x).length = K ∧ good x ∧ ∀ j u, (f x)[j]? = some u → w.cell? (a.add (i * K + j)) = some u := by
      intro i hi
      have h1 := hels i hi
      rw [List.getElem?_eq_getElem (by omega), hc] at h1
      obtain ⟨L, h2, h3⟩ := Option.bind_eq_some_iff.1 h1
      obtain ⟨x, rfl, hk, hg⟩ := hel _ _ _ h3
      refine ⟨x, hk, hg, fun j u hu => ?_⟩
      have hj : j < K := by have := (List.getElem?_eq_some_iff.1 hu).1; omega
      have h4 := (World.cells?_some h2).2.2 j hj
      rw [Deep.add_add] at h4
      rw [h4]; exact hu
    obtain ⟨g, hg⟩ := Deep.choose_lt each
    have hlen' : ∀ x ∈ (List.range n).map g, (f x).length = K := by
      intro x hx
      obtain ⟨i, hi, rfl⟩ := List.mem_map.1 hx
      exact (hg i (List.mem_range.1 hi)).1
    refine ⟨(List.range n).map g, fun hp => ?_, ?_, by simp, hl, hm⟩
    · rw [flat_len hlen', List.length_map, List.length_range] at hp
      have hn : 0 < n := Nat.pos_of_mul_pos_right hp
      obtain ⟨h1, -, h2⟩ := hg 0 hn
      obtain ⟨u0, hu0⟩ : ∃ u, (f (g 0))[0]? = some u := ⟨_, List.getElem?_eq_getElem (by omega)⟩
      have h0 := h2 0 u0 hu0
      obtain ⟨b, off, spot⟩ := a
      have hspot : spot = none := by simpa [Addr.add] using World.cell?_spot h0
      subst hspot
      refine ⟨b, off, rfl, lt_of_cell (a := ⟨b, off, none⟩) (by simpa [Addr.add] using h0), fun j u hu => ?_⟩
      obtain ⟨x, hx1, hx2⟩ := flat_get hK0 hlen' hu
      rw [List.getElem?_map] at hx1
      obtain ⟨i, hi, rfl⟩ := Option.map_eq_some_iff.1 hx1
      have hi2 := List.getElem?_eq_some_iff.1 hi
      obtain ⟨hi3, hi4⟩ := hi2
      rw [List.getElem_range] at hi4
      subst hi4
      rw [List.length_range] at hi3
      have h5 := (hg _ hi3).2.2 _ _ hx2
      rw [Addr.add_lit, Nat.div_add_mod' j K] at h5
      exact h5
    · intro x hx
      obtain ⟨i, hi, rfl⟩ := List.mem_map.1 hx
      exact (hg i (List.mem_range.1 hi)).2.1
end
end Go.Proofs.Ytkoefhbmkmepaaa
